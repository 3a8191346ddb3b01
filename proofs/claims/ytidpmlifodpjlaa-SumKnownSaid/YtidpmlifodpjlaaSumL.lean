/- The walk of SumKnown. -/
import Derived.Test.YtidpmlifodpjlaaSumK
import Derived.Laws.MakeOwn
namespace Go.Proofs.Ytidpmlifodpjlaa.Sm
open Go.RowKit
set_option linter.unusedVariables false

/-- What 'make([]byte, n)' lays is a row of bytes 0. -/
theorem make_buf (w : World) (n : Nat) (m : Int) (hm : m = n) (h : n ≤ 1000000) : ∃ w', (Instr.makeSlice 38 (.int .i64 m) (.int .i64 m)).run Try.prog w = .ok (.slice (some ⟨w.heap.size, 0, none⟩) n n) w' ∧ Buf w' w.heap.size (List.replicate n 0) ∧ Gw w w' := by
  obtain ⟨i, hi, hz, hs, hb⟩ : ∃ i, Try.prog.info? 5 = some i ∧ i.zero = some (.int .u8 0) ∧ i.size = 1 ∧ i.bytes = 1 := ⟨_, rfl, rfl, rfl, rfl⟩
  have hr := run_make (P := Try.prog) w 38 5 i (.int .u8 0) Try.underlying38 hi hz .i64 .i64 m m (by omega) (Int.le_refl _) (by rw [hb]; omega) (by omega)
  have hmn : m.toNat = n := by omega
  rw [hmn, hs, Nat.mul_one] at hr
  refine ⟨_, hr, ⟨by simp, fun j hj => ⟨?_, ?_⟩⟩, (Gw.refl w).alloc _⟩
  · have hj2 : j < n := by simpa using hj
    rw [World.cell?_alloc_new]
    have e1 : j % 1 = 0 := Nat.mod_one j
    simp [madeCells, hj2, Value.cells, e1]
  · have hj2 : j < n := by simpa using hj
    have : (w.alloc (.cells (madeCells (Value.int .u8 0).cells n) 5)).heap[w.heap.size]? = some (.cells (madeCells (Value.int .u8 0).cells n) 5) := by
      show (w.heap.push _)[w.heap.size]? = _
      simp
    unfold World.frozen?
    rw [this]
    simp

theorem wsum_many (n : Nat) : wsum (List.replicate (2 * n) 255) = 65535 * n := by
  induction n with
  | zero => simp [wsum]
  | succ n ih =>
    rw [show 2 * (n + 1) = 2 * n + 1 + 1 by omega, List.replicate_succ, List.replicate_succ]
    simp only [wsum, ih]
    have : ((255 : UInt8).toNat : Int) = 255 := by decide
    omega
theorem sm_many (n : Nat) (h0 : 0 < n) (h : n ≤ 1000000) : Sm (List.replicate (2 * n) 255) = 65535 := by
  rw [sm_fo _ (by simp; omega), wsum_many]
  unfold Fo
  split <;> omega

set_option maxRecDepth 100000 in
set_option maxHeartbeats 4000000 in
theorem sumKnown (w : World) : Calls Try.prog 8 #[] w fun e w' => e = .returned (.bool true) ∧ Gw w w' := by
  obtain ⟨N, hN⟩ : ∃ N : Nat, N = 65536 := ⟨_, rfl⟩
  have HN := Lib.hid hN
  obtain ⟨w1, hmk, hbuf, hg⟩ := make_buf w N 65536 (by omega) (by omega)
  obtain ⟨B, hB⟩ : ∃ B, w.heap.size = B := ⟨_, rfl⟩
  rw [hB] at hbuf hmk
  have HB := Lib.hid hB
  have HBUF := Lib.hid hbuf
  have HG : Hid (Below B w w1) := Lib.hid (by rw [← hB]; exact hg)
  clear hB hbuf hg hN
  go_enter Try.func8, Try.ntmps8
  go_wp2_with fail
  go_loopw [2] (fun v W => ∃ i : Nat, i ≤ N ∧ v = .int .i64 i ∧ Hid (Below B w W ∧ ∃ l : List UInt8, l.length = N ∧ (∀ j, j < i → l[j]? = some 255) ∧ Buf W B l)) (fun v _ => N - (intOf v).toNat)
  case atStart => exact ⟨0, by omega, rfl, Lib.hid ⟨HG.out, _, List.length_replicate, fun j hj => by omega, HBUF.out⟩⟩
  case round =>
    obtain ⟨i, hi, rfl, hh⟩ := hrel
    by_cases hlt : i < N
    · obtain ⟨hbel, l, hl, hll, hbuf⟩ := hh.out
      obtain ⟨x, hc, hf⟩ := hbuf.at i (by omega)
      have HBEL := Lib.hid hbel
      have HBUF' := Lib.hid hbuf
      have hltZ : (i : Int) < (N : Int) := by omega
      have hN2 : N ≤ 65536 := Nat.le_of_eq HN.out
      clear hbel hbuf hh
      go_wp2_with fail
      go_roundw
      case rel =>
        refine ⟨i + 1, by omega, by go_num, Lib.hid ⟨HBEL.out.setCell (p := ⟨B, i, none⟩) (Nat.le_refl _) _, l.set i 255, by simp [hl], fun j hj => ?_, HBUF'.out.set (by omega) 255⟩⟩
        by_cases e : j = i
        · subst e; rw [List.getElem?_set_self (by omega)]
        · rw [List.getElem?_set_ne (by omega)]; exact hll j (by omega)
      case measure => simp [intOf]; omega
    · obtain ⟨hbel, l, hl, hll, hbuf⟩ := hh.out
      obtain rfl : i = N := by omega
      have hl2 : l = List.replicate i 255 := by
        apply List.ext_getElem?
        intro j
        by_cases hj : j < i
        · rw [hll j hj, List.getElem?_replicate, if_pos hj]
        · rw [List.getElem?_eq_none (by omega), List.getElem?_eq_none (by simp; omega)]
      subst hl2
      have hcv : ∀ W, Gw wr W → (convert 38 9 (.slice (some ⟨B, 0, none⟩) i i)).run Try.prog W = .ok (.string ⟨(List.replicate i (255 : UInt8)).toArray⟩) W := fun W h => buf_str (hbuf.gw h) (by simp) i
      have hsm : Sm (⟨(List.replicate i (255 : UInt8)).toArray⟩ : ByteArray).data.toList = 65535 := by
        show Sm (List.replicate i (255 : UInt8)) = 65535
        rw [HN.out]; exact sm_many 32768 (by omega) (by omega)
      have hsz : (⟨(List.replicate i (255 : UInt8)).toArray⟩ : ByteArray).size ≤ 65536 := by
        show Array.size _ ≤ _
        rw [List.size_toArray, List.length_replicate, HN.out]; omega
      obtain ⟨s, hs⟩ : ∃ s, (⟨(List.replicate i (255 : UInt8)).toArray⟩ : ByteArray) = s := ⟨_, rfl⟩
      rw [hs] at hcv hsm hsz
      have HBEL := Lib.hid hbel
      clear hs hbuf hll hh hbel
      have f0 : Fo 0 = 0 := by decide
      have f1 : Fo 1 = 1 := by decide
      have f2 : Fo 131070 = 65535 := by decide
      have f3 : Fo 131071 = 1 := by decide
      have t1 : Tn 0 0 0 = 65535 := by decide
      have t2 : Tn 5 5 0 = 65535 := by decide
      have s1 : Sm [0] = 0 := by decide
      have s2 : Sm [255, 255] = 65535 := by decide
      have s3 : Sm [255] = 65280 := by decide
      go_wp2_with (first | (go_at_call 18; refine (works _).mono ?_; rintro e w' ⟨rfl, hb⟩) | (go_at_call 16; ((with_reducible refine (of1n _ _ _ ?_).mono ?_); (· first | decide | omega)); rintro e w' ⟨rfl, hb⟩) | (go_at_call 17; ((with_reducible refine (whole1n _ _ _ ?_).mono ?_); (· decide)); rintro e w' ⟨rfl, hb⟩) | (go_at_call 17; (with_reducible refine (whole0 _).mono ?_); rintro e w' ⟨rfl, hb⟩) | (go_at_call 19; refine (fold _ _ (by omega)).mono ?_; rintro e w' ⟨rfl, rfl⟩) | (go_at_call 21; refine (same _ _ _ (by omega) (by omega)).mono ?_; rintro e w' ⟨rfl, rfl⟩) | (go_at_call 23; refine (not_ _ _ (by omega)).mono ?_; rintro e w' ⟨rfl, rfl⟩) | (go_at_call 25; refine (turn _ _ _ _ (by omega) (by omega) (by omega)).mono ?_; rintro e w' ⟨rfl, rfl⟩))
      go_ret
      refine ⟨rfl, Gw.trans (b := wr) ?_ (by (repeat (first | with_reducible exact Gw.refl _ | with_reducible assumption | with_reducible refine Gw.alloc ?_ _ | with_reducible refine Gw.drew ?_ | with_reducible refine Gw.trans ?_ (by with_reducible assumption))))⟩
      unfold Gw; rw [HB.out]; exact HBEL.out
end Go.Proofs.Ytidpmlifodpjlaa.Sm
