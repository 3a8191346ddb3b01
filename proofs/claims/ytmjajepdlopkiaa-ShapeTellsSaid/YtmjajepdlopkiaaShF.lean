/- Add. -/
import Derived.Test.YtmjajepdlopkiaaShE
import Derived.Test.YtmjajepdlopkiaaSeqA
namespace Go.Proofs.Ytmjajepdlopkiaa.Sh
open Go.RowKit
set_option linter.unusedVariables false
set_option linter.unusedSimpArgs false

/-- Is byte b there, of bytes that lie from first on? -/
def hit (first : Int) (l : List UInt8) (off b : Nat) : Bool := decide (first ≤ off) && ((l[((off : Int) - first).toNat]?).map UInt8.toNat == some b)
def und (C D : Nat → Nat → Bool) (off b : Nat) : Bool := C off b || D off b
def one (i c : Nat) (off b : Nat) : Bool := decide (off = i) && decide (b = c)
theorem hit_nil (first : Int) (off b : Nat) : hit first [] off b = false := by unfold hit; simp
theorem hit_succ (first : Int) (l : List UInt8) (k : Nat) (hk : k < l.length) (off b : Nat) :
    hit first (l.take (k + 1)) off b = (hit first (l.take k) off b || (decide ((off : Int) = first + k) && decide (b = l[k].toNat))) := by
  unfold hit
  by_cases h : first ≤ off
  · obtain ⟨i, hi⟩ : ∃ i : Nat, (off : Int) - first = i := ⟨((off : Int) - first).toNat, by omega⟩
    rw [hi, show ((i : Int)).toNat = i from rfl, decide_eq_true h]
    simp only [Bool.true_and]
    rcases Nat.lt_trichotomy i k with h1 | h1 | h1
    · rw [List.getElem?_take_of_lt (by omega), List.getElem?_take_of_lt (by omega), decide_eq_false (by omega : ¬ (off : Int) = first + k)]; simp
    · subst h1
      rw [List.getElem?_take_of_lt (by omega), List.getElem?_take_eq_none (by omega), decide_eq_true (by omega : (off : Int) = first + i), List.getElem?_eq_getElem hk]
      simp only [Option.map_some, Option.map_none, Bool.true_and]
      rw [Bool.eq_iff_iff]; simp; exact ⟨fun h => h.symm, fun h => h.symm⟩
    · rw [List.getElem?_take_eq_none (by omega), List.getElem?_take_eq_none (by omega), decide_eq_false (by omega : ¬ (off : Int) = first + k)]; simp
  · rw [decide_eq_false h, decide_eq_false (by omega : ¬ (off : Int) = first + k)]; simp
theorem wd_or (f : Nat → Bool) (c j : Nat) (h : c / 64 = j) : wd f j ||| 2 ^ (c % 64) = wd (fun b => f b || decide (b = c)) j := by
  unfold wd
  rw [num_or _ _ _ (Nat.mod_lt _ (by omega))]
  refine num_congr (fun i hi => ?_)
  have : (i == c % 64) = decide (64 * j + i = c) := by rw [Bool.eq_iff_iff]; simp; omega
  show (f (64 * j + i) || (i == c % 64)) = (f (64 * j + i) || decide (64 * j + i = c))
  rw [this]
theorem wd_other (f : Nat → Bool) (c j : Nat) (hj : c / 64 ≠ j) : wd f j = wd (fun b => f b || decide (b = c)) j := by
  unfold wd
  refine num_congr (fun i hi => ?_)
  have : decide (64 * j + i = c) = false := decide_eq_false (by omega)
  show f (64 * j + i) = (f (64 * j + i) || decide (64 * j + i = c))
  rw [this, Bool.or_false]
theorem und_same (C : Nat → Nat → Bool) (i c : Nat) : und C (one i c) i = fun b => C i b || decide (b = c) := by funext b; simp [und, one]
theorem und_diff (C : Nat → Nat → Bool) (i c a : Nat) (h : a ≠ i) : und C (one i c) a = C a := by funext b; simp [und, one, h]
theorem CameAt.set {w X g cp isn n C} (h : CameAt w X g cp isn n C) {i c : Nat} (hi : i < n) (hc : c < 256) :
    CameAt (w.setCell ⟨g, i * 4 + c / 64, none⟩ (.int .u64 ((wd (C i) (c / 64) ||| 2 ^ (c % 64) : Nat) : Int))) X g cp isn n (und C (one i c)) := by
  have oth : ∀ (p : Addr), p ≠ ⟨g, i * 4 + c / 64, none⟩ → (w.setCell ⟨g, i * 4 + c / 64, none⟩ (.int .u64 ((wd (C i) (c / 64) ||| 2 ^ (c % 64) : Nat) : Int))).cell? p = w.cell? p :=
    fun p hp => World.cell?_setCell_other w ⟨g, i * 4 + c / 64, none⟩ p _ (fun e => hp e.symm)
  have hne := h.ne
  refine ⟨(oth _ (by intro e; injection e; omega)).trans h.c0, (oth _ (by intro e; injection e; omega)).trans h.c1, fun a j ha hj => ?_, fun a j ha hj => by rw [World.frozen?_setCell]; exact h.fz a j ha hj, h.ne, h.hn, h.hcp, h.hisn⟩
  by_cases e : a = i ∧ j = c / 64
  · obtain ⟨rfl, rfl⟩ := e
    rw [setCell_cell_same _ (h.cells a (c / 64) ha hj), wd_or _ _ _ rfl, und_same]
  · rw [oth _ (by intro e2; injection e2; omega), h.cells a j ha hj]
    by_cases ea : a = i
    · subst ea
      rw [wd_other (C a) c j (by omega), und_same]
    · rw [und_diff _ _ _ _ ea]
theorem or_nat (x k : Nat) (hx : x < 18446744073709551616) (hk : k < 64) : bits .or .u64 (x : Int) (IntKind.u64.wrap (2 ^ k)) = ((x ||| 2 ^ k : Nat) : Int) := by
  have h2 : (2 : Nat) ^ k < 18446744073709551616 := by
    have : (2 : Nat) ^ k < 2 ^ 64 := Nat.pow_lt_pow_right (by omega) hk
    exact this
  have e : IntKind.u64.wrap (2 ^ k) = ((2 ^ k : Nat) : Int) := by
    rw [show ((2 : Int) ^ k) = ((2 ^ k : Nat) : Int) by simp]
    exact wrap_nat h2
  rw [e]
  exact u64_or_nat x (2 ^ k) hx h2

abbrev segA (v0 v1 v2 v4 v6 v7 v8 v9 v10 : Value) (sq : Int) (syn : Bool) (data : ByteArray) : Value := .agg #[v0, v1, v2, .int .u32 sq, v4, .bool syn, v6, v7, v8, v9, v10, .string data]
theorem addNil (v0 v1 v2 v4 v6 v7 v8 v9 v10 : Value) (sq : Int) (syn : Bool) (data : ByteArray) (w : World) : Calls Try.prog 30 #[.pointer none, segA v0 v1 v2 v4 v6 v7 v8 v9 v10 sq syn data] w fun e w' => e = .returned (.tuple #[]) ∧ Gw w w' := by
  go_enter Try.func30, Try.ntmps30
  go_wp2
  exact bodyPost_ret (v := .tuple #[]) (by simp [results, Try.results30, go_sem]) rfl ⟨rfl, gw_alloc1 _ _⟩
def AddP (w : World) (X g cp : Nat) (isn : Int) (n : Nat) (C : Nat → Nat → Bool) (e : Ending) (w' : World) : Prop := e = .returned (.tuple #[]) ∧ CameAt w' X g cp isn n C ∧ Fr (fun k => k = g) w w'
theorem addSyn {w X g cp isn n C} (h : CameAt w X g cp isn n C) (v0 v1 v2 v4 v6 v7 v8 v9 v10 : Value) (sq : Int) (data : ByteArray) : Calls Try.prog 30 #[.pointer (some ⟨X, 0, none⟩), segA v0 v1 v2 v4 v6 v7 v8 v9 v10 sq true data] w (AddP w X g cp isn n C) := by
  have H := Lib.hid h
  clear h
  go_enter Try.func30, Try.ntmps30
  go_wp2
  exact bodyPost_ret (v := .tuple #[]) (by simp [results, Try.results30, go_sem]) rfl ⟨rfl, H.out.gw (gw_alloc1 _ _), (gw_alloc1 _ _).mono (fun _ h => h.elim)⟩
/-- What a segment brings. -/
def brings (isn sq : Int) (data : ByteArray) : Nat → Nat → Bool := hit (Sq.G (Sq.P isn 1) sq) data.data.toList
set_option maxRecDepth 100000 in
set_option maxHeartbeats 2000000 in
theorem add_ {w X g cp isn n C} (h : CameAt w X g cp isn n C) (v0 v1 v2 v4 v6 v7 v8 v9 v10 : Value) (sq : Int) (data : ByteArray) (hd : data.size ≤ 1000000) :
    Calls Try.prog 30 #[.pointer (some ⟨X, 0, none⟩), segA v0 v1 v2 v4 v6 v7 v8 v9 v10 sq false data] w (AddP w X g cp isn n (und C (brings isn sq data))) := by
  obtain ⟨W, hW⟩ : ∃ W, w.alloc (.cells #[v0, v1, v2, .int .u32 sq, v4, .bool false, v6, v7, v8, v9, v10, .string data] 48) = W := ⟨_, rfl⟩
  have hgW : Gw w W := by rw [← hW]; exact gw_alloc1 _ _
  have hCW := h.gw hgW
  have c0 := hCW.c0
  have e3 : W.cell? ⟨w.heap.size, 3, none⟩ = some (.int .u32 sq) := by rw [← hW, World.cell?_alloc_new]; rfl
  have e5 : W.cell? ⟨w.heap.size, 5, none⟩ = some (.bool false) := by rw [← hW, World.cell?_alloc_new]; rfl
  have e11 : W.cell? ⟨w.heap.size, 11, none⟩ = some (.string data) := by rw [← hW, World.cell?_alloc_new]; rfl
  have hr := Sq.G_range (Sq.P isn 1) sq
  unfold brings
  have HW := Lib.hid hW
  have HG := Lib.hid hgW
  have HC := Lib.hid hCW
  clear h hgW hCW hW
  generalize hf : Sq.G (Sq.P isn 1) sq = first at *
  have HF := Lib.hid hf
  clear hf
  have HGAP : Hid (∀ w, Calls Try.prog 17 #[.int .u32 (Sq.P isn 1), .int .u32 sq] w fun e w' => e = .returned (.int .i64 first) ∧ w' = w) := Lib.hid (fun w => (Sq.gap _ _ w).mono fun _ _ ⟨he, hw⟩ => ⟨by rw [he, HF.out], hw.symm⟩)
  go_enter Try.func30, Try.ntmps30
  go_upto_region 2 with fail
  rw [HW.out]
  go_quiet (first | (go_at_call 21; exact Calls.quiet_of_same ((Sq.plus _ _ _).mono fun _ _ ⟨he, hw⟩ => ⟨he, hw.symm⟩)) | (go_at_call 17; exact Calls.quiet_of_same (HGAP.out _)))
  have g1 := HC.out.gw (show Gw W (W.drewN nq) from gw_drewN (Fr.refl _ _) nq)
  have e11 : (W.drewN nq).cell? ⟨w.heap.size, 11, none⟩ = some (.string data) := e11
  have HG1 : Hid (Gw w (W.drewN nq)) := Lib.hid (gw_drewN HG.out nq)
  generalize W.drewN nq = W1 at *
  have HC1 := Lib.hid g1
  clear HC HG HW c0 e3 e5 g1 HF HGAP
  go_wp2_with fail
  rw [run_bytes_of_string W1 9 53 5 data Try.underlying9 Try.underlying53 Try.underlying5]
  have hbuf := buf_new W1 data (grownCap W1 data.size 0 5)
  have hgc : Gw W1 (W1.drew.alloc (.cells (bytesRow data (grownCap W1 data.size 0 5)) 5 ((bytesRow data (grownCap W1 data.size 0 5)).size, (bytesRow data (grownCap W1 data.size 0 5)).size + 1))) := ((Fr.refl _ W1).drew).alloc _
  obtain ⟨B, hB⟩ : ∃ B, W1.heap.size = B := ⟨_, rfl⟩
  have hgB : g ≠ B ∧ X ≠ B := by have := HC1.out.ltg; have := HC1.out.ltX; omega
  rw [hB] at hbuf ⊢
  have g2 := HC1.out.gw hgc
  have G2 : Hid (Gw w _) := Lib.hid (gw_trans HG1.out hgc)
  generalize W1.drew.alloc (.cells (bytesRow data (grownCap W1 data.size 0 5)) 5 ((bytesRow data (grownCap W1 data.size 0 5)).size, (bytesRow data (grownCap W1 data.size 0 5)).size + 1)) = W2 at *
  generalize grownCap W1 data.size 0 5 = bc
  have HBUF := Lib.hid hbuf
  have HC2 := Lib.hid g2
  have HNE := Lib.hid hgB
  have hlen : data.data.toList.length = data.size := Array.length_toList
  clear hbuf hgc hB HC1 HG1 g2 e11 hgB
  generalize data.data.toList = l at *
  obtain ⟨N, hN⟩ : ∃ N, data.size = N := ⟨_, rfl⟩
  rw [hN] at hd hlen ⊢
  have HLEN := Lib.hid hlen
  clear hN hlen
  have hn := HC2.out.hn
  have hcp := HC2.out.hcp
  go_wp2_with fail
  go_loopw [26] (fun v26 wr => ∃ k : Nat, k ≤ N ∧ v26 = .int .i64 k ∧ Hid (CameAt wr X g cp isn n (und C (hit first (l.take k))) ∧ Buf wr B l ∧ Fr (fun k => k = g) w wr)) (fun v26 _ => N - (intOf v26).toNat)
  case atStart => exact ⟨0, Nat.zero_le _, rfl, Lib.hid ⟨HC2.out.like (fun i b _ _ => by simp [und, hit_nil]), HBUF.out, G2.out.mono (fun _ h => h.elim)⟩⟩
  case round =>
    obtain ⟨k, hk, rfl, HI⟩ := hrel
    clear HC2 HBUF G2
    by_cases hkN : k < N
    · have hkl : k < l.length := by rw [HLEN.out]; exact hkN
      have z0 : (k : Int) < N := by omega
      have c1 := HI.out.1.c1
      have e5 := (HI.out.2.1.2 k hkl).1
      have hsucc := hit_succ first l k hkl
      obtain ⟨c, hc⟩ : ∃ c : Nat, l[k].toNat = c := ⟨_, rfl⟩
      have hc8 : c < 256 := by rw [← hc]; exact UInt8.toNat_lt _
      rw [hc] at e5
      have HS : Hid (∀ off b, und C (hit first (l.take (k + 1))) off b = (und C (hit first (l.take k)) off b || (decide ((off : Int) = first + k) && decide (b = c)))) := Lib.hid (fun off b => by
        unfold und; rw [hsucc, hc, Bool.or_assoc])
      clear hsucc hc
      by_cases hin : 0 ≤ first + k ∧ first + k < n
      · obtain ⟨i, hi⟩ : ∃ i : Nat, first + k = (i : Int) := ⟨(first + k).toNat, by omega⟩
        have hin2 : i < n := by omega
        have HIN := Lib.hid hi
        have hw1 : IntKind.i64.wrap (first + k) = i := by rw [hi]; exact IntWalk.i64_in _ (by omega)
        have y1 : (0 : Int) ≤ i := by omega
        have y2 : (i : Int) < n := by omega
        have HS2 : Hid (∀ a b, und C (hit first (l.take (k + 1))) a b = und (und C (hit first (l.take k))) (one i c) a b) := Lib.hid (fun a b => by
          have e : decide ((a : Int) = first + k) = decide (a = i) := by rw [hi, Bool.eq_iff_iff]; simp; omega
          rw [HS.out, e]; rfl)
        have hj : c / 64 = 0 ∨ c / 64 = 1 ∨ c / 64 = 2 ∨ c / 64 = 3 := by omega
        have h63 := u8_63 c hc8
        have hset := HI.out.1.set hin2 hc8
        have q1 := HI.out.1.cells i (c / 64) hin2 (by omega)
        have q2 := HI.out.1.fz i (c / 64) hin2 (by omega)
        have hor := or_nat (wd (und C (hit first (l.take k)) i) (c / 64)) (c % 64) (wd_lt _ _) (Nat.mod_lt _ (by omega))
        generalize wd (und C (hit first (l.take k)) i) (c / 64) = x at *
        have HSET := Lib.hid hset
        have HC8 := Lib.hid hc8
        clear hset hin
        rcases hj with hj | hj | hj | hj
        · have hd : (c : Int) / 64 = 0 := by omega
          rw [hj] at q1 q2 HSET
          have q1 : wr.cell? ⟨g, i * 4, none⟩ = some (.int .u64 x) := q1
          have q2 : wr.frozen? ⟨g, i * 4, none⟩ = false := q2
          have HJ := Lib.hid hj
          clear hj hi
          go_upto_region 8 with fail
          go_region
          have hf : Fr (fun k => k = g) w (wr.setCell ⟨g, i * 4, none⟩ (.int .u64 ((x ||| 2 ^ (c % 64) : Nat) : Int))) := Fr.setCell HI.out.2.2 _ _ rfl
          have hb : Buf (wr.setCell ⟨g, i * 4, none⟩ (.int .u64 ((x ||| 2 ^ (c % 64) : Nat) : Int))) B l := HI.out.2.1.keep (by simp [World.setCell]) (Below.heap_setCell wr ⟨g, i * 4, none⟩ _ B (fun e => HNE.out.1 e.symm))
          have HF := Lib.hid hf
          have HB := Lib.hid hb
          clear hf hb q1 q2 c1 e5
          go_wp2_with fail
          go_roundw
          case rel => exact ⟨k + 1, by omega, by go_num, Lib.hid ⟨CameAt.like (HSET.out.gw (gw_drew _)) (fun a b _ _ => by
            exact (HS2.out a b).symm), HB.out.gw (gw_drew _), HF.out.drew⟩⟩
          case measure => simp [intOf]; omega
        · have hd : (c : Int) / 64 = 1 := by omega
          rw [hj] at q1 q2 HSET
          have HJ := Lib.hid hj
          clear hj hi
          go_upto_region 8 with fail
          go_region
          have hf : Fr (fun k => k = g) w (wr.setCell ⟨g, i * 4 + 1, none⟩ (.int .u64 ((x ||| 2 ^ (c % 64) : Nat) : Int))) := Fr.setCell HI.out.2.2 _ _ rfl
          have hb : Buf (wr.setCell ⟨g, i * 4 + 1, none⟩ (.int .u64 ((x ||| 2 ^ (c % 64) : Nat) : Int))) B l := HI.out.2.1.keep (by simp [World.setCell]) (Below.heap_setCell wr ⟨g, i * 4 + 1, none⟩ _ B (fun e => HNE.out.1 e.symm))
          have HF := Lib.hid hf
          have HB := Lib.hid hb
          clear hf hb q1 q2 c1 e5
          go_wp2_with fail
          go_roundw
          case rel => exact ⟨k + 1, by omega, by go_num, Lib.hid ⟨CameAt.like (HSET.out.gw (gw_drew _)) (fun a b _ _ => by
            exact (HS2.out a b).symm), HB.out.gw (gw_drew _), HF.out.drew⟩⟩
          case measure => simp [intOf]; omega
        · have hd : (c : Int) / 64 = 2 := by omega
          rw [hj] at q1 q2 HSET
          have HJ := Lib.hid hj
          clear hj hi
          go_upto_region 8 with fail
          go_region
          have hf : Fr (fun k => k = g) w (wr.setCell ⟨g, i * 4 + 2, none⟩ (.int .u64 ((x ||| 2 ^ (c % 64) : Nat) : Int))) := Fr.setCell HI.out.2.2 _ _ rfl
          have hb : Buf (wr.setCell ⟨g, i * 4 + 2, none⟩ (.int .u64 ((x ||| 2 ^ (c % 64) : Nat) : Int))) B l := HI.out.2.1.keep (by simp [World.setCell]) (Below.heap_setCell wr ⟨g, i * 4 + 2, none⟩ _ B (fun e => HNE.out.1 e.symm))
          have HF := Lib.hid hf
          have HB := Lib.hid hb
          clear hf hb q1 q2 c1 e5
          go_wp2_with fail
          go_roundw
          case rel => exact ⟨k + 1, by omega, by go_num, Lib.hid ⟨CameAt.like (HSET.out.gw (gw_drew _)) (fun a b _ _ => by
            exact (HS2.out a b).symm), HB.out.gw (gw_drew _), HF.out.drew⟩⟩
          case measure => simp [intOf]; omega
        · have hd : (c : Int) / 64 = 3 := by omega
          rw [hj] at q1 q2 HSET
          have HJ := Lib.hid hj
          clear hj hi
          go_upto_region 8 with fail
          go_region
          have hf : Fr (fun k => k = g) w (wr.setCell ⟨g, i * 4 + 3, none⟩ (.int .u64 ((x ||| 2 ^ (c % 64) : Nat) : Int))) := Fr.setCell HI.out.2.2 _ _ rfl
          have hb : Buf (wr.setCell ⟨g, i * 4 + 3, none⟩ (.int .u64 ((x ||| 2 ^ (c % 64) : Nat) : Int))) B l := HI.out.2.1.keep (by simp [World.setCell]) (Below.heap_setCell wr ⟨g, i * 4 + 3, none⟩ _ B (fun e => HNE.out.1 e.symm))
          have HF := Lib.hid hf
          have HB := Lib.hid hb
          clear hf hb q1 q2 c1 e5
          go_wp2_with fail
          go_roundw
          case rel => exact ⟨k + 1, by omega, by go_num, Lib.hid ⟨CameAt.like (HSET.out.gw (gw_drew _)) (fun a b _ _ => by
            exact (HS2.out a b).symm), HB.out.gw (gw_drew _), HF.out.drew⟩⟩
          case measure => simp [intOf]; omega
      · have HS2 : Hid (∀ a b, a < n → und C (hit first (l.take k)) a b = und C (hit first (l.take (k + 1))) a b) := Lib.hid (fun a b ha => by
          have e : decide ((a : Int) = first + k) = false := decide_eq_false (by omega)
          rw [HS.out, e]; simp)
        have hw1 : IntKind.i64.wrap (first + k) = first + k := IntWalk.i64_in _ (by omega)
        by_cases h0 : 0 ≤ first + k
        · have h1 : decide (first + (k : Int) < n) = false := decide_eq_false (by omega)
          have h2 : ¬ (first + (k : Int) < n) := by omega
          clear hin
          go_wp2_with fail
          go_roundw
          case rel => exact ⟨k + 1, by omega, by go_num, Lib.hid ⟨HI.out.1.like (fun a b ha _ => HS2.out a b ha), HI.out.2.1, HI.out.2.2⟩⟩
          case measure => simp [intOf]; omega
        · clear hin
          go_wp2_with fail
          go_roundw
          case rel => exact ⟨k + 1, by omega, by go_num, Lib.hid ⟨HI.out.1.like (fun a b ha _ => HS2.out a b ha), HI.out.2.1, HI.out.2.2⟩⟩
          case measure => simp [intOf]; omega
    · obtain rfl : k = N := by omega
      go_wp2_with fail
      exact bodyPost_ret (v := .tuple #[]) (by simp [results, Try.results30, go_sem]) rfl ⟨rfl, by have := HI.out.1; rw [List.take_of_length_le (by rw [HLEN.out]; exact Nat.le_refl _)] at this; exact this, HI.out.2.2⟩
end Go.Proofs.Ytmjajepdlopkiaa.Sh
