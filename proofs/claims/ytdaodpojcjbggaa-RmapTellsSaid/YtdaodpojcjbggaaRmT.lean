/- The document's table: New, At. -/
import Derived.Test.YtdaodpojcjbggaaRmE
namespace Go.Proofs.Ytdaodpojcjbggaa.Rm
open Go.RowKit Go.Proofs.Ytdaodpojcjbggaa.Ln
set_option linter.unusedVariables false
set_option linter.unusedSimpArgs false

theorem cellAt {W : World} {Z e : Nat} {cur : Array Value} (h : W.heap[Z]? = some (.cells cur e (0, 0))) (j : Nat) (u : Value) (hu : cur[j]? = some u) : W.cell? ⟨Z, j, none⟩ = some u := by
  rw [cell_of_row _ Z j cur e (0, 0) h]; exact hu
/-- The document's table at Y: its row k is in the order of the puts. -/
structure RTab (w : World) (Y : Nat) (room begin : Int) (P : Option Addr) (C : Nat) (k : List M) : Prop where
  blkY : w.heap[Y]? = some (.cells #[.int .i64 room, .int .i64 begin, .slice P k.length C] 90)
  own : Own w 60 4 (.slice P k.length C) k.length (flat k)
  ne : ∀ j, (Value.slice P k.length C).ownBlock = some j → j ≠ Y
theorem RTab.maps {w Y r b P C k} (h : RTab w Y r b P C k) : Maps w P k.length C k := own_maps h.own rfl
theorem RTab.ltY {w Y r b P C k} (h : RTab w Y r b P C k) : Y < w.heap.size := (Array.getElem?_eq_some_iff.1 h.blkY).1
def RNewP (r : Int) (w : World) (e : Ending) (w' : World) : Prop := ∃ Y, e = .returned (.tuple #[.pointer (some ⟨Y, 0, none⟩), .int .i64 0]) ∧ w.heap.size ≤ Y ∧ Gw w w' ∧ RTab w' Y r 0 none 0 []
theorem rnewBad (r : Int) (h : r < 1 ∨ 2048 < r) (w : World) : Calls Try.prog 27 #[.int .i64 r] w fun e w' => e = .returned (.tuple #[.pointer none, .int .i64 2]) ∧ w = w' := by
  by_cases h1 : r < 1
  · clear h
    go_enter Try.func27, Try.ntmps27
    go_wp2
    exact bodyPost_ret (v := .tuple #[.pointer none, .int .i64 2]) (by simp [results, Try.results27, go_sem]) rfl ⟨rfl, rfl⟩
  · have h2 : 2048 < r := by omega
    clear h
    go_enter Try.func27, Try.ntmps27
    go_wp2
    exact bodyPost_ret (v := .tuple #[.pointer none, .int .i64 2]) (by simp [results, Try.results27, go_sem]) rfl ⟨rfl, rfl⟩
theorem rnew (r : Int) (hr : 1 ≤ r ∧ r ≤ 2048) (w : World) : Calls Try.prog 27 #[.int .i64 r] w (RNewP r w) := by
  have h1 : ¬ r < 1 := by omega
  have h2 : ¬ 2048 < r := by omega
  clear hr
  go_enter Try.func27, Try.ntmps27
  go_wp2
  exact bodyPost_ret (v := .tuple #[.pointer (some ⟨w.heap.size, 0, none⟩), .int .i64 0]) (by simp [results, Try.results27, go_sem]) rfl ⟨w.heap.size, rfl, Nat.le_refl _, gw_alloc1 _ _, heap_alloc_new _ _, World.ownsRow_nil _ _ _ _, by simp [Value.ownBlock]⟩
theorem get_first {k : List M} {a : Int} {i : Nat} (hi : i < k.length) (h : ∀ t, (ht : t < k.length) → t < i → k[t].at' ≠ a) (he : k[i].at' = a) : get k a = k[i] ∧ has k a = true := by
  constructor
  · unfold get
    rw [(List.find?_eq_some_iff_getElem (b := k[i])).2 ⟨by simpa using he, i, hi, rfl, fun j hj => by simpa using h j (by omega) hj⟩]
    rfl
  · rw [has_mem]; exact ⟨_, List.getElem_mem hi, he⟩
theorem has_not {k : List M} {a : Int} (h : ∀ t, (ht : t < k.length) → k[t].at' ≠ a) : has k a = false := by
  rw [← Bool.not_eq_true, has_mem]
  rintro ⟨x, hx, e⟩
  obtain ⟨t, ht, rfl⟩ := List.mem_iff_getElem.1 hx
  exact h t ht e
set_option maxRecDepth 100000 in
set_option maxHeartbeats 4000000 in
theorem rat {w Y r b P C k} (h : RTab w Y r b P C k) (hk : k.length ≤ 3000) (a : Int) : Calls Try.prog 48 #[.pointer (some ⟨Y, 0, none⟩), .int .i64 a] w (AtP (get k a) (has k a) w) := by
  obtain ⟨W, hW⟩ : ∃ W, w.alloc (.cells #[.int .i64 0, .int .i64 0, .int .i64 0, .int .u16 0] 60) = W := ⟨_, rfl⟩
  have hg : Gw w W := by rw [← hW]; exact gw_alloc1 _ _
  have hb : W.heap[w.heap.size]? = some (.cells #[.int .i64 0, .int .i64 0, .int .i64 0, .int .u16 0] 60) := by rw [← hW]; exact heap_alloc_new w _
  have z0 : W.cell? ⟨w.heap.size, 0, none⟩ = some (.int .i64 0) := cellAt hb 0 _ rfl
  have z1 : W.cell? ⟨w.heap.size, 1, none⟩ = some (.int .i64 0) := cellAt hb 1 _ rfl
  have z2 : W.cell? ⟨w.heap.size, 2, none⟩ = some (.int .i64 0) := cellAt hb 2 _ rfl
  have z3 : W.cell? ⟨w.heap.size, 3, none⟩ = some (.int .u16 0) := cellAt hb 3 _ rfl
  have hf : ∀ j, W.frozen? ⟨w.heap.size, j, none⟩ = false := fun j => by unfold World.frozen?; simp only [hb]; simp
  have f0 := hf 0
  have f1 := hf 1
  have f2 := hf 2
  have f3 := hf 3
  have c2 : W.cell? ⟨Y, 2, none⟩ = some (.slice P k.length C) := cell_gw hg (cellAt h.blkY 2 _ rfl)
  have hcap : k.length ≤ C ∨ k.length = 0 := by
    rcases h.own.2 with ⟨e, _⟩ | ⟨g, cap, cur, hv, _, _, hnc, _⟩
    · injection e with e1 e2 e3; right; exact e2
    · injection hv with e1 e2 e3; left; omega
  have HM := Lib.hid (h.maps.gw hg)
  have HG := Lib.hid hg
  have s4 : ∀ v0 v1 v2 v3, Gw w ((((W.setCell ⟨w.heap.size, 0, none⟩ v0).setCell ⟨w.heap.size, 1, none⟩ v1).setCell ⟨w.heap.size, 2, none⟩ v2).setCell ⟨w.heap.size, 3, none⟩ v3) := fun v0 v1 v2 v3 =>
    gw_set (gw_set (gw_set (gw_set hg ⟨w.heap.size, 0, none⟩ (Nat.le_refl _) _) ⟨w.heap.size, 1, none⟩ (Nat.le_refl _) _) ⟨w.heap.size, 2, none⟩ (Nat.le_refl _) _) ⟨w.heap.size, 3, none⟩ (Nat.le_refl _) _
  have HS := Lib.hid s4
  obtain ⟨n, hn⟩ : ∃ n, k.length = n := ⟨_, rfl⟩
  rw [hn] at c2 hk hcap
  have HN := Lib.hid hn
  have HWW := Lib.hid hW
  obtain ⟨z, hz⟩ : ∃ z, w.heap.size = z := ⟨_, rfl⟩
  rw [hz] at z0 z1 z2 z3 f0 f1 f2 f3 HS
  have HZ := Lib.hid hz
  clear h hb hf hg s4 hn hW hz
  go_enter Try.func48, Try.ntmps48
  go_wp2_with fail
  rw [HWW.out, HZ.out]
  go_loop [6] (fun v6 => ∃ i : Nat, i ≤ n ∧ v6 = .int .i64 i ∧ Hid (∀ t, (ht : t < k.length) → t < i → k[t].at' ≠ a)) (fun v6 => n - (intOf v6).toNat)
  case atStart => exact ⟨0, Nat.zero_le _, rfl, Lib.hid (fun t ht h => absurd h (by omega))⟩
  case round =>
    obtain ⟨i, hi, rfl, HI⟩ := hrel
    by_cases hin : i < n
    · have z9 : (i : Int) < n := by omega
      have hcap2 : (n : Int) ≤ C := by omega
      have hik : i < k.length := by rw [HN.out]; exact hin
      obtain ⟨g, off, rfl, m0, m1, m2, m3⟩ := HM.out.at' hik
      by_cases he : k[i].at' = a
      · obtain ⟨hg1, hg2⟩ := get_first hik HI.out he
        rw [hg1, hg2]
        generalize k[i] = m at *
        subst he
        clear hg1 hg2 hcap
        go_wp2_with fail
        obtain ⟨x0, x1, x2, x3⟩ := read4 z0 z1 z2 z3 (.int .i64 m.at') (.int .i64 m.off) (.int .i64 m.len) (.int .u16 m.sum)
        exact bodyPost_ret (v := .tuple #[agg m, .bool true]) (by simp [results, Try.results48, go_sem, x0, x1, x2, x3]) rfl ⟨rfl, HS.out _ _ _ _⟩
      · have b1 : (k[i].at' == a) = false := by rw [beq_eq_false_iff_ne]; exact he
        have HE := Lib.hid he
        obtain ⟨m, hm⟩ : ∃ m, k[i] = m := ⟨_, rfl⟩
        rw [hm] at m0 m1 m2 m3 b1 he
        clear hm hcap
        go_wp2_with fail
        go_round
        case rel => exact ⟨i + 1, by omega, by go_num, Lib.hid (fun t ht h => by
          by_cases e : t = i
          · subst e; exact HE.out
          · exact HI.out t ht (by omega))⟩
        case measure => simp [intOf]; omega
    · obtain rfl : i = n := by omega
      have hno := has_not (fun t ht => HI.out t ht (by rw [← HN.out]; exact ht))
      have HNO := Lib.hid hno
      have b6 : decide (i < i) = false := by simp
      clear hno hcap
      go_wp2_with fail
      obtain ⟨x0, x1, x2, x3⟩ := read4 z0 z1 z2 z3 (.int .i64 0) (.int .i64 0) (.int .i64 0) (.int .u16 0)
      exact bodyPost_ret (v := .tuple #[agg ⟨0, 0, 0, 0⟩, .bool false]) (by simp [results, Try.results48, go_sem, x0, x1, x2, x3]) rfl ⟨by rw [get_none HNO.out, HNO.out], HS.out _ _ _ _⟩
end Go.Proofs.Ytdaodpojcjbggaa.Rm
