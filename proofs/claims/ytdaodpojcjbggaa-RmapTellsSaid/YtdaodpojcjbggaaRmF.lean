/- Put. -/
import Derived.Test.YtdaodpojcjbggaaRmE
import Derived.Deep.RegionHeld3
namespace Go.Proofs.Ytdaodpojcjbggaa.Rm
open Go.RowKit Go.Proofs.Ytdaodpojcjbggaa.Ln
set_option linter.unusedVariables false
set_option linter.unusedSimpArgs false

theorem putNil (m : M) (w : World) : Calls Try.prog 31 #[.pointer none, agg m] w fun e w' => e = .returned (.bool false) ∧ Gw w w' := by
  go_enter Try.func31, Try.ntmps31
  go_wp2_with fail
  go_quiet (fail)
  go_wp2_with fail
  go_ret
  exact ⟨rfl, gw_drewN (gw_alloc1 _ _) _⟩
theorem ts_gw_fx {w0 w w' H X r b l} (h : TS w0 w H X r b l) (hg : Gw w w') : TS w0 w' H X r b l ∧ Fx X w w' := ⟨h.gw hg, hg.mono (fun _ h => h.elim)⟩
set_option maxRecDepth 100000 in
set_option maxHeartbeats 4000000 in
theorem put_not {w0 w H X r b l} (h : TS w0 w H X r b l) (m : M) (hb : b ≤ 2305843009213693952 ∧ 0 ≤ b) (hr : r ≤ 2048) (ha : -9223372036854775808 ≤ m.at' ∧ m.at' < 9223372036854775808) (hm : ¬ may r b m) :
    Calls Try.prog 31 #[.pointer (some ⟨X, 0, none⟩), agg m] w (TabP w0 w H X r b l (.returned (.bool false))) := by
  obtain ⟨W, hW⟩ : ∃ W, w.alloc (.cells #[.int .i64 m.at', .int .i64 m.off, .int .i64 m.len, .int .u16 m.sum] 60) = W := ⟨_, rfl⟩
  have hg : Gw w W := by rw [← hW]; exact gw_alloc1 _ _
  have m0 : W.cell? ⟨w.heap.size, 0, none⟩ = some (.int .i64 m.at') := by rw [← hW, World.cell?_alloc_new]; rfl
  have m1 : W.cell? ⟨w.heap.size, 1, none⟩ = some (.int .i64 m.off) := by rw [← hW, World.cell?_alloc_new]; rfl
  have m2 : W.cell? ⟨w.heap.size, 2, none⟩ = some (.int .i64 m.len) := by rw [← hW, World.cell?_alloc_new]; rfl
  obtain ⟨_, _, _, A, C, T, _⟩ := h
  have c0 := cell_gw hg T.c0
  have c1 := cell_gw hg T.c1
  have HF := Lib.hid (fun n : Nat => ts_gw_fx (w' := W.drewN n) (show TS w0 w H X r b l from ⟨by assumption, by assumption, by assumption, A, C, T, by assumption⟩) (gw_drewN hg n))
  have HW := Lib.hid hW
  unfold may at hm
  clear T hW hg
  by_cases h1 : m.len < 1
  · go_enter Try.func31, Try.ntmps31
    go_wp2_with fail
    rw [HW.out]
    go_quiet (fail)
    go_wp2_with fail
    go_ret
    exact ⟨rfl, HF.out _⟩
  · have y1 : decide (m.len < 1) = false := decide_eq_false h1
    by_cases h2 : r < m.len
    · go_enter Try.func31, Try.ntmps31
      go_wp2_with fail
      rw [HW.out]
      go_quiet (fail)
      go_wp2_with fail
      go_ret
      exact ⟨rfl, HF.out _⟩
    · have y2 : decide (r < m.len) = false := decide_eq_false h2
      by_cases h3 : m.off < 0
      · go_enter Try.func31, Try.ntmps31
        go_wp2_with fail
        rw [HW.out]
        go_quiet (fail)
        go_wp2_with fail
        go_ret
        exact ⟨rfl, HF.out _⟩
      · have y3 : decide (m.off < 0) = false := decide_eq_false h3
        by_cases h4 : m.at' < b
        · go_enter Try.func31, Try.ntmps31
          go_wp2_with fail
          rw [HW.out]
          go_quiet (fail)
          go_wp2_with fail
          go_ret
          exact ⟨rfl, HF.out _⟩
        · have y4 : decide (m.at' < b) = false := decide_eq_false h4
          have h5 : r ≤ m.at' - b := by omega
          have h6 : IntKind.i64.wrap (m.at' - b) = m.at' - b := IntWalk.i64_in _ (by omega)
          clear hm
          go_enter Try.func31, Try.ntmps31
          go_wp2_with fail
          rw [HW.out]
          go_quiet (fail)
          go_wp2_with fail
          go_ret
          exact ⟨rfl, HF.out _⟩
end Go.Proofs.Ytdaodpojcjbggaa.Rm
