/- Put: what may be put. -/
import Derived.Test.YtdaodpojcjbggaaRmF
namespace Go.Proofs.Ytdaodpojcjbggaa.Rm
open Go.RowKit Go.Proofs.Ytdaodpojcjbggaa.Ln
set_option linter.unusedVariables false
set_option linter.unusedSimpArgs false

set_option maxRecDepth 100000 in
set_option maxHeartbeats 4000000 in
theorem put_has {w0 w H X r b l} (h : TS w0 w H X r b l) (m : M) (ha : -9223372036854775808 ≤ m.at' ∧ m.at' < 9223372036854775808) (hm : may r b m) (hh : has l m.at' = true) :
    Calls Try.prog 31 #[.pointer (some ⟨X, 0, none⟩), agg m] w (TabP w0 w H X r b l (.returned (.bool false))) := by
  obtain ⟨W, hW⟩ : ∃ W, w.alloc (.cells #[.int .i64 m.at', .int .i64 m.off, .int .i64 m.len, .int .u16 m.sum] 60) = W := ⟨_, rfl⟩
  have hg : Gw w W := by rw [← hW]; exact gw_alloc1 _ _
  have m0 : W.cell? ⟨w.heap.size, 0, none⟩ = some (.int .i64 m.at') := by rw [← hW, World.cell?_alloc_new]; rfl
  have m1 : W.cell? ⟨w.heap.size, 1, none⟩ = some (.int .i64 m.off) := by rw [← hW, World.cell?_alloc_new]; rfl
  have m2 : W.cell? ⟨w.heap.size, 2, none⟩ = some (.int .i64 m.len) := by rw [← hW, World.cell?_alloc_new]; rfl
  have h' := h
  obtain ⟨_, _, _, A, C, T, _⟩ := h
  have c0 := cell_gw hg T.c0
  have c1 := cell_gw hg T.c1
  have hb := T.ok.b
  have hr := T.ok.r
  have HH := Lib.hid hh
  have HF := Lib.hid (fun n : Nat => find (T.gw (gw_drewN hg n)) m.at')
  have HT := Lib.hid (fun (V : World) (hV : Gw w V) => ts_gw_fx h' hV)
  have HG := Lib.hid hg
  have HW := Lib.hid hW
  obtain ⟨k1, k2, k3, k4, k5⟩ := hm
  have y1 : decide (m.len < 1) = false := decide_eq_false (by omega)
  have y2 : decide (r < m.len) = false := decide_eq_false (by omega)
  have y3 : decide (m.off < 0) = false := decide_eq_false (by omega)
  have y4 : decide (m.at' < b) = false := decide_eq_false (by omega)
  have y5 : decide (r ≤ m.at' - b) = false := decide_eq_false (by omega)
  have h6 : IntKind.i64.wrap (m.at' - b) = m.at' - b := IntWalk.i64_in _ (by omega)
  clear T hW hg hh h' k1 k2 k3 k4 k5
  go_enter Try.func31, Try.ntmps31
  go_wp2_with fail
  rw [HW.out]
  go_quiet (fail)
  have x0 : (W.drewN nq).cell? ⟨w.heap.size, 0, none⟩ = some (.int .i64 m.at') := m0
  clear y1 y2 y3 y4 y5 h6
  go_wp2_with ((go_at_call 50; refine (HF.out nq).mono ?_; rw [show FindP l m.at' (W.drewN nq) = fun e w' => e = .returned (.tuple #[.int .i64 (pos l m.at'), .bool (has l m.at')]) ∧ Gw (W.drewN nq) w' from rfl, HH.out]; rintro e w' ⟨rfl, hg2⟩; have HG2 := Lib.hid hg2; clear hg2))
  go_ret
  exact ⟨rfl, HT.out _ (gw_trans (gw_drewN HG.out nq) HG2.out)⟩
end Go.Proofs.Ytdaodpojcjbggaa.Rm
