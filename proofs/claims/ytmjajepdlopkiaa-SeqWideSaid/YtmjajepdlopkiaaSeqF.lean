/- The walk of SeqWide. -/
import Derived.Test.YtmjajepdlopkiaaSeqE
namespace Go.Proofs.Ytmjajepdlopkiaa.Sq
open Go.RowKit
set_option linter.unusedVariables false

theorem idx34_0 (x y z : Int) (w : World) : (Instr.index 34 (.agg #[.int .u32 x, .int .u32 y, .int .u32 z]) (.int .i64 0)).run Try.prog w = .ok (.int .u32 x) w := by kernel_rfl
theorem idx34_1 (x y z : Int) (w : World) : (Instr.index 34 (.agg #[.int .u32 x, .int .u32 y, .int .u32 z]) (.int .i64 1)).run Try.prog w = .ok (.int .u32 y) w := by kernel_rfl
theorem idx34_2 (x y z : Int) (w : World) : (Instr.index 34 (.agg #[.int .u32 x, .int .u32 y, .int .u32 z]) (.int .i64 2)).run Try.prog w = .ok (.int .u32 z) w := by kernel_rfl
attribute [local go_sem] idx34_0 idx34_1 idx34_2

set_option maxRecDepth 100000 in
set_option maxHeartbeats 2000000 in
theorem seqWide (low near more : Int) (hl : 0 ≤ low ∧ low < 4294967296) (hn : 0 ≤ near ∧ near < 18446744073709551616) (hm : -9223372036854775808 ≤ more ∧ more < 9223372036854775808) (w : World) :
    Calls Try.prog 4 #[.int .u32 low, .int .u64 near, .int .i64 more] w fun e w' => e = .returned (.bool true) ∧ Gw w w' := by
  have hs := wrap_u64_range (near + IntKind.u64.wrap more)
  go_enter Try.func4, Try.ntmps4
  go_wp2
  refine wp_loop_rounds 4 ?_
  rw [rounds_succ]
  go_wp2_with (first | (go_at_call 23; refine (expand' _ _ _ (by omega) (by omega)).mono ?_; rintro e w' ⟨rfl, hb⟩) | (go_at_call 24; refine (rexpand _ _ (by omega) (by omega) _).mono ?_; rintro e w' ⟨rfl, rfl⟩))
  rw [rounds_succ]
  go_wp2_with (first | (go_at_call 23; refine (expand' _ _ _ (by omega) (by omega)).mono ?_; rintro e w' ⟨rfl, hb⟩) | (go_at_call 24; refine (rexpand _ _ (by omega) (by omega) _).mono ?_; rintro e w' ⟨rfl, rfl⟩))
  rw [rounds_succ]
  go_wp2_with (first | (go_at_call 23; refine (expand' _ _ _ (by omega) (by omega)).mono ?_; rintro e w' ⟨rfl, hb⟩) | (go_at_call 24; refine (rexpand _ _ (by omega) (by omega) _).mono ?_; rintro e w' ⟨rfl, rfl⟩))
  rw [rounds_succ]
  go_wp2_with (first | (go_at_call 22; refine (works _).mono ?_; rintro e w' ⟨rfl, hb⟩) | (go_at_call 25; refine (far _ _ _).mono ?_; rintro e w' ⟨rfl, rfl⟩) | (go_at_call 26; refine (rfar _ _ (by omega) (by omega) _).mono ?_; rintro e w' ⟨rfl, rfl⟩))
  go_ret
  exact ⟨rfl, Gw.trans (Gw.trans (Gw.trans (by assumption) (by assumption)) (by assumption)) (by assumption)⟩
end Go.Proofs.Ytmjajepdlopkiaa.Sq
