/- The walk of SumNumbers. -/
import Derived.Test.YtidpmlifodpjlaaSumE
namespace Go.Proofs.Ytidpmlifodpjlaa.Sm
open Go.RowKit
set_option linter.unusedVariables false

theorem idx32_0 (x y z : Int) (w : World) : (Instr.index 32 (.agg #[.int .u64 x, .int .u64 y, .int .u64 z]) (.int .i64 0)).run Try.prog w = .ok (.int .u64 x) w := by kernel_rfl
theorem idx32_1 (x y z : Int) (w : World) : (Instr.index 32 (.agg #[.int .u64 x, .int .u64 y, .int .u64 z]) (.int .i64 1)).run Try.prog w = .ok (.int .u64 y) w := by kernel_rfl
theorem idx32_2 (x y z : Int) (w : World) : (Instr.index 32 (.agg #[.int .u64 x, .int .u64 y, .int .u64 z]) (.int .i64 2)).run Try.prog w = .ok (.int .u64 z) w := by kernel_rfl
attribute [local go_sem] idx32_0 idx32_1 idx32_2

set_option maxRecDepth 100000 in
set_option maxHeartbeats 4000000 in
theorem sumNumbers (n a b c : Int) (hn : 0 ≤ n ∧ n < 18446744073709551616) (ha : 0 ≤ a ∧ a ≤ 65535) (hb : 0 ≤ b ∧ b ≤ 65535) (hc : 0 ≤ c ∧ c ≤ 65535) (w : World) :
    Calls Try.prog 4 #[.int .u64 n, .int .u16 a, .int .u16 b, .int .u16 c] w fun e w' => e = .returned (.bool true) ∧ Gw w w' := by
  go_enter Try.func4, Try.ntmps4
  go_wp2
  refine wp_loop_rounds 4 ?_
  rw [rounds_succ]
  go_wp2_with (first | (go_at_call 19; refine (fold _ _ (by omega)).mono ?_; rintro e w' ⟨rfl, rfl⟩) | (go_at_call 20; refine (rfold _ _ (by omega)).mono ?_; rintro e w' ⟨rfl, rfl⟩))
  rw [rounds_succ]
  go_wp2_with (first | (go_at_call 19; refine (fold _ _ (by omega)).mono ?_; rintro e w' ⟨rfl, rfl⟩) | (go_at_call 20; refine (rfold _ _ (by omega)).mono ?_; rintro e w' ⟨rfl, rfl⟩))
  rw [rounds_succ]
  go_wp2_with (first | (go_at_call 19; refine (fold _ _ (by omega)).mono ?_; rintro e w' ⟨rfl, rfl⟩) | (go_at_call 20; refine (rfold _ _ (by omega)).mono ?_; rintro e w' ⟨rfl, rfl⟩))
  rw [rounds_succ]
  go_wp2_with (first | (go_at_call 18; refine (works _).mono ?_; rintro e w' ⟨rfl, hb⟩) | (go_at_call 21; refine (same _ _ _ (by omega) (by omega)).mono ?_; rintro e w' ⟨rfl, rfl⟩) | (go_at_call 22; refine (rsame _ _ _ (by omega) (by omega)).mono ?_; rintro e w' ⟨rfl, rfl⟩) | (go_at_call 23; refine (not_ _ _ (by omega)).mono ?_; rintro e w' ⟨rfl, rfl⟩) | (go_at_call 24; refine (rnot _ _ (by omega)).mono ?_; rintro e w' ⟨rfl, rfl⟩) | (go_at_call 25; refine (turn _ _ _ _ (by omega) (by omega) (by omega)).mono ?_; rintro e w' ⟨rfl, rfl⟩) | (go_at_call 26; refine (rturn _ _ _ _ (by omega) (by omega) (by omega)).mono ?_; rintro e w' ⟨rfl, rfl⟩))
  go_ret
  exact ⟨rfl, by assumption⟩
end Go.Proofs.Ytidpmlifodpjlaa.Sm
