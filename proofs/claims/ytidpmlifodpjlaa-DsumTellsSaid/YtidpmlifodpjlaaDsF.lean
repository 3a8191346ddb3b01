/- The walk of DsumTells. -/
import Derived.Test.YtidpmlifodpjlaaDsE
namespace Go.Proofs.Ytidpmlifodpjlaa.Sm
open Go.RowKit
set_option linter.unusedVariables false

theorem idx46_0 (x y z u : Int) (w : World) : (Instr.index 46 (.agg #[.int .u16 x, .int .u16 y, .int .u16 z, .int .u16 u]) (.int .i64 0)).run Try.prog w = .ok (.int .u16 x) w := by kernel_rfl
theorem idx46_1 (x y z u : Int) (w : World) : (Instr.index 46 (.agg #[.int .u16 x, .int .u16 y, .int .u16 z, .int .u16 u]) (.int .i64 1)).run Try.prog w = .ok (.int .u16 y) w := by kernel_rfl
theorem idx46_2 (x y z u : Int) (w : World) : (Instr.index 46 (.agg #[.int .u16 x, .int .u16 y, .int .u16 z, .int .u16 u]) (.int .i64 2)).run Try.prog w = .ok (.int .u16 z) w := by kernel_rfl
theorem idx46_3 (x y z u : Int) (w : World) : (Instr.index 46 (.agg #[.int .u16 x, .int .u16 y, .int .u16 z, .int .u16 u]) (.int .i64 3)).run Try.prog w = .ok (.int .u16 u) w := by kernel_rfl
attribute [local go_sem] idx46_0 idx46_1 idx46_2 idx46_3

set_option maxRecDepth 100000 in
set_option maxHeartbeats 4000000 in
theorem dsumTells (dsn ssn n sum : Int) (text : ByteArray) (hd : 0 ≤ dsn ∧ dsn < 18446744073709551616) (hs : 0 ≤ ssn ∧ ssn < 4294967296) (hn : -9223372036854775808 ≤ n ∧ n < 9223372036854775808) (ho : 0 ≤ sum ∧ sum ≤ 65535) (hz : text.size ≤ 9223372036854775807) (w : World) :
    Calls Try.prog 9 #[.int .u64 dsn, .int .u32 ssn, .int .i64 n, .string text, .int .u16 sum] w fun e w' => e = .returned (.bool true) ∧ Gw w w' := by
  have hcases : ∃ t : ByteArray, t.size ≤ 500 ∧ ((500 < (text.size : Int) ∧ text.extract 0 500 = t) ∨ (¬ 500 < (text.size : Int) ∧ t = text)) := by
    by_cases h : 500 < (text.size : Int)
    · exact ⟨_, by rw [ByteArray.size_extract]; omega, .inl ⟨h, rfl⟩⟩
    · exact ⟨_, by omega, .inr ⟨h, rfl⟩⟩
  obtain ⟨t, ht, hc⟩ := hcases
  obtain ⟨s, hsv⟩ : ∃ s, 65535 - Sm (allB dsn ssn n 0 t.data.toList) = s := ⟨_, rfl⟩
  have hsr : 0 ≤ s ∧ s ≤ 65535 := by have := Sm_range (allB dsn ssn n 0 t.data.toList); omega
  obtain ⟨x1, hx1⟩ : ∃ x, IntKind.u16.wrap (s + 1) = x := ⟨_, rfl⟩
  have hr1 : 0 ≤ x1 ∧ x1 ≤ 65535 := by rw [← hx1, IntKind.wrap_u16]; omega
  obtain ⟨x2, hx2⟩ : ∃ x, bits .xor .u16 IntKind.u16.max s = x := ⟨_, rfl⟩
  have hr2 : 0 ≤ x2 ∧ x2 ≤ 65535 := by rw [← hx2, xor_max s hsr.1 hsr.2]; omega
  rcases hc with ⟨hl, he⟩ | ⟨hl, rfl⟩
  all_goals
    go_enter Try.func9, Try.ntmps9
    go_wp2_with (first | (go_at_call 27; refine (rdof _ _ _ _ _ (by omega) (by omega) (by omega) (by omega)).mono ?_; rintro e w' ⟨rfl, hb⟩) | (go_at_call 28; refine (dof _ _ _ _ _ (by omega) (by omega) (by omega) (by omega)).mono ?_; rintro e w' ⟨rfl, hb⟩))
    refine wp_loop_rounds 5 ?_
    iterate 5 (rw [rounds_succ]; go_wp2_with (first | (go_at_call 29; refine (dright _ _ _ _ _ _ (by omega) (by omega) (by omega) (by omega) (by omega)).mono ?_; rintro e w' ⟨rfl, hb⟩) | (go_at_call 30; refine (rdright _ _ _ _ _ _ (by omega) (by omega) (by omega) (by omega) (by omega)).mono ?_; rintro e w' ⟨rfl, hb⟩) | (go_at_call 31; refine (dworks _).mono ?_; rintro e w' ⟨rfl, hb⟩)))
    go_ret
    refine ⟨rfl, by (repeat (first | with_reducible exact Gw.refl _ | with_reducible assumption | with_reducible refine Gw.alloc ?_ _ | with_reducible refine Gw.drew ?_ | with_reducible refine Gw.trans ?_ (by with_reducible assumption)))⟩
end Go.Proofs.Ytidpmlifodpjlaa.Sm
