/- The walk of SumTurn: its cases joined. -/
import Derived.Test.YtidpmlifodpjlaaSumT0
import Derived.Test.YtidpmlifodpjlaaSumT1
import Derived.Test.YtidpmlifodpjlaaSumT2
import Derived.Test.YtidpmlifodpjlaaSumT3
namespace Go.Proofs.Ytidpmlifodpjlaa.Sm
open Go.RowKit
set_option linter.unusedVariables false

set_option maxRecDepth 100000 in
set_option maxHeartbeats 1000000 in
theorem sumTurn (text : ByteArray) (at_ is_ : Int) (ha : 0 ≤ at_ ∧ at_ < 256) (hb : 0 ≤ is_ ∧ is_ ≤ 65535) (hs : text.size ≤ 9223372036854775807) (w : World) :
    Calls Try.prog 7 #[.string text, .int .u8 at_, .int .u16 is_] w fun e w' => e = .returned (.bool true) ∧ Gw w w' := by
  have hcases : ∃ t : ByteArray, t.size ≤ 200 ∧ ((200 < (text.size : Int) ∧ text.extract 0 200 = t) ∨ (¬ 200 < (text.size : Int) ∧ text = t)) := by
    by_cases h : 200 < (text.size : Int)
    · exact ⟨_, by rw [ByteArray.size_extract]; omega, .inl ⟨h, rfl⟩⟩
    · exact ⟨_, by omega, .inr ⟨h, rfl⟩⟩
  obtain ⟨t0, ht0, hc⟩ := hcases
  by_cases ho : t0.size % 2 = 1
  · have ho' : ((t0.size : Int) % 2 == 1) = true := by rw [beq_iff_eq]; omega
    have hsz : (t0 ++ ⟨#[0]⟩ : ByteArray).size = t0.size + 1 := by rw [ByteArray.size_append]; rfl
    have hz : (((t0 ++ ⟨#[0]⟩ : ByteArray).size : Int) == 0) = false := by rw [beq_eq_false_iff_ne]; omega
    rcases hc with ⟨hl, he⟩ | ⟨hl, he⟩
    · exact sumTurn0 text t0 _ hl he ho' rfl hz ht0 (by omega) (by omega) at_ is_ ha hb hs w
    · exact sumTurn2 text t0 _ hl he ho' rfl hz ht0 (by omega) (by omega) at_ is_ ha hb hs w
  · have ho' : ((t0.size : Int) % 2 == 1) = false := by rw [beq_eq_false_iff_ne]; omega
    by_cases hz : t0.size = 0
    · have hz' : ((t0.size : Int) == 0) = true := by rw [beq_iff_eq]; omega
      rcases hc with ⟨hl, he⟩ | ⟨hl, rfl⟩
      all_goals
        go_enter Try.func7, Try.ntmps7
        go_wp2_with (go_at_call 18; refine (works _).mono ?_; rintro e w1 ⟨rfl, hg1⟩)
        go_ret
        exact ⟨rfl, by (repeat (first | with_reducible exact Gw.refl _ | with_reducible assumption | with_reducible refine Gw.alloc ?_ _ | with_reducible refine Gw.drew ?_ | with_reducible refine Gw.trans ?_ (by with_reducible assumption)))⟩
    · have hz' : ((t0.size : Int) == 0) = false := by rw [beq_eq_false_iff_ne]; omega
      rcases hc with ⟨hl, he⟩ | ⟨hl, he⟩
      · exact sumTurn1 text t0 t0 hl he ho' rfl hz' ht0 (by omega) (by omega) at_ is_ ha hb hs w
      · exact sumTurn3 text t0 t0 hl he ho' rfl hz' ht0 (by omega) (by omega) at_ is_ ha hb hs w
end Go.Proofs.Ytidpmlifodpjlaa.Sm
