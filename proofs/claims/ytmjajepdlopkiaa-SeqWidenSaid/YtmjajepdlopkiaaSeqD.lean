/- The walks of SeqKnown and SeqWiden. -/
import Derived.Test.YtmjajepdlopkiaaSeqC
namespace Go.Proofs.Ytmjajepdlopkiaa.Sq
open Go.RowKit
set_option linter.unusedVariables false

set_option maxRecDepth 100000 in
set_option maxHeartbeats 2000000 in
theorem seqKnown (w : World) : Calls Try.prog 8 #[] w fun e w' => e = .returned (.bool true) ∧ Gw w w' := by
  have i1 : W 5 5 = 0 := by decide
  have i2 : W 5 4 = 4294967295 := by decide
  have p1 : P 7 4294967296 = 7 := by decide
  have p2 : P 7 (-9223372036854775808) = 7 := by decide
  have p3 : P 0 9223372036854775807 = 4294967295 := by decide
  have x1 : Ex 0 18446744073709551615 = 0 := by decide
  have x2 : Ex 4294967295 0 = 18446744073709551615 := by decide
  have x3 : Ex 2147483648 0 = 2147483648 := by decide
  have x4 : Ex 2147483649 0 = 18446744071562067969 := by decide
  have f1 : Fr 0 9223372036854775808 = -9223372036854775808 := by decide +kernel
  have f2 : Fr 18446744073709551615 0 = 1 := by decide +kernel
  have f3 : Fr 0 9223372036854775807 = 9223372036854775807 := by decide +kernel
  have b1 : Bf 2147483648 0 = false := by decide
  go_enter Try.func8, Try.ntmps8
  go_wp2_with (first | (go_at_call 22; refine (works _).mono ?_; rintro e w' ⟨rfl, hb⟩) | (go_at_call 19; refine (inn _ _ _ _).mono ?_; rintro e w' ⟨rfl, rfl⟩) | (go_at_call 15; refine (before _ _ _).mono ?_; rintro e w' ⟨rfl, rfl⟩) | (go_at_call 21; refine (plus _ _ _).mono ?_; rintro e w' ⟨rfl, rfl⟩) | (go_at_call 17; refine (gap _ _ _).mono ?_; rintro e w' ⟨rfl, rfl⟩) | (go_at_call 23; refine (expand' _ _ _ (by omega) (by omega)).mono ?_; rintro e w' ⟨rfl, hb⟩) | (go_at_call 25; refine (far _ _ _).mono ?_; rintro e w' ⟨rfl, rfl⟩))
  go_ret
  exact ⟨rfl, Gw.trans (Gw.trans (Gw.trans (Gw.trans (by assumption) (by assumption)) (by assumption)) (by assumption)) (by assumption)⟩

theorem widen_on (near n : Int) (hn : 0 ≤ near ∧ near < 18446744073709551616) (h : 0 ≤ n ∧ n < 2147483648) :
    Ex (IntKind.u64.wrap (near + n) % 4294967296) near = IntKind.u64.wrap (near + n) ∧ Fr near (IntKind.u64.wrap (near + n)) = n := by
  rw [IntKind.wrap_u64]
  constructor
  · unfold Ex ahead on W; split <;> omega
  · unfold Fr wrap64; omega
theorem widen_back (near n : Int) (hn : 0 ≤ near ∧ near < 18446744073709551616) (h : 0 ≤ n ∧ n < 2147483648) :
    Ex (IntKind.u64.wrap (near - n) % 4294967296) near = IntKind.u64.wrap (near - n) ∧ Fr near (IntKind.u64.wrap (near - n)) = -n := by
  rw [IntKind.wrap_u64]
  constructor
  · unfold Ex ahead on W; split <;> omega
  · unfold Fr wrap64; omega
theorem widen_low (near low : Int) (hn : 0 ≤ near ∧ near < 18446744073709551616) (hl : 0 ≤ low ∧ low < 4294967296) :
    Ex low near % 4294967296 = low ∧ -2147483648 < Fr near (Ex low near) ∧ Fr near (Ex low near) ≤ 2147483648 ∧ IntKind.u64.wrap (near + IntKind.u64.wrap (Fr near (Ex low near))) = Ex low near := by
  refine ⟨?_, ?_, ?_, ?_⟩
  · unfold Ex ahead on W; split <;> omega
  · unfold Ex ahead on W Fr wrap64; split <;> omega
  · unfold Ex ahead on W Fr wrap64; split <;> omega
  · rw [IntKind.wrap_u64, IntKind.wrap_u64]; unfold Ex ahead on W Fr wrap64; split <;> omega

set_option maxRecDepth 100000 in
set_option maxHeartbeats 2000000 in
theorem seqWiden (near far low : Int) (back : Bool) (hn : 0 ≤ near ∧ near < 18446744073709551616) (hf : 0 ≤ far ∧ far < 4294967296) (hl : 0 ≤ low ∧ low < 4294967296) (w : World) :
    Calls Try.prog 7 #[.int .u64 near, .int .u32 far, .int .u32 low, .bool back] w fun e w' => e = .returned (.bool true) ∧ Gw w w' := by
  obtain ⟨e3, e4, e5, e6⟩ := widen_low near low hn hl
  cases back
  · obtain ⟨e1, e2⟩ := widen_on near (far % 2147483648) hn (by omega)
    go_enter Try.func7, Try.ntmps7
    go_wp2_with (first | (go_at_call 22; refine (works _).mono ?_; rintro e w' ⟨rfl, hb⟩) | (go_at_call 23; refine (expand' _ _ _ (by omega) (by omega)).mono ?_; rintro e w' ⟨rfl, hb⟩) | (go_at_call 25; refine (Sq.far _ _ _).mono ?_; rintro e w' ⟨rfl, rfl⟩))
    go_ret
    exact ⟨rfl, Gw.trans (Gw.trans (by assumption) (by assumption)) (by assumption)⟩
  · obtain ⟨e1, e2⟩ := widen_back near (far % 2147483648) hn (by omega)
    go_enter Try.func7, Try.ntmps7
    go_wp2_with (first | (go_at_call 22; refine (works _).mono ?_; rintro e w' ⟨rfl, hb⟩) | (go_at_call 23; refine (expand' _ _ _ (by omega) (by omega)).mono ?_; rintro e w' ⟨rfl, hb⟩) | (go_at_call 25; refine (Sq.far _ _ _).mono ?_; rintro e w' ⟨rfl, rfl⟩))
    go_ret
    exact ⟨rfl, Gw.trans (Gw.trans (by assumption) (by assumption)) (by assumption)⟩
end Go.Proofs.Ytmjajepdlopkiaa.Sq
