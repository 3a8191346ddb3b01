/- The chapter's examples of seq (works) and the laws SeqBack and SeqWiden: their walks. -/
import Derived.Test.YtmjajepdlopkiaaSeqB
namespace Go.Proofs.Ytmjajepdlopkiaa.Sq
open Go.RowKit
set_option linter.unusedVariables false

/-- Nothing that lay has turned. -/
def Gw (w w' : World) : Prop := Below w.heap.size w w'
theorem Gw.refl (w : World) : Gw w w := Below.refl _ _
theorem Gw.trans {a b c : World} (h : Gw a b) (k : Gw b c) : Gw a c := Below.trans h (Below.mono k h.size)

theorem Gw.drewN {a b : World} (h : Gw a b) (n : Nat) : Gw a (b.drewN n) := ⟨h.os, h.tape, h.output, h.size, h.block⟩
theorem Gw.drew {a b : World} (h : Gw a b) : Gw a b.drew := Below.drew h
theorem Gw.alloc {a b : World} (h : Gw a b) (o : Obj) : Gw a (b.alloc o) := Below.alloc h h.size o

theorem expand' (low near : Int) (w : World) (hl : 0 ≤ low ∧ low < 4294967296) (hn : 0 ≤ near ∧ near < 18446744073709551616) :
    Calls Try.prog 23 #[.int .u32 low, .int .u64 near] w fun e W' => e = .returned (.int .u64 (Ex low near)) ∧ Gw w W' := expand low near hl hn w

set_option maxRecDepth 100000 in
set_option maxHeartbeats 2000000 in
theorem works (w : World) : Calls Try.prog 22 #[] w fun e w' => e = .returned (.bool true) ∧ Gw w w' := by
  have i1 : W 4294967294 3 = 5 := by decide
  have b1 : Bf 5 6 = true := by decide
  have b2 : Bf 6 5 = false := by decide
  have b3 : Bf 5 5 = false := by decide
  have b4 : Bf 4294967295 0 = true := by decide
  have b5 : Bf 0 2147483648 = false := by decide
  have p1 : P 4294967295 2 = 1 := by decide
  have p2 : P 0 (-1) = 4294967295 := by decide
  have g1 : G 4294967295 1 = 2 := by decide
  have g2 : G 1 4294967295 = -2 := by decide
  have g3 : G 0 2147483648 = -2147483648 := by decide
  have x1 : Ex 5 8589934591 = 8589934597 := by decide
  have x2 : Ex 4294967295 4294967301 = 4294967295 := by decide
  have x3 : Ex 0 2147483648 = 4294967296 := by decide
  have f1 : Fr 7 5 = -2 := by decide +kernel
  go_enter Try.func22, Try.ntmps22
  go_wp2_with (first | (go_at_call 19; refine (inn _ _ _ _).mono ?_; rintro e w' ⟨rfl, rfl⟩) | (go_at_call 15; refine (before _ _ _).mono ?_; rintro e w' ⟨rfl, rfl⟩) | (go_at_call 21; refine (plus _ _ _).mono ?_; rintro e w' ⟨rfl, rfl⟩) | (go_at_call 17; refine (gap _ _ _).mono ?_; rintro e w' ⟨rfl, rfl⟩) | (go_at_call 23; refine (expand' _ _ _ (by omega) (by omega)).mono ?_; rintro e w' ⟨rfl, hb⟩) | (go_at_call 25; refine (far _ _ _).mono ?_; rintro e w' ⟨rfl, rfl⟩))
  go_ret
  exact ⟨rfl, Gw.trans (Gw.trans (by assumption) (by assumption)) (by assumption)⟩

theorem plus_gap (a b : Int) (hb : 0 ≤ b ∧ b < 4294967296) : P a (G a b) = b := by
  unfold P G W; split <;> omega
theorem plus_back (a n : Int) (ha : 0 ≤ a ∧ a < 4294967296) : P (P a n) (wrap64 (-n)) = a := by
  unfold P wrap64; omega
theorem bf_flat {a b : Int} (h : G a b = 0 ∨ G a b = -2147483648) : Bf a b = false ∧ Bf b a = false := by
  unfold G W at h; unfold Bf W; constructor <;> (apply decide_eq_false; split at h <;> omega)
theorem bf_on {a b : Int} (h : 0 < G a b) : Bf a b = true ∧ Bf b a = false ∧ G b a = -(G a b) := by
  refine ⟨?_, ?_, ?_⟩
  · unfold G W at h; unfold Bf W; apply decide_eq_true; split at h <;> omega
  · unfold G W at h; unfold Bf W; apply decide_eq_false; split at h <;> omega
  · unfold G W at *; split at h <;> split <;> omega
theorem bf_back {a b : Int} (h : G a b < 0) (h' : G a b ≠ -2147483648) : Bf a b = false ∧ Bf b a = true ∧ G b a = -(G a b) := by
  refine ⟨?_, ?_, ?_⟩
  · unfold G W at h h'; unfold Bf W; apply decide_eq_false; split at h <;> simp_all <;> omega
  · unfold G W at h h'; unfold Bf W; apply decide_eq_true; split at h <;> simp_all <;> omega
  · unfold G W at *; split at h <;> split <;> simp_all <;> omega

set_option maxRecDepth 100000 in
set_option maxHeartbeats 2000000 in
theorem seqBack (a b n : Int) (ha : 0 ≤ a ∧ a < 4294967296) (hb : 0 ≤ b ∧ b < 4294967296) (w : World) :
    Calls Try.prog 6 #[.int .u32 a, .int .u32 b, .int .i64 n] w fun e w' => e = .returned (.bool true) ∧ Gw w w' := by
  have hp := plus_gap a b hb
  have hq := plus_back a n ha
  have hr := G_range a b
  have hf0 := fun h => bf_flat (a := a) (b := b) h
  have hf1 := fun h => bf_on (a := a) (b := b) h
  have hf2 := fun h h' => bf_back (a := a) (b := b) h h'
  clear hb ha
  obtain ⟨g, hg⟩ : ∃ g, G a b = g := ⟨_, rfl⟩
  simp only [hg] at hp hr hf0 hf1 hf2
  by_cases h0 : g = 0
  · obtain ⟨c1, c2⟩ := hf0 (Or.inl h0)
    have e0 : (g == 0) = true := by simp [h0]
    clear hf0 hf1 hf2 h0
    go_enter Try.func6, Try.ntmps6
    go_wp2_with (first | (go_at_call 22; refine (works _).mono ?_; rintro e w' ⟨rfl, hb⟩) | (go_at_call 15; refine (before _ _ _).mono ?_; rintro e w' ⟨rfl, rfl⟩) | (go_at_call 21; refine (plus _ _ _).mono ?_; rintro e w' ⟨rfl, rfl⟩) | (go_at_call 17; refine (gap _ _ _).mono ?_; rintro e w' ⟨rfl, rfl⟩))
    go_ret
    exact ⟨rfl, by assumption⟩
  · by_cases h2 : g = -2147483648
    · obtain ⟨c1, c2⟩ := hf0 (Or.inr h2)
      have e0 : (g == 0) = false := by simp [h0]
      have e1 : (g == -2147483648) = true := by simp [h2]
      clear hf0 hf1 hf2 h0 h2
      go_enter Try.func6, Try.ntmps6
      go_wp2_with (first | (go_at_call 22; refine (works _).mono ?_; rintro e w' ⟨rfl, hb⟩) | (go_at_call 15; refine (before _ _ _).mono ?_; rintro e w' ⟨rfl, rfl⟩) | (go_at_call 21; refine (plus _ _ _).mono ?_; rintro e w' ⟨rfl, rfl⟩) | (go_at_call 17; refine (gap _ _ _).mono ?_; rintro e w' ⟨rfl, rfl⟩))
      go_ret
      exact ⟨rfl, by assumption⟩
    · have e0 : (g == 0) = false := by simp [h0]
      have e1 : (g == -2147483648) = false := by simp [h2]
      by_cases h3 : 0 < g
      · obtain ⟨c1, c2, c3⟩ := hf1 h3
        have d1 : decide (0 < g) = true := by simp [h3]
        have d2 : decide (g < 0) = false := by simp; omega
        clear hf0 hf1 hf2 h0 h2
        go_enter Try.func6, Try.ntmps6
        go_wp2_with (first | (go_at_call 22; refine (works _).mono ?_; rintro e w' ⟨rfl, hb⟩) | (go_at_call 15; refine (before _ _ _).mono ?_; rintro e w' ⟨rfl, rfl⟩) | (go_at_call 21; refine (plus _ _ _).mono ?_; rintro e w' ⟨rfl, rfl⟩) | (go_at_call 17; refine (gap _ _ _).mono ?_; rintro e w' ⟨rfl, rfl⟩))
        go_ret
        exact ⟨rfl, by assumption⟩
      · obtain ⟨c1, c2, c3⟩ := hf2 (by omega) h2
        have d1 : decide (0 < g) = false := by simp; omega
        have d2 : decide (g < 0) = true := by simp; omega
        clear hf0 hf1 hf2 h0 h2
        go_enter Try.func6, Try.ntmps6
        go_wp2_with (first | (go_at_call 22; refine (works _).mono ?_; rintro e w' ⟨rfl, hb⟩) | (go_at_call 15; refine (before _ _ _).mono ?_; rintro e w' ⟨rfl, rfl⟩) | (go_at_call 21; refine (plus _ _ _).mono ?_; rintro e w' ⟨rfl, rfl⟩) | (go_at_call 17; refine (gap _ _ _).mono ?_; rintro e w' ⟨rfl, rfl⟩))
        go_ret
        exact ⟨rfl, by assumption⟩
end Go.Proofs.Ytmjajepdlopkiaa.Sq
