/- The walk of SeqOrder. -/
import Derived.Test.YtmjajepdlopkiaaSeqG
namespace Go.Proofs.Ytmjajepdlopkiaa.Sq
open Go.RowKit
set_option linter.unusedVariables false

theorem w_p (a n : Int) (ha : 0 ≤ a ∧ a < 4294967296) (h : 0 ≤ n ∧ n < 2147483648) : W a (P a n) = n := by unfold W P; omega
theorem bf_p (a m n : Int) (ha : 0 ≤ a ∧ a < 4294967296) (h : 0 ≤ n ∧ n < 2147483648) (k : 0 ≤ m ∧ m < 2147483648) : Bf (P a m) (P a n) = decide (m < n) := by
  unfold Bf W P; rw [Bool.eq_iff_iff]; simp; omega
theorem g_p (a m n : Int) (ha : 0 ≤ a ∧ a < 4294967296) (h : 0 ≤ n ∧ n < 2147483648) (k : 0 ≤ m ∧ m < 2147483648) : G (P a m) (P a n) = n - m := by
  unfold G W P; split <;> omega

set_option maxRecDepth 100000 in
set_option maxHeartbeats 8000000 in
theorem seqOrder (a f0 f1 f2 : Int) (ha : 0 ≤ a ∧ a < 4294967296) (h0 : 0 ≤ f0 ∧ f0 < 4294967296) (h1 : 0 ≤ f1 ∧ f1 < 4294967296) (h2 : 0 ≤ f2 ∧ f2 < 4294967296) (w : World) :
    Calls Try.prog 5 #[.int .u32 a, .agg #[.int .u32 f0, .int .u32 f1, .int .u32 f2]] w fun e w' => e = .returned (.bool true) ∧ Gw w w' := by
  obtain ⟨n0, e0, r0⟩ : ∃ n, f0 % 2147483648 = n ∧ (0 ≤ n ∧ n < 2147483648) := ⟨_, rfl, by omega⟩
  obtain ⟨n1, e1, r1⟩ : ∃ n, f1 % 2147483648 = n ∧ (0 ≤ n ∧ n < 2147483648) := ⟨_, rfl, by omega⟩
  obtain ⟨n2, e2, r2⟩ : ∃ n, f2 % 2147483648 = n ∧ (0 ≤ n ∧ n < 2147483648) := ⟨_, rfl, by omega⟩
  have w0 := w_p a n0 ha r0
  have w1 := w_p a n1 ha r1
  have w2 := w_p a n2 ha r2
  have b00 := bf_p a n0 n0 ha r0 r0
  have b01 := bf_p a n0 n1 ha r1 r0
  have b02 := bf_p a n0 n2 ha r2 r0
  have b10 := bf_p a n1 n0 ha r0 r1
  have b11 := bf_p a n1 n1 ha r1 r1
  have b12 := bf_p a n1 n2 ha r2 r1
  have b20 := bf_p a n2 n0 ha r0 r2
  have b21 := bf_p a n2 n1 ha r1 r2
  have b22 := bf_p a n2 n2 ha r2 r2
  have g00 := g_p a n0 n0 ha r0 r0
  have g01 := g_p a n0 n1 ha r1 r0
  have g02 := g_p a n0 n2 ha r2 r0
  have g10 := g_p a n1 n0 ha r0 r1
  have g11 := g_p a n1 n1 ha r1 r1
  have g12 := g_p a n1 n2 ha r2 r1
  have g20 := g_p a n2 n0 ha r0 r2
  have g21 := g_p a n2 n1 ha r1 r2
  have g22 := g_p a n2 n2 ha r2 r2
  go_enter Try.func5, Try.ntmps5
  go_wp2_with (first | (go_at_call 22; refine (works _).mono ?_; rintro e w' ⟨rfl, hg⟩))
  have hc0 : w'.cell? ⟨w.heap.size, 0, none⟩ = some (.int .u32 f0) := (Below.cell hg (p := ⟨w.heap.size, 0, none⟩) (by simp)).trans (by simp [go_sem])
  have hc1 : w'.cell? ⟨w.heap.size, 1, none⟩ = some (.int .u32 f1) := (Below.cell hg (p := ⟨w.heap.size, 1, none⟩) (by simp)).trans (by simp [go_sem])
  have hc2 : w'.cell? ⟨w.heap.size, 2, none⟩ = some (.int .u32 f2) := (Below.cell hg (p := ⟨w.heap.size, 2, none⟩) (by simp)).trans (by simp [go_sem])
  have hz : w.heap.size < w'.heap.size := by have := hg.size; simp at this; omega
  refine wp_loop_rounds 4 ?_
  rw [rounds_succ]
  go_wp2_with (first | (go_at_call 21; refine (plus _ _ _).mono ?_; rintro e w' ⟨rfl, rfl⟩) | (go_at_call 19; refine (inn _ _ _ _).mono ?_; rintro e w' ⟨rfl, rfl⟩))
  rw [rounds_succ]
  go_wp2_with (first | (go_at_call 21; refine (plus _ _ _).mono ?_; rintro e w' ⟨rfl, rfl⟩) | (go_at_call 19; refine (inn _ _ _ _).mono ?_; rintro e w' ⟨rfl, rfl⟩))
  rw [rounds_succ]
  go_wp2_with (first | (go_at_call 21; refine (plus _ _ _).mono ?_; rintro e w' ⟨rfl, rfl⟩) | (go_at_call 19; refine (inn _ _ _ _).mono ?_; rintro e w' ⟨rfl, rfl⟩))
  rw [rounds_succ]
  go_wp2
  refine wp_loop_rounds 4 ?_
  rw [rounds_succ]
  go_wp2
  refine wp_loop_rounds 4 ?_
  rw [rounds_succ]
  go_wp2
  go_quiet ((first | (go_at_call 15; first | exact quiet_left (before _ _ _) | exact quiet_add_left (before _ _ _)) | (go_at_call 17; first | exact quiet_left (gap _ _ _) | exact quiet_add_left (gap _ _ _))))
  go_wp2
  rw [rounds_succ]
  go_wp2
  go_quiet ((first | (go_at_call 15; first | exact quiet_left (before _ _ _) | exact quiet_add_left (before _ _ _)) | (go_at_call 17; first | exact quiet_left (gap _ _ _) | exact quiet_add_left (gap _ _ _))))
  go_wp2
  rw [rounds_succ]
  go_wp2
  go_quiet ((first | (go_at_call 15; first | exact quiet_left (before _ _ _) | exact quiet_add_left (before _ _ _)) | (go_at_call 17; first | exact quiet_left (gap _ _ _) | exact quiet_add_left (gap _ _ _))))
  go_wp2
  rw [rounds_succ]
  go_wp2
  rw [rounds_succ]
  go_wp2
  refine wp_loop_rounds 4 ?_
  rw [rounds_succ]
  go_wp2
  go_quiet ((first | (go_at_call 15; first | exact quiet_left (before _ _ _) | exact quiet_add_left (before _ _ _)) | (go_at_call 17; first | exact quiet_left (gap _ _ _) | exact quiet_add_left (gap _ _ _))))
  go_wp2
  rw [rounds_succ]
  go_wp2
  go_quiet ((first | (go_at_call 15; first | exact quiet_left (before _ _ _) | exact quiet_add_left (before _ _ _)) | (go_at_call 17; first | exact quiet_left (gap _ _ _) | exact quiet_add_left (gap _ _ _))))
  go_wp2
  rw [rounds_succ]
  go_wp2
  go_quiet ((first | (go_at_call 15; first | exact quiet_left (before _ _ _) | exact quiet_add_left (before _ _ _)) | (go_at_call 17; first | exact quiet_left (gap _ _ _) | exact quiet_add_left (gap _ _ _))))
  go_wp2
  rw [rounds_succ]
  go_wp2
  rw [rounds_succ]
  go_wp2
  refine wp_loop_rounds 4 ?_
  rw [rounds_succ]
  go_wp2
  go_quiet ((first | (go_at_call 15; first | exact quiet_left (before _ _ _) | exact quiet_add_left (before _ _ _)) | (go_at_call 17; first | exact quiet_left (gap _ _ _) | exact quiet_add_left (gap _ _ _))))
  go_wp2
  rw [rounds_succ]
  go_wp2
  go_quiet ((first | (go_at_call 15; first | exact quiet_left (before _ _ _) | exact quiet_add_left (before _ _ _)) | (go_at_call 17; first | exact quiet_left (gap _ _ _) | exact quiet_add_left (gap _ _ _))))
  go_wp2
  rw [rounds_succ]
  go_wp2
  go_quiet ((first | (go_at_call 15; first | exact quiet_left (before _ _ _) | exact quiet_add_left (before _ _ _)) | (go_at_call 17; first | exact quiet_left (gap _ _ _) | exact quiet_add_left (gap _ _ _))))
  go_wp2
  rw [rounds_succ]
  go_wp2
  rw [rounds_succ]
  by_cases c1 : n0 < n1 <;> by_cases c2 : n1 < n2 <;> by_cases c3 : n0 < n2 <;> first | (exfalso; omega) | skip
  all_goals
    go_wp2_with (go_at_call 15; refine (before _ _ _).mono ?_; rintro e w' ⟨rfl, rfl⟩)
  all_goals go_ret
  all_goals exact ⟨rfl, (((Gw.trans ((Gw.refl w).alloc _) hg).alloc _).alloc _).drewN _⟩
end Go.Proofs.Ytmjajepdlopkiaa.Sq
