/- Contracts of the document's answers of chapter 1 (plaitref01): each is the formula that the program's function has. -/
import Derived.Test.YtmjajepdlopkiaaSeqC
namespace Go.Proofs.Ytmjajepdlopkiaa.Sq
open Go.RowKit
set_option linter.unusedVariables false

theorem rway (a b : Int) (ha : 0 ≤ a ∧ a < 4294967296) (hb : 0 ≤ b ∧ b < 4294967296) (w : World) :
    Calls Try.prog 42 #[.int .u32 a, .int .u32 b] w fun e w' => e = .returned (.int .u64 (W a b)) ∧ w = w' := by
  by_cases h : a ≤ b
  · go_enter Try.func42, Try.ntmps42
    go_wp2
    go_ret
    refine ⟨ret_int ?_, rfl⟩
    show _ = _; unfold W; first | omega | (simp only [IntKind.wrap_u64]; omega)
  · go_enter Try.func42, Try.ntmps42
    go_wp2
    go_ret
    refine ⟨ret_int ?_, rfl⟩
    show _ = _; unfold W; first | omega | (simp only [IntKind.wrap_u64]; omega)

theorem wrap_u64_range (x : Int) : 0 ≤ IntKind.u64.wrap x ∧ IntKind.u64.wrap x < 18446744073709551616 := by rw [IntKind.wrap_u64]; omega
theorem tmod_facts (n : Int) : (-4294967296 < n.tmod 4294967296 ∧ n.tmod 4294967296 < 4294967296) ∧ (n.tmod 4294967296 - n) % 4294967296 = 0 := by
  rcases Int.le_total 0 n with h | h
  · rw [Int.tmod_eq_emod_of_nonneg h]; omega
  · have e : n.tmod 4294967296 = -((-n) % 4294967296) := by
      rw [← Int.tmod_eq_emod_of_nonneg (by omega : 0 ≤ -n), Int.neg_tmod, Int.neg_neg]
    rw [e]; omega
theorem tmod_million (n : Int) : -1048576 < n.tmod 1048576 ∧ n.tmod 1048576 < 1048576 := by
  rcases Int.le_total 0 n with h | h
  · rw [Int.tmod_eq_emod_of_nonneg h]; omega
  · have e : n.tmod 1048576 = -((-n) % 1048576) := by
      rw [← Int.tmod_eq_emod_of_nonneg (by omega : 0 ≤ -n), Int.neg_tmod, Int.neg_neg]
    rw [e]; omega
theorem rplus (a n : Int) (ha : 0 ≤ a ∧ a < 4294967296) (hn : -9223372036854775808 ≤ n ∧ n < 9223372036854775808) (w : World) :
    Calls Try.prog 14 #[.int .u32 a, .int .i64 n] w fun e w' => e = .returned (.int .u32 (P a n)) ∧ w = w' := by
  have hm := tmod_facts n
  obtain ⟨m, hm0⟩ : ∃ m, n.tmod 4294967296 = m := ⟨_, rfl⟩
  rw [hm0] at hm
  by_cases h : m < 0
  · go_enter Try.func14, Try.ntmps14
    go_wp2
    go_ret
    refine ⟨ret_int ?_, rfl⟩
    show _ = _; unfold P; first | omega | (simp only [IntKind.wrap_u64]; omega)
  · go_enter Try.func14, Try.ntmps14
    go_wp2
    go_ret
    refine ⟨ret_int ?_, rfl⟩
    show _ = _; unfold P; first | omega | (simp only [IntKind.wrap_u64]; omega)

theorem rbefore (a b : Int) (ha : 0 ≤ a ∧ a < 4294967296) (hb : 0 ≤ b ∧ b < 4294967296) (w : World) :
    Calls Try.prog 16 #[.int .u32 a, .int .u32 b] w fun e w' => e = .returned (.bool (Bf a b)) ∧ w = w' := by
  have hr := W_range a b
  have hb' : Bf a b = (decide (1 ≤ W a b) && decide (W a b ≤ 2147483647)) := by
    unfold Bf; rw [Bool.eq_iff_iff]; simp; omega
  rw [hb']
  clear hb'
  by_cases h : 1 ≤ W a b
  · go_enter Try.func16, Try.ntmps16
    go_wp2_with (first | (go_at_call 42; refine (rway _ _ (by omega) (by omega) _).mono ?_; rintro e w' ⟨rfl, rfl⟩))
    go_ret
    exact ⟨ret_bool (by rw [decide_eq_true h, Bool.true_and]), rfl⟩
  · go_enter Try.func16, Try.ntmps16
    go_wp2_with (first | (go_at_call 42; refine (rway _ _ (by omega) (by omega) _).mono ?_; rintro e w' ⟨rfl, rfl⟩))
    go_ret
    exact ⟨ret_bool (by rw [decide_eq_false (by omega), Bool.false_and]), rfl⟩

theorem rgap (a b : Int) (ha : 0 ≤ a ∧ a < 4294967296) (hb : 0 ≤ b ∧ b < 4294967296) (w : World) :
    Calls Try.prog 18 #[.int .u32 a, .int .u32 b] w fun e w' => e = .returned (.int .i64 (G a b)) ∧ w = w' := by
  have hr := W_range a b
  by_cases h : 2147483648 ≤ W a b
  · have hg : W a b - 4294967296 = G a b := by unfold G; rw [if_neg (by omega)]
    go_enter Try.func18, Try.ntmps18
    go_wp2_with (first | (go_at_call 42; refine (rway _ _ (by omega) (by omega) _).mono ?_; rintro e w' ⟨rfl, rfl⟩))
    go_ret
    exact ⟨rfl, rfl⟩
  · have hg : W a b = G a b := by unfold G; rw [if_pos (by omega)]
    go_enter Try.func18, Try.ntmps18
    go_wp2_with (first | (go_at_call 42; refine (rway _ _ (by omega) (by omega) _).mono ?_; rintro e w' ⟨rfl, rfl⟩))
    go_ret
    exact ⟨rfl, rfl⟩

theorem rin (x fr n : Int) (hx : 0 ≤ x ∧ x < 4294967296) (hf : 0 ≤ fr ∧ fr < 4294967296) (w : World) :
    Calls Try.prog 20 #[.int .u32 x, .int .u32 fr, .int .i64 n] w fun e w' => e = .returned (.tuple #[.int .i64 (if W fr x < n then W fr x else 0), .bool (decide (W fr x < n))]) ∧ w = w' := by
  have hr := W_range fr x
  by_cases h : W fr x < n
  · rw [if_pos h, decide_eq_true h]
    go_enter Try.func20, Try.ntmps20
    go_wp2_with (first | (go_at_call 42; refine (rway _ _ (by omega) (by omega) _).mono ?_; rintro e w' ⟨rfl, rfl⟩))
    go_ret2
    exact ⟨rfl, rfl⟩
  · rw [if_neg h, decide_eq_false h]
    go_enter Try.func20, Try.ntmps20
    go_wp2_with (first | (go_at_call 42; refine (rway _ _ (by omega) (by omega) _).mono ?_; rintro e w' ⟨rfl, rfl⟩))
    go_ret2
    exact ⟨rfl, rfl⟩

theorem rexpand (low near : Int) (hl : 0 ≤ low ∧ low < 4294967296) (hn : 0 ≤ near ∧ near < 18446744073709551616) (w : World) :
    Calls Try.prog 24 #[.int .u32 low, .int .u64 near] w fun e w' => e = .returned (.int .u64 (Ex low near)) ∧ w = w' := by
  have hr := W_range (near % 4294967296) low
  by_cases h : W (near % 4294967296) low ≤ 2147483648
  · go_enter Try.func24, Try.ntmps24
    go_wp2_with (first | (go_at_call 42; refine (rway _ _ (by omega) (by omega) _).mono ?_; rintro e w' ⟨rfl, rfl⟩))
    go_ret
    refine ⟨ret_int ?_, rfl⟩
    unfold Ex; rw [if_pos h]; simp only [IntKind.wrap_u64]; unfold on; omega
  · go_enter Try.func24, Try.ntmps24
    go_wp2_with (first | (go_at_call 42; refine (rway _ _ (by omega) (by omega) _).mono ?_; rintro e w' ⟨rfl, rfl⟩))
    go_ret
    refine ⟨ret_int ?_, rfl⟩
    unfold Ex; rw [if_neg (by omega)]; simp only [IntKind.wrap_u64]; unfold ahead on; omega

theorem rfar (a b : Int) (ha : 0 ≤ a ∧ a < 18446744073709551616) (hb : 0 ≤ b ∧ b < 18446744073709551616) (w : World) :
    Calls Try.prog 26 #[.int .u64 a, .int .u64 b] w fun e w' => e = .returned (.int .i64 (Fr a b)) ∧ w = w' := by
  by_cases h : a ≤ b
  · go_enter Try.func26, Try.ntmps26
    go_wp2
    go_ret
    refine ⟨ret_int ?_, rfl⟩
    unfold Fr; first | rfl | (simp only [wrap64]; omega) | (simp only [IntKind.wrap_u64, wrap64]; omega)
  · go_enter Try.func26, Try.ntmps26
    go_wp2
    go_ret
    refine ⟨ret_int ?_, rfl⟩
    unfold Fr; first | rfl | (simp only [wrap64]; omega) | (simp only [IntKind.wrap_u64, wrap64]; omega)
end Go.Proofs.Ytmjajepdlopkiaa.Sq
