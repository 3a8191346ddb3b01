/- Contracts of the small functions of package seq (way, Before, Plus, Gap, In, Far): each returns what its formula says and leaves the world alone. -/
import Derived.Test.YtmjajepdlopkiaaProg
import Derived.WalkKit
import Derived.Handy
import Derived.Outline
import Derived.KernelRfl
namespace Go.Proofs.Ytmjajepdlopkiaa.Sq
open Go.RowKit
set_option linter.unusedVariables false

theorem ret_int {k : IntKind} {a b : Int} (h : a = b) : Ending.returned (.int k a) = .returned (.int k b) := by rw [h]
theorem ret_bool {a b : Bool} (h : a = b) : Ending.returned (.bool a) = .returned (.bool b) := by rw [h]

/-- How far it is from a to b, among numbers of 32 bits. -/
def W (a b : Int) : Int := (b - a) % 4294967296
/-- The same, on or back. -/
def G (a b : Int) : Int := if W a b < 2147483648 then W a b else W a b - 4294967296
def Bf (a b : Int) : Bool := decide (0 < W a b ∧ W a b < 2147483648)
def P (a n : Int) : Int := (a + n) % 4294967296
def Fr (a b : Int) : Int := wrap64 (b - a)
theorem W_range (a b : Int) : 0 ≤ W a b ∧ W a b < 4294967296 := by unfold W; omega
theorem G_range (a b : Int) : -2147483648 ≤ G a b ∧ G a b < 2147483648 := by have := W_range a b; unfold G; split <;> omega
theorem P_range (a b : Int) : 0 ≤ P a b ∧ P a b < 4294967296 := by unfold P; omega
theorem Fr_range (a b : Int) : -9223372036854775808 ≤ Fr a b ∧ Fr a b < 9223372036854775808 := by unfold Fr wrap64; omega

theorem way32 (a b : Int) (w : World) :
    Calls Try.prog 41 #[.int .u32 a, .int .u32 b] w fun e w' => e = .returned (.int .u32 (W a b)) ∧ w = w' := by
  go_enter Try.func41, Try.ntmps41
  go_wp2
  go_ret
  exact ⟨rfl, rfl⟩

theorem way64 (a b : Int) (w : World) :
    Calls Try.prog 44 #[.int .u64 a, .int .u64 b] w fun e w' => e = .returned (.int .u64 (IntKind.u64.wrap (b - a))) ∧ w = w' := by
  go_enter Try.func44, Try.ntmps44
  go_wp2
  go_ret
  exact ⟨rfl, rfl⟩

theorem gap_eq (x : Int) : wrap64 (wrap32 (x % 4294967296)) = if x % 4294967296 < 2147483648 then x % 4294967296 else x % 4294967296 - 4294967296 := by
  unfold wrap64 wrap32; split <;> omega
theorem gap (a b : Int) (w : World) :
    Calls Try.prog 17 #[.int .u32 a, .int .u32 b] w fun e w' => e = .returned (.int .i64 (G a b)) ∧ w = w' := by
  go_enter Try.func17, Try.ntmps17
  go_wp2
  go_ret
  exact ⟨ret_int (gap_eq _), rfl⟩

theorem plus (a n : Int) (w : World) :
    Calls Try.prog 21 #[.int .u32 a, .int .i64 n] w fun e w' => e = .returned (.int .u32 (P a n)) ∧ w = w' := by
  go_enter Try.func21, Try.ntmps21
  go_wp2
  go_ret
  exact ⟨ret_int (by show (a + n % 4294967296) % 4294967296 = _; unfold P; omega), rfl⟩

theorem far (a b : Int) (w : World) :
    Calls Try.prog 25 #[.int .u64 a, .int .u64 b] w fun e w' => e = .returned (.int .i64 (Fr a b)) ∧ w = w' := by
  go_enter Try.func25, Try.ntmps25
  go_wp2
  go_ret
  exact ⟨ret_int (by show wrap64 (IntKind.u64.wrap (b - a)) = _; unfold Fr wrap64; rw [IntKind.wrap_u64]; omega), rfl⟩

theorem before (a b : Int) (w : World) :
    Calls Try.prog 15 #[.int .u32 a, .int .u32 b] w fun e w' => e = .returned (.bool (Bf a b)) ∧ w = w' := by
  by_cases h : (b - a) % 4294967296 = 0
  · go_enter Try.func15, Try.ntmps15
    go_wp2
    go_ret
    exact ⟨ret_bool (by show false = _; unfold Bf W; rw [h]; rfl), rfl⟩
  · go_enter Try.func15, Try.ntmps15
    go_wp2
    go_ret
    exact ⟨ret_bool (by show ((b - a) % 4294967296 != 0 && decide ((b - a) % 4294967296 < 2147483648)) = _; unfold Bf W; rw [Bool.eq_iff_iff]; simp; omega), rfl⟩

theorem inn (x fr n : Int) (w : World) :
    Calls Try.prog 19 #[.int .u32 x, .int .u32 fr, .int .i64 n] w fun e w' => e = .returned (.tuple #[.int .i64 (if W fr x < n then W fr x else 0), .bool (decide (W fr x < n))]) ∧ w = w' := by
  by_cases h : (x - fr) % 4294967296 < n
  · have h2 : W fr x < n := h
    rw [if_pos h2, decide_eq_true h2]
    clear h2
    go_enter Try.func19, Try.ntmps19
    go_wp2
    go_ret2
    exact ⟨rfl, rfl⟩
  · have h2 : ¬ W fr x < n := h
    rw [if_neg h2, decide_eq_false h2]
    clear h2
    go_enter Try.func19, Try.ntmps19
    go_wp2
    go_ret2
    exact ⟨rfl, rfl⟩
end Go.Proofs.Ytmjajepdlopkiaa.Sq
