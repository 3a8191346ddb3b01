/- Plain facts for DsumByte: what another byte of a number does to its words' sum. -/
import Derived.Test.YtidpmlifodpjlaaDsC
namespace Go.Proofs.Ytidpmlifodpjlaa.Sm
open Go.RowKit
set_option linter.unusedVariables false

theorem xor_delta (x b j : Nat) (h0 : b ≠ 0) (h1 : b < 256) : ∃ d : Int, ((x ^^^ (b * 2 ^ j) : Nat) : Int) = (x : Int) + d * ((2 ^ j : Nat) : Int) ∧ d ≠ 0 ∧ -255 ≤ d ∧ d ≤ 255 := by
  have e1 : (x ^^^ (b * 2 ^ j)) / 2 ^ j = (x / 2 ^ j) ^^^ b := by
    rw [Nat.xor_div_two_pow, Nat.mul_div_cancel _ (Nat.two_pow_pos j)]
  have e2 : (x ^^^ (b * 2 ^ j)) % 2 ^ j = x % 2 ^ j := by
    rw [Nat.xor_mod_two_pow, Nat.mul_mod_left, Nat.xor_zero]
  obtain ⟨y, hy⟩ : ∃ y, x / 2 ^ j = y := ⟨_, rfl⟩
  rw [hy] at e1
  have f1 : (y ^^^ b) / 2 ^ 8 = y / 2 ^ 8 := by rw [Nat.xor_div_two_pow, Nat.div_eq_of_lt (a := b) (by omega), Nat.xor_zero]
  have f2 : (y ^^^ b) % 2 ^ 8 = (y % 2 ^ 8) ^^^ b := by rw [Nat.xor_mod_two_pow, Nat.mod_eq_of_lt (a := b) (by omega)]
  have f3 : (y % 2 ^ 8) ^^^ b ≠ y % 2 ^ 8 := by
    intro h
    have := congrArg ((y % 2 ^ 8) ^^^ ·) h
    simp [← Nat.xor_assoc] at this
    exact h0 this
  have f4 : (y % 2 ^ 8) ^^^ b < 2 ^ 8 := Nat.xor_lt_two_pow (Nat.mod_lt _ (by omega)) (by omega)
  refine ⟨((y ^^^ b : Nat) : Int) - y, ?_, by omega, by omega, by omega⟩
  have g1 := Nat.div_add_mod (x ^^^ (b * 2 ^ j)) (2 ^ j)
  have g2 := Nat.div_add_mod x (2 ^ j)
  rw [e1, e2] at g1
  rw [hy] at g2
  rw [← g1]
  conv => rhs; rw [← g2]
  push_cast
  generalize (2 : Int) ^ j = p
  rw [Int.sub_mul, Int.mul_comm p, Int.mul_comm p]
  omega
theorem wsum_be4 (n : Int) (h : 0 ≤ n ∧ n < 4294967296) : wsum (be 4 n) % 65535 = n % 65535 := by
  simp only [be, List.nil_append, List.cons_append, wsum, byt_toNat]
  have : n / 256 / 256 / 256 % 256 * 256 + n / 256 / 256 % 256 + (n / 256 % 256 * 256 + n % 256 + 0) = n - 65535 * (n / 256 / 256) := by omega
  rw [this]; omega
theorem wsum_be8 (n : Int) (h : 0 ≤ n ∧ n < 18446744073709551616) : wsum (be 8 n) % 65535 = n % 65535 := by
  simp only [be, List.nil_append, List.cons_append, wsum, byt_toNat]
  have : n / 256 / 256 / 256 / 256 / 256 / 256 / 256 % 256 * 256 + n / 256 / 256 / 256 / 256 / 256 / 256 % 256 + (n / 256 / 256 / 256 / 256 / 256 % 256 * 256 + n / 256 / 256 / 256 / 256 % 256 + (n / 256 / 256 / 256 % 256 * 256 + n / 256 / 256 % 256 + (n / 256 % 256 * 256 + n % 256 + 0))) = n - 65535 * (n / 256 / 256 + n / 256 / 256 / 256 / 256 + n / 256 / 256 / 256 / 256 / 256 / 256) := by omega
  rw [this]; omega
theorem wsum_allB' (dsn ssn n : Int) (t : List UInt8) (hd : 0 ≤ dsn ∧ dsn < 18446744073709551616) (hs : 0 ≤ ssn ∧ ssn < 4294967296) (hn : 0 ≤ n ∧ n ≤ 65535) :
    wsum (allB dsn ssn n 0 t) % 65535 = (dsn + ssn + n + wsum t) % 65535 := by
  unfold allB
  simp only [wsum_append _ _ (show (be 8 dsn).length % 2 = 0 by rw [be_length]), wsum_append _ _ (show (be 4 ssn).length % 2 = 0 by rw [be_length]), wsum_append _ _ (show (be 2 n).length % 2 = 0 by rw [be_length]), wsum_append (be 2 0) _ (by rw [be_length]), wsum_be2 n hn, wsum_be2 0 (by omega)]
  have := wsum_be8 dsn hd; have := wsum_be4 ssn hs
  omega
/-- A sum that is right is not right of bytes whose words' sum is another one. -/
theorem wrong (dsn ssn n s dsn' ssn' n' : Int) (t t' : List UInt8) (hd : 0 ≤ dsn ∧ dsn < 18446744073709551616) (hs : 0 ≤ ssn ∧ ssn < 4294967296) (hn : 0 ≤ n ∧ n ≤ 65535)
    (hd' : 0 ≤ dsn' ∧ dsn' < 18446744073709551616) (hs' : 0 ≤ ssn' ∧ ssn' < 4294967296) (hn' : 0 ≤ n' ∧ n' ≤ 65535) (hl : t.length ≤ 10000000) (hl' : t'.length ≤ 10000000)
    (hsv : 65535 - Sm (allB dsn ssn n 0 t) = s) (hne : (dsn' + ssn' + n' + wsum t' - (dsn + ssn + n + wsum t)) % 65535 ≠ 0) :
    (Sm (allB dsn' ssn' n' s t') == 65535) = false := by
  have hsr : 0 ≤ s ∧ s ≤ 65535 := by have := Sm_range (allB dsn ssn n 0 t); omega
  rw [Bool.eq_false_iff]
  rw [ne_eq, right_iff _ _ _ _ _ hsr hl']
  rw [own_sum _ _ _ _ hl] at hsv
  have e1 := wsum_allB' dsn ssn n t hd hs hn
  have e2 := wsum_allB' dsn' ssn' n' t' hd' hs' hn'
  have e3 := wsum_range (allB dsn ssn n 0 t)
  unfold Fo at hsv
  rintro ⟨h1, h2⟩
  split at hsv <;> omega
end Go.Proofs.Ytidpmlifodpjlaa.Sm
