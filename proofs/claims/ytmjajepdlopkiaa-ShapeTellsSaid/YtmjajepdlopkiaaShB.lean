/- bits.OnesCount64. -/
import Derived.Test.YtmjajepdlopkiaaShA
import Derived.Test.YtmjajepdlopkiaaShP
import Derived.Laws.BitsAllLaws
import Derived.Laws.Bits128
namespace Go.Proofs.Ytmjajepdlopkiaa.Sh
open Go.RowKit
set_option linter.unusedVariables false

theorem ret_int {k : IntKind} {a b : Int} (h : a = b) : Ending.returned (.int k a) = .returned (.int k b) := by rw [h]
theorem ret_bool {a b : Bool} (h : a = b) : Ending.returned (.bool a) = .returned (.bool b) := by rw [h]
theorem wrap_nat {n : Nat} (h : n < 18446744073709551616) : IntKind.u64.wrap (n : Int) = n := by rw [IntKind.wrap_u64]; omega
def s1 (x : Int) : Int := IntKind.u64.wrap (bits .and .u64 (x / 2) 6148914691236517205 + bits .and .u64 x 6148914691236517205)
def s2 (x : Int) : Int := IntKind.u64.wrap (bits .and .u64 (x / 4) 3689348814741910323 + bits .and .u64 x 3689348814741910323)
def s3 (x : Int) : Int := bits .and .u64 (IntKind.u64.wrap (x / 16 + x)) 1085102592571150095
def s4 (x : Int) : Int := IntKind.u64.wrap (x + x / 256)
def s5 (x : Int) : Int := IntKind.u64.wrap (x + x / 65536)
def s6 (x : Int) : Int := IntKind.u64.wrap (x + x / 4294967296)
theorem and_le (a b : Nat) : a &&& b ≤ b := Nat.and_le_right
theorem s1_nat (x : Nat) (h : x < 18446744073709551616) : s1 x = (n1 6148914691236517205 x : Nat) ∧ n1 6148914691236517205 x ≤ 12297829382473034410 := by
  have a1 := and_le (x / 2) 6148914691236517205
  have a2 := and_le x 6148914691236517205
  refine ⟨?_, by unfold n1; omega⟩
  unfold s1 n1
  have e1 := u64_and_nat (x / 2) 6148914691236517205 (by omega) (by omega)
  have e2 := u64_and_nat x 6148914691236517205 h (by omega)
  rw [show ((x / 2 : Nat) : Int) = (x : Int) / 2 from rfl, show ((6148914691236517205 : Nat) : Int) = 6148914691236517205 from rfl] at e1
  rw [show ((6148914691236517205 : Nat) : Int) = 6148914691236517205 from rfl] at e2
  rw [e1, e2, ← Int.natCast_add, wrap_nat (by omega)]
theorem s2_nat (x : Nat) (h : x < 18446744073709551616) : s2 x = (n2 3689348814741910323 x : Nat) ∧ n2 3689348814741910323 x ≤ 7378697629483820646 := by
  have a1 := and_le (x / 4) 3689348814741910323
  have a2 := and_le x 3689348814741910323
  refine ⟨?_, by unfold n2; omega⟩
  unfold s2 n2
  have e1 := u64_and_nat (x / 4) 3689348814741910323 (by omega) (by omega)
  have e2 := u64_and_nat x 3689348814741910323 h (by omega)
  rw [show ((x / 4 : Nat) : Int) = (x : Int) / 4 from rfl, show ((3689348814741910323 : Nat) : Int) = 3689348814741910323 from rfl] at e1
  rw [show ((3689348814741910323 : Nat) : Int) = 3689348814741910323 from rfl] at e2
  rw [e1, e2, ← Int.natCast_add, wrap_nat (by omega)]
theorem s3_nat (x : Nat) (h : x ≤ 7378697629483820646) : s3 x = (n3 1085102592571150095 x : Nat) ∧ n3 1085102592571150095 x ≤ 1085102592571150095 := by
  refine ⟨?_, by unfold n3; exact and_le _ _⟩
  unfold s3 n3
  have e1 := u64_and_nat (x / 16 + x) 1085102592571150095 (by omega) (by omega)
  rw [show ((1085102592571150095 : Nat) : Int) = 1085102592571150095 from rfl] at e1
  rw [show ((x : Int) / 16 + x) = ((x / 16 + x : Nat) : Int) by omega, wrap_nat (by omega), e1]
theorem s4_nat (x : Nat) (h : x ≤ 1085102592571150095) : s4 x = (n4 x : Nat) ∧ n4 x ≤ 2170205185142300190 := by
  unfold s4 n4
  refine ⟨?_, by omega⟩
  rw [show ((x : Int) + (x : Int) / 256) = ((x + x / 256 : Nat) : Int) by omega, wrap_nat (by omega)]
theorem s5_nat (x : Nat) (h : x ≤ 2170205185142300190) : s5 x = (n5 x : Nat) ∧ n5 x ≤ 4340410370284600380 := by
  unfold s5 n5
  refine ⟨?_, by omega⟩
  rw [show ((x : Int) + (x : Int) / 65536) = ((x + x / 65536 : Nat) : Int) by omega, wrap_nat (by omega)]
theorem s6_nat (x : Nat) (h : x ≤ 4340410370284600380) : s6 x = (n6 x : Nat) ∧ n6 x < 9223372036854775808 := by
  unfold s6 n6
  refine ⟨?_, by omega⟩
  rw [show ((x : Int) + (x : Int) / 4294967296) = ((x + x / 4294967296 : Nat) : Int) by omega, wrap_nat (by omega)]
theorem fin6 (z : Nat) (h : z < 9223372036854775808) : wrap64 (z : Int) % 128 = ((z % 128 : Nat) : Int) := by
  unfold wrap64; omega
set_option maxRecDepth 100000 in
theorem ones (p : Nat → Bool) (w : World) : Calls Try.prog 47 #[.int .u64 (num p 64 : Nat)] w fun e w' => e = .returned (.int .i64 (cnt p 64 : Nat)) ∧ w = w' := by
  have hx := num_lt p 64
  have hs := swar p
  generalize num p 64 = x at *
  have hx : x < 18446744073709551616 := hx
  obtain ⟨q1, b1⟩ := s1_nat x hx
  obtain ⟨q2, b2⟩ := s2_nat _ (show n1 6148914691236517205 x < 18446744073709551616 by omega)
  obtain ⟨q3, b3⟩ := s3_nat _ b2
  obtain ⟨q4, b4⟩ := s4_nat _ b3
  obtain ⟨q5, b5⟩ := s5_nat _ b4
  obtain ⟨q6, b6⟩ := s6_nat _ b5
  have key : bits .and .i64 (wrap64 (s6 (s5 (s4 (s3 (s2 (s1 x))))))) 127 = (cnt p 64 : Nat) := by
    rw [q1, q2, q3, q4, q5, q6]
    rw [i64_and127, ← hs]
    exact fin6 _ b6
  have K := Lib.hid key
  clear key q1 q2 q3 q4 q5 q6 b1 b2 b3 b4 b5 b6 hs
  go_enter Try.func47, Try.ntmps47
  go_wp2
  go_ret
  exact ⟨ret_int K.out, rfl⟩
end Go.Proofs.Ytmjajepdlopkiaa.Sh
