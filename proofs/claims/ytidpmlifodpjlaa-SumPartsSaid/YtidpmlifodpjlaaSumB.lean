/- Contracts of Fold, Not, Same, Turn of package sum and of their twins in the document's answer (plaitref03). -/
import Derived.Test.YtidpmlifodpjlaaSumA
import Derived.Laws.BitsAllLaws
namespace Go.Proofs.Ytidpmlifodpjlaa.Sm
open Go.RowKit
set_option linter.unusedVariables false

theorem ret_int {k : IntKind} {a b : Int} (h : a = b) : Ending.returned (.int k a) = .returned (.int k b) := by rw [h]
theorem ret_bool {a b : Bool} (h : a = b) : Ending.returned (.bool a) = .returned (.bool b) := by rw [h]
/-- What a number folds to. -/
def Fo (n : Int) : Int := if n = 0 then 0 else (n - 1) % 65535 + 1
theorem Fo_range {n : Int} (h : 0 ≤ n) : 0 ≤ Fo n ∧ Fo n ≤ 65535 := by unfold Fo; split <;> omega
theorem Fo_small {n : Int} (h : 0 ≤ n) (h' : n ≤ 65535) : Fo n = n := by unfold Fo; split <;> omega
theorem Fo_step {n : Int} (h : 65535 < n) : Fo (n / 65536 + n % 65536) = Fo n := by
  unfold Fo; rw [if_neg (by omega), if_neg (by omega)]; omega

theorem and_mask (m : Int) (h : 0 ≤ m) (h' : m < 18446744073709551616) : bits .and .u64 m 65535 = m % 65536 := by
  rw [u64_and m 65535 h h' (by omega) (by omega)]
  have : m.toNat &&& (65535 : Int).toNat = m.toNat % 65536 := Nat.and_two_pow_sub_one_eq_mod m.toNat 16
  rw [this]; omega
theorem nat_not16 (a : Nat) (h : a < 65536) : 65535 ^^^ a = 65535 - a := by
  apply Nat.eq_of_testBit_eq
  intro i
  have e1 : (65535 : Nat) = 2 ^ 16 - 1 := rfl
  have e2 : 65535 - a = 2 ^ 16 - (a + 1) := by omega
  rw [Nat.testBit_xor, e2, Nat.testBit_two_pow_sub_succ (by omega), e1, Nat.testBit_two_pow_sub_one]
  by_cases hi : i < 16
  · simp [hi]
  · have : a.testBit i = false := Nat.testBit_lt_two_pow (Nat.lt_of_lt_of_le h (by exact Nat.pow_le_pow_right (n := 2) (by omega) (by omega : 16 ≤ i)))
    simp [hi, this]
theorem xor_max (a : Int) (h : 0 ≤ a) (h' : a ≤ 65535) : bits .xor .u16 IntKind.u16.max a = 65535 - a := by
  have : IntKind.u16.max = 65535 := by decide
  rw [this, u16_xor 65535 a (by omega) (by omega) h (by omega)]
  have e := nat_not16 a.toNat (by omega)
  have e' : (65535 : Int).toNat = 65535 := rfl
  rw [e', e]; omega
theorem or_join (h c : Int) (h0 : 0 ≤ h) (h1 : h < 256) (c0 : 0 ≤ c) (c1 : c < 256) : bits .or .u16 (h * 256) c = h * 256 + c := by
  rw [u16_or (h * 256) c (by omega) (by omega) c0 (by omega), nat_join 8 (h * 256).toNat c.toNat (by omega) (by omega)]
  omega

set_option maxHeartbeats 1000000 in
theorem fold (n : Int) (w : World) (hn : 0 ≤ n ∧ n < 18446744073709551616) :
    Calls Try.prog 19 #[.int .u64 n] w fun e w' => e = .returned (.int .u16 (Fo n)) ∧ w = w' := by
  go_enter Try.func19, Try.ntmps19
  go_wp2
  go_loop [0] (fun v => ∃ m : Int, 0 ≤ m ∧ m < 18446744073709551616 ∧ v = .int .u64 m ∧ Fo m = Fo n) (fun v => (intOf v).toNat)
  case atStart => exact ⟨n, hn.1, hn.2, rfl, rfl⟩
  case round =>
    obtain ⟨m, hm, hm2, rfl, hf⟩ := hrel
    have Hf := Lib.hid hf
    clear hf
    by_cases h : 65535 < m
    · go_wp2
      have e1 : IntKind.u64.wrap (m / 65536 + bits .and .u64 m 65535) = m / 65536 + m % 65536 := by
        rw [and_mask m hm hm2, IntKind.wrap_u64]; omega
      rw [e1]
      go_round
      case rel => exact ⟨m / 65536 + m % 65536, by omega, by omega, rfl, by rw [Fo_step h]; exact Hf.out⟩
      case measure => simp [intOf]; omega
    · go_wp2
      go_ret
      refine ⟨ret_int ?_, rfl⟩
      rw [← Hf.out, Fo_small hm (by omega)]

theorem not_ (a : Int) (w : World) (ha : 0 ≤ a ∧ a ≤ 65535) :
    Calls Try.prog 23 #[.int .u16 a] w fun e w' => e = .returned (.int .u16 (65535 - a)) ∧ w = w' := by
  have hs : IntKind.u16.signed = false := rfl
  go_enter Try.func23, Try.ntmps23
  go_wp2
  go_ret
  exact ⟨ret_int (xor_max a ha.1 ha.2), rfl⟩

theorem same (a b : Int) (w : World) (ha : 0 ≤ a ∧ a ≤ 65535) (hb : 0 ≤ b ∧ b ≤ 65535) :
    Calls Try.prog 21 #[.int .u16 a, .int .u16 b] w fun e w' => e = .returned (.bool (a % 65535 == b % 65535)) ∧ w = w' := by
  go_enter Try.func21, Try.ntmps21
  go_wp2
  go_ret
  exact ⟨rfl, rfl⟩

/-- A sum of which one word is another one. -/
def Tn (s was is : Int) : Int := Fo (s + (65535 - was) + is)
theorem turn (s was is : Int) (w : World) (hs : 0 ≤ s ∧ s ≤ 65535) (hw : 0 ≤ was ∧ was ≤ 65535) (hi : 0 ≤ is ∧ is ≤ 65535) :
    Calls Try.prog 25 #[.int .u16 s, .int .u16 was, .int .u16 is] w fun e w' => e = .returned (.int .u16 (Tn s was is)) ∧ w = w' := by
  go_enter Try.func25, Try.ntmps25
  go_wp2_with (first | (go_at_call 23; refine (not_ _ _ (by omega)).mono ?_; rintro e w' ⟨rfl, rfl⟩) | (go_at_call 19; refine (fold _ _ (by omega)).mono ?_; rintro e w' ⟨rfl, rfl⟩))
  go_ret
  exact ⟨rfl, rfl⟩

theorem rfold (n : Int) (w : World) (hn : 0 ≤ n ∧ n < 18446744073709551616) :
    Calls Try.prog 20 #[.int .u64 n] w fun e w' => e = .returned (.int .u16 (Fo n)) ∧ w = w' := by
  by_cases h : n = 0
  · subst h
    go_enter Try.func20, Try.ntmps20
    go_wp2
    go_ret
    exact ⟨rfl, rfl⟩
  · go_enter Try.func20, Try.ntmps20
    go_wp2
    go_ret
    refine ⟨ret_int ?_, rfl⟩
    unfold Fo; rw [if_neg h]

theorem rnot (a : Int) (w : World) (ha : 0 ≤ a ∧ a ≤ 65535) :
    Calls Try.prog 24 #[.int .u16 a] w fun e w' => e = .returned (.int .u16 (65535 - a)) ∧ w = w' := by
  go_enter Try.func24, Try.ntmps24
  go_wp2
  go_ret
  refine ⟨ret_int ?_, rfl⟩
  show _ = _; first | rfl | omega | (simp only [IntKind.wrap_u16]; omega)

theorem rsame (a b : Int) (w : World) (ha : 0 ≤ a ∧ a ≤ 65535) (hb : 0 ≤ b ∧ b ≤ 65535) :
    Calls Try.prog 22 #[.int .u16 a, .int .u16 b] w fun e w' => e = .returned (.bool (a % 65535 == b % 65535)) ∧ w = w' := by
  go_enter Try.func22, Try.ntmps22
  go_wp2
  go_ret
  exact ⟨rfl, rfl⟩

theorem rturn (s was is : Int) (w : World) (hs : 0 ≤ s ∧ s ≤ 65535) (hw : 0 ≤ was ∧ was ≤ 65535) (hi : 0 ≤ is ∧ is ≤ 65535) :
    Calls Try.prog 26 #[.int .u16 s, .int .u16 was, .int .u16 is] w fun e w' => e = .returned (.int .u16 (Tn s was is)) ∧ w = w' := by
  go_enter Try.func26, Try.ntmps26
  go_wp2_with (first | (go_at_call 20; refine (rfold _ _ (by omega)).mono ?_; rintro e w' ⟨rfl, rfl⟩))
  go_ret
  exact ⟨rfl, rfl⟩
end Go.Proofs.Ytidpmlifodpjlaa.Sm
