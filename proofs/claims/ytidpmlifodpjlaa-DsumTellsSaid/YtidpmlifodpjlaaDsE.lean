/- What the document sums (all, Of, Right). -/
import Derived.Test.YtidpmlifodpjlaaDsD
import Derived.Test.YtidpmlifodpjlaaSumH
namespace Go.Proofs.Ytidpmlifodpjlaa.Sm
open Go.RowKit
set_option linter.unusedVariables false

theorem be_mod2' (n : Int) : be 2 (n % 18446744073709551616) = be 2 n := by
  rw [← be_mod2 (n % 18446744073709551616), ← be_mod2 n]
  congr 1; omega
theorem be_size (k : Nat) (n : Int) : (⟨(be k n).toArray⟩ : ByteArray).size = k := by show Array.size _ = _; simp [be_length]

set_option maxRecDepth 100000 in
set_option maxHeartbeats 4000000 in
theorem rall (dsn ssn n told : Int) (t : ByteArray) (w : World) (hd : 0 ≤ dsn ∧ dsn < 18446744073709551616) (hs : 0 ≤ ssn ∧ ssn < 4294967296) (hn : -9223372036854775808 ≤ n ∧ n < 9223372036854775808) (ht : 0 ≤ told ∧ told ≤ 65535) (hz : t.size ≤ 1000) :
    Calls Try.prog 33 #[.int .u64 dsn, .int .u32 ssn, .int .i64 n, .string t, .int .u16 told] w fun e w' => ∃ s : ByteArray, e = .returned (.string s) ∧ s.data.toList = allB dsn ssn n told t.data.toList ∧ Gw w w' := by
  have hw := IntKind.wrap_u64 n
  have z1 := be_size 8 dsn
  have z2 := be_size 4 ssn
  have z3 := be_size 2 n
  have z3' := be_size 2 (n % 18446744073709551616)
  have z4 := be_size 2 told
  have hcat : ¬ 9223372036854775807 < 16 + t.size := by omega
  go_enter Try.func33, Try.ntmps33
  go_wp2_with (go_at_call 37; first | ((with_reducible refine (laid8 _ ?_ _).mono ?_); (· omega); rintro e w' ⟨rfl, hb⟩) | ((with_reducible refine (laid4 _ ?_ _).mono ?_); (· omega); rintro e w' ⟨rfl, hb⟩) | ((with_reducible refine (laid2 _ ?_ _).mono ?_); (· omega); rintro e w' ⟨rfl, hb⟩))
  go_ret
  refine ⟨_, rfl, ?_, by (repeat (first | with_reducible exact Gw.refl _ | with_reducible assumption | with_reducible refine Gw.alloc ?_ _ | with_reducible refine Gw.drew ?_ | with_reducible refine Gw.trans ?_ (by with_reducible assumption)))⟩
  simp only [be_mod2', allB, ByteArray.data_append, Array.toList_append, List.append_assoc]

theorem rdof (dsn ssn n : Int) (t : ByteArray) (w : World) (hd : 0 ≤ dsn ∧ dsn < 18446744073709551616) (hs : 0 ≤ ssn ∧ ssn < 4294967296) (hn : -9223372036854775808 ≤ n ∧ n < 9223372036854775808) (hz : t.size ≤ 1000) :
    Calls Try.prog 27 #[.int .u64 dsn, .int .u32 ssn, .int .i64 n, .string t] w fun e w' => e = .returned (.int .u16 (65535 - Sm (allB dsn ssn n 0 t.data.toList))) ∧ Gw w w' := by
  have hr := Sm_range (allB dsn ssn n 0 t.data.toList)
  have hlen : ∀ s : ByteArray, s.data.toList = allB dsn ssn n 0 t.data.toList → s.size ≤ 8000000000000000000 := by
    intro s h
    have : s.data.toList.length = 16 + t.data.toList.length := by rw [h]; simp [allB, be_length]; omega
    have e1 : s.data.toList.length = s.size := by simp
    have e2 : t.data.toList.length = t.size := by simp
    omega
  go_enter Try.func27, Try.ntmps27
  go_wp2_with (first | (go_at_call 33; refine (rall dsn ssn n 0 t _ hd hs hn (by omega) hz).mono ?_; rintro e w1 ⟨s, rfl, hsl, hb1⟩) | (go_at_call 14; refine (rof_calls _ _ (hlen _ hsl)).mono ?_; rw [hsl]; rintro e w2 ⟨rfl, hb2⟩) | (go_at_call 24; refine (rnot _ _ hr).mono ?_; rintro e w3 ⟨rfl, rfl⟩))
  go_ret
  exact ⟨rfl, by (repeat (first | with_reducible exact Gw.refl _ | with_reducible assumption | with_reducible refine Gw.alloc ?_ _ | with_reducible refine Gw.drew ?_ | with_reducible refine Gw.trans ?_ (by with_reducible assumption)))⟩

theorem rdright (dsn ssn n told : Int) (t : ByteArray) (w : World) (hd : 0 ≤ dsn ∧ dsn < 18446744073709551616) (hs : 0 ≤ ssn ∧ ssn < 4294967296) (hn : -9223372036854775808 ≤ n ∧ n < 9223372036854775808) (ht : 0 ≤ told ∧ told ≤ 65535) (hz : t.size ≤ 1000) :
    Calls Try.prog 30 #[.int .u64 dsn, .int .u32 ssn, .int .i64 n, .string t, .int .u16 told] w fun e w' => e = .returned (.bool (Sm (allB dsn ssn n told t.data.toList) == 65535)) ∧ Gw w w' := by
  have hlen : ∀ s : ByteArray, s.data.toList = allB dsn ssn n told t.data.toList → s.size ≤ 8000000000000000000 := by
    intro s h
    have : s.data.toList.length = 16 + t.data.toList.length := by rw [h]; simp [allB, be_length]; omega
    have e1 : s.data.toList.length = s.size := by simp
    have e2 : t.data.toList.length = t.size := by simp
    omega
  go_enter Try.func30, Try.ntmps30
  go_wp2_with (first | (go_at_call 33; refine (rall dsn ssn n told t _ hd hs hn ht hz).mono ?_; rintro e w1 ⟨s, rfl, hsl, hb1⟩) | (go_at_call 14; refine (rof_calls _ _ (hlen _ hsl)).mono ?_; rw [hsl]; rintro e w2 ⟨rfl, hb2⟩))
  go_ret
  exact ⟨rfl, by (repeat (first | with_reducible exact Gw.refl _ | with_reducible assumption | with_reducible refine Gw.alloc ?_ _ | with_reducible refine Gw.drew ?_ | with_reducible refine Gw.trans ?_ (by with_reducible assumption)))⟩
end Go.Proofs.Ytidpmlifodpjlaa.Sm
