/- The walks of DsumKnown and DsumOne. -/
import Derived.Test.YtidpmlifodpjlaaDsB
namespace Go.Proofs.Ytidpmlifodpjlaa.Sm
open Go.RowKit
set_option linter.unusedVariables false

theorem wsum_append (l r : List UInt8) (h : l.length % 2 = 0) : wsum (l ++ r) = wsum l + wsum r := by
  match l with
  | [] => simp [wsum]
  | [a] => simp at h
  | a :: b :: l' =>
    have := wsum_append l' r (by simp at h; omega)
    simp only [List.cons_append, wsum, this]; omega
theorem wsum_be2 (n : Int) (h : 0 ≤ n ∧ n ≤ 65535) : wsum (be 2 n) = n := by
  simp only [be, List.nil_append, List.cons_append, wsum, byt_toNat]; omega
theorem allB_length (dsn ssn n told : Int) (t : List UInt8) : (allB dsn ssn n told t).length = 16 + t.length := by simp [allB, be_length]; omega
theorem wsum_allB (dsn ssn n told : Int) (t : List UInt8) (h : 0 ≤ told ∧ told ≤ 65535) : wsum (allB dsn ssn n told t) = wsum (allB dsn ssn n 0 t) + told := by
  unfold allB
  simp only [wsum_append _ _ (show (be 8 dsn).length % 2 = 0 by rw [be_length]), wsum_append _ _ (show (be 4 ssn).length % 2 = 0 by rw [be_length]), wsum_append _ _ (show (be 2 n).length % 2 = 0 by rw [be_length]), wsum_append (be 2 told) _ (by rw [be_length]), wsum_append (be 2 0) _ (by rw [be_length]), wsum_be2 told h, wsum_be2 0 (by omega)]
  omega
/-- When a sum that is told is right. -/
theorem right_iff (dsn ssn n told : Int) (t : List UInt8) (h : 0 ≤ told ∧ told ≤ 65535) (hl : t.length ≤ 10000000) :
    (Sm (allB dsn ssn n told t) == 65535) = true ↔ 0 < wsum (allB dsn ssn n 0 t) + told ∧ (wsum (allB dsn ssn n 0 t) + told) % 65535 = 0 := by
  rw [sm_fo _ (by rw [allB_length]; omega), wsum_allB _ _ _ _ _ h, beq_iff_eq]
  have := wsum_range (allB dsn ssn n 0 t)
  unfold Fo
  split <;> omega
theorem own_sum (dsn ssn n : Int) (t : List UInt8) (hl : t.length ≤ 10000000) : Sm (allB dsn ssn n 0 t) = Fo (wsum (allB dsn ssn n 0 t)) := sm_fo _ (by rw [allB_length]; omega)

set_option maxRecDepth 100000 in
set_option maxHeartbeats 1000000 in
theorem dsumKnown (w : World) : Calls Try.prog 12 #[] w fun e w' => e = .returned (.bool true) ∧ Gw w w' := by
  have s1 : Sm (allB 0 0 1 0 [97]) = 24833 := by decide
  have s2 : Sm (allB 0 0 65536 0 []) = 0 := by decide
  have s3 : Sm (allB 0 0 (-1) 0 []) = 65535 := by decide
  have s4 : Sm (allB 0 0 (-1) 65535 []) = 65535 := by decide
  have s5 : Sm (allB 18446744073709551615 4294967295 65535 0 []) = 65535 := by decide
  have s6 : Sm (allB 0 0 0 65535 []) = 65535 := by decide
  go_enter Try.func12, Try.ntmps12
  go_wp2_with (first | (go_at_call 31; refine (dworks _).mono ?_; rintro e w' ⟨rfl, hb⟩) | (go_at_call 28; refine (dof _ _ _ _ _ (by omega) (by omega) (by omega) (by decide)).mono ?_; rintro e w' ⟨rfl, hb⟩) | (go_at_call 29; refine (dright _ _ _ _ _ _ (by omega) (by omega) (by omega) (by omega) (by decide)).mono ?_; rintro e w' ⟨rfl, hb⟩))
  go_ret
  exact ⟨rfl, by (repeat (first | with_reducible exact Gw.refl _ | with_reducible assumption | with_reducible refine Gw.alloc ?_ _ | with_reducible refine Gw.drew ?_ | with_reducible refine Gw.trans ?_ (by with_reducible assumption)))⟩

set_option maxRecDepth 100000 in
set_option maxHeartbeats 4000000 in
theorem dsumOne (dsn ssn n other : Int) (text : ByteArray) (hd : 0 ≤ dsn ∧ dsn < 18446744073709551616) (hs : 0 ≤ ssn ∧ ssn < 4294967296) (hn : 0 ≤ n ∧ n ≤ 65535) (ho : 0 ≤ other ∧ other ≤ 65535) (hz : text.size ≤ 9223372036854775807) (w : World) :
    Calls Try.prog 10 #[.int .u64 dsn, .int .u32 ssn, .int .u16 n, .string text, .int .u16 other] w fun e w' => e = .returned (.bool true) ∧ Gw w w' := by
  have hcases : ∃ t : ByteArray, t.size ≤ 500 ∧ ((500 < (text.size : Int) ∧ text.extract 0 500 = t) ∨ (¬ 500 < (text.size : Int) ∧ t = text)) := by
    by_cases h : 500 < (text.size : Int)
    · exact ⟨_, by rw [ByteArray.size_extract]; omega, .inl ⟨h, rfl⟩⟩
    · exact ⟨_, by omega, .inr ⟨h, rfl⟩⟩
  obtain ⟨t, ht, hc⟩ := hcases
  have htl : t.data.toList.length ≤ 10000000 := by
    have : t.data.toList.length = t.size := by simp
    omega
  obtain ⟨s, hsv⟩ : ∃ s, 65535 - Sm (allB dsn ssn n 0 t.data.toList) = s := ⟨_, rfl⟩
  have hsr : 0 ≤ s ∧ s ≤ 65535 := by have := Sm_range (allB dsn ssn n 0 t.data.toList); omega
  have hr := wsum_range (allB dsn ssn n 0 t.data.toList)
  have hsv2 := hsv
  rw [own_sum _ _ _ _ htl] at hsv2
  have hA : (Sm (allB dsn ssn n s t.data.toList) == 65535) = true := by
    rw [right_iff _ _ _ _ _ hsr htl]
    unfold Fo at hsv2
    split at hsv2 <;> omega
  have hB : ((other == s) = true ∧ (Sm (allB dsn ssn n other t.data.toList) == 65535) = true) ∨
      ((other == s) = false ∧ (Sm (allB dsn ssn n other t.data.toList) == 65535) = true ∧ (other % 65535 == s % 65535) = true) ∨
      ((other == s) = false ∧ (Sm (allB dsn ssn n other t.data.toList) == 65535) = false ∧ (other % 65535 == s % 65535) = false) ∨
      ((other == s) = false ∧ (Sm (allB dsn ssn n other t.data.toList) == 65535) = false ∧ (other % 65535 == s % 65535) = true ∧ (s == 65535) = true) := by
    by_cases he : other = s
    · subst he; exact .inl ⟨by simp, hA⟩
    · have he' : (other == s) = false := by simp [he]
      by_cases hi : (Sm (allB dsn ssn n other t.data.toList) == 65535) = true
      · refine .inr (.inl ⟨he', hi, ?_⟩)
        rw [right_iff _ _ _ _ _ ho htl] at hi
        rw [beq_iff_eq]
        unfold Fo at hsv2
        split at hsv2 <;> omega
      · have hi' : (Sm (allB dsn ssn n other t.data.toList) == 65535) = false := by simpa using hi
        rw [right_iff _ _ _ _ _ ho htl] at hi
        by_cases hm : other % 65535 = s % 65535
        · refine .inr (.inr (.inr ⟨he', hi', by simp [hm], ?_⟩))
          rw [beq_iff_eq]
          unfold Fo at hsv2
          split at hsv2 <;> omega
        · exact .inr (.inr (.inl ⟨he', hi', by simp [hm]⟩))
  clear hsv2 htl hr
  rcases hc with ⟨hl, he⟩ | ⟨hl, rfl⟩
  all_goals
    rcases hB with ⟨h1, h2⟩ | ⟨h1, h2, h3⟩ | ⟨h1, h2, h3⟩ | ⟨h1, h2, h3, h4⟩
  all_goals
    have H4 : Hid ((other % 65535 == s % 65535) = true → (other == s) = false → (Sm (allB dsn ssn n other t.data.toList) == 65535) = false → (s == 65535) = true) := Lib.hid (by simp_all)
    go_enter Try.func10, Try.ntmps10
    go_wp2_with (first | (go_at_call 31; refine (dworks _).mono ?_; rintro e w' ⟨rfl, hb⟩) | (go_at_call 28; refine (dof _ _ _ _ _ (by omega) (by omega) (by omega) (by omega)).mono ?_; rintro e w' ⟨rfl, hb⟩) | (go_at_call 29; refine (dright _ _ _ _ _ _ (by omega) (by omega) (by omega) (by omega) (by omega)).mono ?_; rintro e w' ⟨rfl, hb⟩))
    all_goals first | (go_ret; exact ⟨rfl, by (repeat (first | with_reducible exact Gw.refl _ | with_reducible assumption | with_reducible refine Gw.alloc ?_ _ | with_reducible refine Gw.drew ?_ | with_reducible refine Gw.trans ?_ (by with_reducible assumption)))⟩) | (go_ret; refine ⟨?_, by (repeat (first | with_reducible exact Gw.refl _ | with_reducible assumption | with_reducible refine Gw.alloc ?_ _ | with_reducible refine Gw.drew ?_ | with_reducible refine Gw.trans ?_ (by with_reducible assumption)))⟩; show Ending.returned (.bool (s == 65535)) = _; rw [H4.out (by assumption) (by assumption) (by assumption)]) | (exfalso; simp only [beq_eq_false_iff_ne] at h3; exact absurd (by assumption) h3)
end Go.Proofs.Ytidpmlifodpjlaa.Sm
