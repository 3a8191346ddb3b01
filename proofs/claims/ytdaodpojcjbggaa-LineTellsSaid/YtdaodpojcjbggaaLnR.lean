/- Both lines, whatever is asked of them: one law for each operation. -/
import Derived.Test.YtdaodpojcjbggaaLnQ
namespace Go.Proofs.Ytdaodpojcjbggaa.Ln
open Go.RowKit
set_option linter.unusedVariables false
set_option linter.unusedSimpArgs false

theorem then_refl {w : World} {X A C B D a b} (L : LineAt w X A C B D a b) : Then w X A B a b w := ⟨A, C, B, D, L, Fr.refl _ _, fun k hk => .inl hk⟩
def putC (to : Int) : Int := if to = 0 ∨ to = 1 then 0 else 2
def turnL (l : List ByteArray) (i m : Int) (ys : List ByteArray) : List ByteArray := if 1 ≤ m ∧ m ≤ 2 ∧ 0 ≤ i ∧ i + m ≤ l.length then l.take i.toNat ++ ys ++ l.drop (i.toNat + m.toNat) else l
def turnC (to i m : Int) (n : Nat) : Int := if to = 0 ∨ to = 1 then (if 1 ≤ m ∧ m ≤ 2 then (if 0 ≤ i ∧ i + m ≤ n then 0 else 8) else 2) else 2
def onA (to : Int) (a a' : List ByteArray) : List ByteArray := if to = 0 then a' else a
def onB (to : Int) (b b' : List ByteArray) : List ByteArray := if to = 1 then b' else b
theorem turnL_in {l : List ByteArray} {i m : Nat} {ys : List ByteArray} (hm : 1 ≤ m ∧ m ≤ 2) (hi : i + m ≤ l.length) : turnL l i m ys = l.take i ++ ys ++ l.drop (i + m) := by
  unfold turnL; rw [if_pos (by omega)]; simp
theorem turnL_out {l : List ByteArray} {i m : Int} {ys : List ByteArray} (h : ¬ (1 ≤ m ∧ m ≤ 2 ∧ 0 ≤ i ∧ i + m ≤ l.length)) : turnL l i m ys = l := by unfold turnL; rw [if_neg h]
theorem put_any {w : World} {X A C B D a b} (L : LineAt w X A C B D a b) (to : Int) (s : ByteArray) (hs : s.size ≤ 9223372036854775807) (hla : a.length < 1000000) (hlb : b.length < 1000000) :
    Calls Try.prog 15 #[.pointer (some ⟨X, 0, none⟩), .int .i64 to, .string s] w fun e w' => e = .returned (.int .i64 (putC to)) ∧ Then w X A B (onA to a (a ++ [s])) (onB to b (b ++ [s])) w' := by
  rcases to_cases to with rfl | rfl | h
  · exact put0 L s hs hla
  · exact put1 L s hs hlb
  · have e1 : putC to = 2 := by unfold putC; rw [if_neg (by omega)]
    have e2 : onA to a (a ++ [s]) = a := by unfold onA; rw [if_neg (by omega)]
    have e3 : onB to b (b ++ [s]) = b := by unfold onB; rw [if_neg (by omega)]
    rw [e1, e2, e3]
    exact (putBad X to h s w).mono fun e w' ⟨he, hw⟩ => ⟨he, hw ▸ then_refl L⟩
theorem rput_any {w : World} {X A C B D a b} (L : LineAt w X A C B D a b) (to : Int) (s : ByteArray) (hs : s.size ≤ 9223372036854775807) (hla : a.length < 1000000) (hlb : b.length < 1000000) :
    Calls Try.prog 16 #[.pointer (some ⟨X, 0, none⟩), .int .i64 to, .string s] w fun e w' => e = .returned (.int .i64 (putC to)) ∧ Then w X A B (onA to a (a ++ [s])) (onB to b (b ++ [s])) w' := by
  rcases to_cases to with rfl | rfl | h
  · exact rput0 L s hs hla
  · exact rput1 L s hs hlb
  · have e1 : putC to = 2 := by unfold putC; rw [if_neg (by omega)]
    have e2 : onA to a (a ++ [s]) = a := by unfold onA; rw [if_neg (by omega)]
    have e3 : onB to b (b ++ [s]) = b := by unfold onB; rw [if_neg (by omega)]
    rw [e1, e2, e3]
    exact (rputBad X to h s w).mono fun e w' ⟨he, hw⟩ => ⟨he, hw ▸ then_refl L⟩
theorem rturnBad (X : Nat) (to i m : Int) (h : (to < 0 ∨ 2 ≤ to) ∨ m < 1 ∨ 2 < m) (S : Option Addr) (n c : Nat) (w : World) :
    Calls Try.prog 20 #[.pointer (some ⟨X, 0, none⟩), .int .i64 to, .int .i64 i, .int .i64 m, .slice S n c] w fun e w' => e = .returned (.int .i64 2) ∧ w = w' := by
  by_cases hb : to < 0 ∨ 2 ≤ to
  · have H := Lib.hid hb
    clear h hb
    go_enter Try.func20, Try.ntmps20
    go_wp2_with (go_at_call 42; refine (endBad _ H.out _).mono ?_; rintro e w' ⟨rfl, rfl⟩)
    go_ret
    exact ⟨rfl, rfl⟩
  · have hto : to = 0 ∨ to = 1 := by omega
    have H := Lib.hid hto
    have hm : m < 1 ∨ 2 < m := by omega
    clear h hb hto
    by_cases h1 : m < 1
    · clear hm
      go_enter Try.func20, Try.ntmps20
      go_wp2_with (go_at_call 42; refine (endOk _ H.out _).mono ?_; rintro e w' ⟨rfl, rfl⟩)
      go_ret
      exact ⟨rfl, rfl⟩
    · have h2 : 2 < m := by omega
      clear hm
      go_enter Try.func20, Try.ntmps20
      go_wp2_with (go_at_call 42; refine (endOk _ H.out _).mono ?_; rintro e w' ⟨rfl, rfl⟩)
      go_ret
      exact ⟨rfl, rfl⟩
theorem rturnNone0 {w : World} {X A C B D a b} (L : LineAt w X A C B D a b) (i m : Int) (hm : 1 ≤ m ∧ m ≤ 2) (hi : i < 0 ∨ (a.length : Int) - m < i) (S : Option Addr) (n c : Nat) :
    Calls Try.prog 20 #[.pointer (some ⟨X, 0, none⟩), .int .i64 0, .int .i64 i, .int .i64 m, .slice S n c] w fun e w' => e = .returned (.int .i64 8) ∧ w = w' := by
  have hz1 : ¬ m < 1 := by omega
  have hz2 : ¬ 2 < m := by omega
  have c0 := L.c0
  have hl := L.ra.len
  clear L
  obtain ⟨u, hu⟩ : ∃ u, a.length = u := ⟨_, rfl⟩
  rw [hu] at hi c0 hl
  clear hu
  by_cases h0 : i < 0
  · clear hi
    go_enter Try.func20, Try.ntmps20
    go_wp2_with (go_at_call 42; refine (endOk _ (by omega) _).mono ?_; rintro e w' ⟨rfl, rfl⟩)
    go_ret
    exact ⟨rfl, rfl⟩
  · by_cases h1 : (u : Int) ≤ i
    · clear hi
      go_enter Try.func20, Try.ntmps20
      go_wp2_with (go_at_call 42; refine (endOk _ (by omega) _).mono ?_; rintro e w' ⟨rfl, rfl⟩)
      go_ret
      exact ⟨rfl, rfl⟩
    · have h2 : (u : Int) - i < m := by omega
      have h3 : IntKind.i64.wrap ((u : Int) - i) = (u : Int) - i := IntWalk.i64_in _ (by omega)
      clear hi
      go_enter Try.func20, Try.ntmps20
      go_wp2_with (go_at_call 42; refine (endOk _ (by omega) _).mono ?_; rintro e w' ⟨rfl, rfl⟩)
      go_ret
      exact ⟨rfl, rfl⟩
theorem rturnNone1 {w : World} {X A C B D a b} (L : LineAt w X A C B D a b) (i m : Int) (hm : 1 ≤ m ∧ m ≤ 2) (hi : i < 0 ∨ (b.length : Int) - m < i) (S : Option Addr) (n c : Nat) :
    Calls Try.prog 20 #[.pointer (some ⟨X, 0, none⟩), .int .i64 1, .int .i64 i, .int .i64 m, .slice S n c] w fun e w' => e = .returned (.int .i64 8) ∧ w = w' := by
  have hz1 : ¬ m < 1 := by omega
  have hz2 : ¬ 2 < m := by omega
  have c0 := L.c1
  have hl := L.rb.len
  clear L
  obtain ⟨u, hu⟩ : ∃ u, b.length = u := ⟨_, rfl⟩
  rw [hu] at hi c0 hl
  clear hu
  by_cases h0 : i < 0
  · clear hi
    go_enter Try.func20, Try.ntmps20
    go_wp2_with (go_at_call 42; refine (endOk _ (by omega) _).mono ?_; rintro e w' ⟨rfl, rfl⟩)
    go_ret
    exact ⟨rfl, rfl⟩
  · by_cases h1 : (u : Int) ≤ i
    · clear hi
      go_enter Try.func20, Try.ntmps20
      go_wp2_with (go_at_call 42; refine (endOk _ (by omega) _).mono ?_; rintro e w' ⟨rfl, rfl⟩)
      go_ret
      exact ⟨rfl, rfl⟩
    · have h2 : (u : Int) - i < m := by omega
      have h3 : IntKind.i64.wrap ((u : Int) - i) = (u : Int) - i := IntWalk.i64_in _ (by omega)
      clear hi
      go_enter Try.func20, Try.ntmps20
      go_wp2_with (go_at_call 42; refine (endOk _ (by omega) _).mono ?_; rintro e w' ⟨rfl, rfl⟩)
      go_ret
      exact ⟨rfl, rfl⟩
theorem turn_any {w : World} {X A C B D a b} (L : LineAt w X A C B D a b) (to i m : Int) (ha : a.length ≤ 900000) (hb : b.length ≤ 900000) (S : Option Addr) (n c : Nat) (ys : List ByteArray) (hys : n ≤ 90000) (hsrc : Strs w S n ys) (hS : S = none → ys = []) :
    Calls Try.prog 19 #[.pointer (some ⟨X, 0, none⟩), .int .i64 to, .int .i64 i, .int .i64 m, .slice S n c] w fun e w' => e = .returned (.int .i64 (turnC to i m (selB to a b).length)) ∧ Then w X A B (onA to a (turnL a i m ys)) (onB to b (turnL b i m ys)) w' := by
  obtain rfl := hsrc.1
  have hs : ∀ W, Gw w W → Src Try.prog 1 26 (.slice S ys.length c) ys.length (ys.map Value.string) W := fun W hW => src_strs (hsrc.gw hW) hS
  by_cases hto : to = 0 ∨ to = 1
  · by_cases hm : 1 ≤ m ∧ m ≤ 2
    · obtain ⟨m', rfl⟩ := Int.eq_ofNat_of_zero_le (a := m) (by omega)
      rcases hto with rfl | rfl
      · rw [show selB 0 a b = a from rfl, show onA 0 a (turnL a i m' ys) = turnL a i m' ys from rfl, show onB 0 b (turnL b i m' ys) = b from rfl]
        by_cases hi : 0 ≤ i ∧ i + m' ≤ a.length
        · obtain ⟨i', rfl⟩ := Int.eq_ofNat_of_zero_le (a := i) (by omega)
          rw [turnL_in (by omega) (by omega), show turnC 0 i' m' a.length = 0 from by unfold turnC; rw [if_pos (.inl rfl), if_pos hm, if_pos hi]]
          exact turn0 L i' m' (by omega) (by omega) ha S c ys hys hsrc.2.2.1 hs
        · rw [turnL_out (by omega), show turnC 0 i m' a.length = 8 from by unfold turnC; rw [if_pos (.inl rfl), if_pos hm, if_neg hi]]
          exact (turnNone0 L i m' hm (by omega) S _ c).mono fun e w' ⟨he, hw⟩ => ⟨he, hw ▸ then_refl L⟩
      · rw [show selB 1 a b = b from rfl, show onB 1 b (turnL b i m' ys) = turnL b i m' ys from rfl, show onA 1 a (turnL a i m' ys) = a from rfl]
        by_cases hi : 0 ≤ i ∧ i + m' ≤ b.length
        · obtain ⟨i', rfl⟩ := Int.eq_ofNat_of_zero_le (a := i) (by omega)
          rw [turnL_in (by omega) (by omega), show turnC 1 i' m' b.length = 0 from by unfold turnC; rw [if_pos (.inr rfl), if_pos hm, if_pos hi]]
          exact turn1 L i' m' (by omega) (by omega) hb S c ys hys hsrc.2.2.1 hs
        · rw [turnL_out (by omega), show turnC 1 i m' b.length = 8 from by unfold turnC; rw [if_pos (.inr rfl), if_pos hm, if_neg hi]]
          exact (turnNone1 L i m' hm (by omega) S _ c).mono fun e w' ⟨he, hw⟩ => ⟨he, hw ▸ then_refl L⟩
    · rw [turnL_out (l := a) (by omega), turnL_out (l := b) (by omega), show turnC to i m (selB to a b).length = 2 from by unfold turnC; rw [if_pos hto, if_neg hm]]
      rw [show onA to a a = a from by unfold onA; split <;> rfl, show onB to b b = b from by unfold onB; split <;> rfl]
      rcases hto with rfl | rfl
      · exact (turnArg0 L i m (by omega) S _ c).mono fun e w' ⟨he, hw⟩ => ⟨he, hw ▸ then_refl L⟩
      · exact (turnArg1 L i m (by omega) S _ c).mono fun e w' ⟨he, hw⟩ => ⟨he, hw ▸ then_refl L⟩
  · rw [show turnC to i m (selB to a b).length = 2 from by unfold turnC; rw [if_neg hto], show onA to a (turnL a i m ys) = a from by unfold onA; rw [if_neg (by omega)], show onB to b (turnL b i m ys) = b from by unfold onB; rw [if_neg (by omega)]]
    exact (turnBad X to (by omega) i m S _ c w).mono fun e w' ⟨he, hw⟩ => ⟨he, hw ▸ then_refl L⟩
theorem rturn_any {w : World} {X A C B D a b} (L : LineAt w X A C B D a b) (to i m : Int) (ha : a.length ≤ 900000) (hb : b.length ≤ 900000) (S : Option Addr) (n c : Nat) (ys : List ByteArray) (hys : n ≤ 90000) (hsrc : Strs w S n ys) (hS : S = none → ys = []) :
    Calls Try.prog 20 #[.pointer (some ⟨X, 0, none⟩), .int .i64 to, .int .i64 i, .int .i64 m, .slice S n c] w fun e w' => e = .returned (.int .i64 (turnC to i m (selB to a b).length)) ∧ Then w X A B (onA to a (turnL a i m ys)) (onB to b (turnL b i m ys)) w' := by
  obtain rfl := hsrc.1
  have hs : ∀ W, Gw w W → Src Try.prog 1 26 (.slice S ys.length c) ys.length (ys.map Value.string) W := fun W hW => src_strs (hsrc.gw hW) hS
  by_cases hto : to = 0 ∨ to = 1
  · by_cases hm : 1 ≤ m ∧ m ≤ 2
    · obtain ⟨m', rfl⟩ := Int.eq_ofNat_of_zero_le (a := m) (by omega)
      rcases hto with rfl | rfl
      · rw [show selB 0 a b = a from rfl, show onA 0 a (turnL a i m' ys) = turnL a i m' ys from rfl, show onB 0 b (turnL b i m' ys) = b from rfl]
        by_cases hi : 0 ≤ i ∧ i + m' ≤ a.length
        · obtain ⟨i', rfl⟩ := Int.eq_ofNat_of_zero_le (a := i) (by omega)
          rw [turnL_in (by omega) (by omega), show turnC 0 i' m' a.length = 0 from by unfold turnC; rw [if_pos (.inl rfl), if_pos hm, if_pos hi]]
          exact rturn0 L i' m' (by omega) (by omega) ha S c ys hys hsrc.2.2.1 hs
        · rw [turnL_out (by omega), show turnC 0 i m' a.length = 8 from by unfold turnC; rw [if_pos (.inl rfl), if_pos hm, if_neg hi]]
          exact (rturnNone0 L i m' hm (by omega) S _ c).mono fun e w' ⟨he, hw⟩ => ⟨he, hw ▸ then_refl L⟩
      · rw [show selB 1 a b = b from rfl, show onB 1 b (turnL b i m' ys) = turnL b i m' ys from rfl, show onA 1 a (turnL a i m' ys) = a from rfl]
        by_cases hi : 0 ≤ i ∧ i + m' ≤ b.length
        · obtain ⟨i', rfl⟩ := Int.eq_ofNat_of_zero_le (a := i) (by omega)
          rw [turnL_in (by omega) (by omega), show turnC 1 i' m' b.length = 0 from by unfold turnC; rw [if_pos (.inr rfl), if_pos hm, if_pos hi]]
          exact rturn1 L i' m' (by omega) (by omega) hb S c ys hys hsrc.2.2.1 hs
        · rw [turnL_out (by omega), show turnC 1 i m' b.length = 8 from by unfold turnC; rw [if_pos (.inr rfl), if_pos hm, if_neg hi]]
          exact (rturnNone1 L i m' hm (by omega) S _ c).mono fun e w' ⟨he, hw⟩ => ⟨he, hw ▸ then_refl L⟩
    · rw [turnL_out (l := a) (by omega), turnL_out (l := b) (by omega), show turnC to i m (selB to a b).length = 2 from by unfold turnC; rw [if_pos hto, if_neg hm]]
      rw [show onA to a a = a from by unfold onA; split <;> rfl, show onB to b b = b from by unfold onB; split <;> rfl]
      exact (rturnBad X to i m (by omega) S _ c w).mono fun e w' ⟨he, hw⟩ => ⟨he, hw ▸ then_refl L⟩
  · rw [show turnC to i m (selB to a b).length = 2 from by unfold turnC; rw [if_neg hto], show onA to a (turnL a i m ys) = a from by unfold onA; rw [if_neg (by omega)], show onB to b (turnL b i m ys) = b from by unfold onB; rw [if_neg (by omega)]]
    exact (rturnBad X to i m (by omega) S _ c w).mono fun e w' ⟨he, hw⟩ => ⟨he, hw ▸ then_refl L⟩

def takeC (to : Int) (is : Bool) : Int := if to = 0 ∨ to = 1 then (if is then 0 else 8) else 2
theorem atS_no (l : List ByteArray) {i : Int} (h : ¬ (0 ≤ i ∧ i < l.length)) : atS l i = (⟨#[]⟩, false) := by unfold atS; rw [if_neg h]
theorem take_any {w : World} {X A C B D a b} (L : LineAt w X A C B D a b) (to i : Int) (hr : -9223372036854775808 ≤ i ∧ i < 9223372036854775808) (ha : a.length ≤ 900000) (hb : b.length ≤ 900000) :
    Calls Try.prog 17 #[.pointer (some ⟨X, 0, none⟩), .int .i64 to, .int .i64 i] w fun e w' => e = .returned (.tuple #[.string (atS (selB to a b) i).1, .int .i64 (takeC to (atS (selB to a b) i).2)]) ∧ Then w X A B (onA to a (turnL a i 1 [])) (onB to b (turnL b i 1 [])) w' := by
  rcases to_cases to with rfl | rfl | h
  · rw [show selB 0 a b = a from rfl, show onA 0 a (turnL a i 1 []) = turnL a i 1 [] from rfl, show onB 0 b (turnL b i 1 []) = b from rfl]
    by_cases hi : 0 ≤ i ∧ i < a.length
    · obtain ⟨i', rfl⟩ := Int.eq_ofNat_of_zero_le (a := i) (by omega)
      have h1 : i' < a.length := by omega
      have := turnL_in (l := a) (i := i') (m := 1) (ys := []) (by omega) (by omega)
      rw [atS_in a h1, show turnL a i' 1 [] = a.take i' ++ a.drop (i' + 1) from by simpa using this]
      exact take0 L i' h1 ha
    · rw [atS_no a hi, turnL_out (by omega)]
      exact (takeNone0 L i hr (by omega)).mono fun e w' ⟨he, hw⟩ => ⟨he, hw ▸ then_refl L⟩
  · rw [show selB 1 a b = b from rfl, show onB 1 b (turnL b i 1 []) = turnL b i 1 [] from rfl, show onA 1 a (turnL a i 1 []) = a from rfl]
    by_cases hi : 0 ≤ i ∧ i < b.length
    · obtain ⟨i', rfl⟩ := Int.eq_ofNat_of_zero_le (a := i) (by omega)
      have h1 : i' < b.length := by omega
      have := turnL_in (l := b) (i := i') (m := 1) (ys := []) (by omega) (by omega)
      rw [atS_in b h1, show turnL b i' 1 [] = b.take i' ++ b.drop (i' + 1) from by simpa using this]
      exact take1 L i' h1 hb
    · rw [atS_no b hi, turnL_out (by omega)]
      exact (takeNone1 L i hr (by omega)).mono fun e w' ⟨he, hw⟩ => ⟨he, hw ▸ then_refl L⟩
  · rw [selB_bad h, show atS [] i = (⟨#[]⟩, false) from atS_no _ (by simp), show takeC to false = 2 from by unfold takeC; rw [if_neg (by omega)], show onA to a (turnL a i 1 []) = a from by unfold onA; rw [if_neg (by omega)], show onB to b (turnL b i 1 []) = b from by unfold onB; rw [if_neg (by omega)]]
    exact (takeBad X to h i w).mono fun e w' ⟨he, hw⟩ => ⟨he, hw ▸ then_refl L⟩
set_option maxRecDepth 10000 in
theorem rtake_any {w : World} {X A C B D a b} (L : LineAt w X A C B D a b) (to i : Int) (hr : -9223372036854775808 ≤ i ∧ i < 9223372036854775808) (ha : a.length ≤ 900000) (hb : b.length ≤ 900000) :
    Calls Try.prog 18 #[.pointer (some ⟨X, 0, none⟩), .int .i64 to, .int .i64 i] w fun e w' => e = .returned (.tuple #[.string (atS (selB to a b) i).1, .int .i64 (takeC to (atS (selB to a b) i).2)]) ∧ Then w X A B (onA to a (turnL a i 1 [])) (onB to b (turnL b i 1 [])) w' := by
  have HL := Lib.hid L
  have h1 := Lib.hid (rturn_any L to i 1 ha hb none 0 0 [] (by omega) (strs_nil _) (fun _ => rfl))
  clear L
  by_cases hto : to = 0 ∨ to = 1
  · have H := Lib.hid hto
    cases hb2 : (atS (selB to a b) i).2 with
    | false =>
      have HC := Lib.hid (rat_any HL.out to i hr)
      have hno : ¬ (0 ≤ i ∧ i < (selB to a b).length) := by
        intro h
        unfold atS at hb2
        rw [if_pos h] at hb2; cases hb2
      have e1 : atS (selB to a b) i = (⟨#[]⟩, false) := atS_no _ hno
      rw [e1] at HC ⊢
      have e2 : onA to a (turnL a i 1 []) = a := by
        unfold onA; split
        · rename_i h; subst h; exact turnL_out (by rw [selB0] at hno; omega)
        · rfl
      have e3 : onB to b (turnL b i 1 []) = b := by
        unfold onB; split
        · rename_i h; subst h; exact turnL_out (by rw [selB1] at hno; omega)
        · rfl
      rw [e2, e3, show takeC to false = 8 from by unfold takeC; rw [if_pos hto]; rfl]
      have HT := Lib.hid (then_refl HL.out)
      clear e1 e2 e3 hno hb2 hto h1
      go_enter Try.func18, Try.ntmps18
      go_wp2_with (first | (go_at_call 42; refine (endOk _ H.out _).mono ?_; rintro e w' ⟨rfl, rfl⟩) | (go_at_call 40; refine HC.out.mono ?_; rintro e w' ⟨rfl, rfl⟩))
      go_ret2
      exact ⟨rfl, HT.out⟩
    | true =>
      have HC := Lib.hid (rat_any HL.out to i hr)
      have hyes : 0 ≤ i ∧ i < (selB to a b).length := by
        unfold atS at hb2
        split at hb2
        · assumption
        · cases hb2
      have e1 : turnC to i 1 (selB to a b).length = 0 := by unfold turnC; rw [if_pos hto, if_pos (by omega), if_pos (by omega)]
      rw [e1] at h1
      rw [hb2] at HC
      rw [show takeC to true = 0 from by unfold takeC; rw [if_pos hto]; rfl]
      generalize (atS (selB to a b) i).1 = s at *
      clear e1 hyes hb2 hto
      go_enter Try.func18, Try.ntmps18
      go_wp2_with (first | (go_at_call 42; refine (endOk _ H.out _).mono ?_; rintro e w' ⟨rfl, rfl⟩) | (go_at_call 40; refine HC.out.mono ?_; rintro e w' ⟨rfl, rfl⟩) | (go_at_call 20; refine h1.out.mono ?_; rintro e w' ⟨rfl, ht⟩; have HT := Lib.hid ht; clear ht))
      go_ret2
      exact ⟨rfl, HT.out⟩
  · have H := Lib.hid (show to < 0 ∨ 2 ≤ to by omega)
    rw [selB_bad H.out, show atS [] i = (⟨#[]⟩, false) from atS_no _ (by simp), show takeC to false = 2 from by unfold takeC; rw [if_neg (by omega)], show onA to a (turnL a i 1 []) = a from by unfold onA; rw [if_neg (by omega)], show onB to b (turnL b i 1 []) = b from by unfold onB; rw [if_neg (by omega)]]
    have HT := Lib.hid (then_refl HL.out)
    clear hto h1
    go_enter Try.func18, Try.ntmps18
    go_wp2_with (go_at_call 42; refine (endBad _ H.out _).mono ?_; rintro e w' ⟨rfl, rfl⟩)
    go_ret2
    exact ⟨rfl, HT.out⟩
end Go.Proofs.Ytdaodpojcjbggaa.Ln
