/- Same (of rows that are alike), All. -/
import Derived.Test.YtdaodpojcjbggaaLnE
namespace Go.Proofs.Ytdaodpojcjbggaa.Ln
open Go.RowKit
set_option linter.unusedVariables false

/-- Texts that lie in memory. -/
def Strs (w : World) (A : Option Addr) (n : Nat) (xs : List ByteArray) : Prop :=
  xs.length = n ∧ n ≤ 9223372036854775807 ∧ (∀ s ∈ xs, s.size ≤ 9223372036854775807) ∧ (xs = [] ∨ ∃ b off, A = some ⟨b, off, none⟩ ∧ ∀ i, (h : i < xs.length) → w.cell? ⟨b, off + i, none⟩ = some (.string xs[i]))
theorem Rw.strs {w : World} {A : Option Addr} {C : Nat} {xs : List ByteArray} (h : Rw w A C xs) : Strs w A xs.length xs := by
  refine ⟨rfl, by have := h.len; omega, h.sz, ?_⟩
  rcases h.at with ⟨_, rfl, _⟩ | ⟨g, rfl, _, _, _, hc⟩
  · exact .inl rfl
  · exact .inr ⟨g, 0, rfl, fun i hi => by rw [Nat.zero_add]; exact hc i hi⟩
theorem Strs.gw {w w' : World} {A : Option Addr} {n : Nat} {xs : List ByteArray} (hg : Gw w w') (h : Strs w A n xs) : Strs w' A n xs :=
  ⟨h.1, h.2.1, h.2.2.1, h.2.2.2.imp id fun ⟨b, off, e, hc⟩ => ⟨b, off, e, fun i hi => cell_gw hg (hc i hi)⟩⟩
theorem gw_drewN {a b : World} (h : Gw a b) (n : Nat) : Gw a (b.drewN n) := ⟨h.os, h.tape, h.output, h.size, h.block⟩

set_option maxRecDepth 100000 in
set_option maxHeartbeats 4000000 in
theorem same (A B : Option Addr) (C D n : Nat) (xs : List ByteArray) (w : World) (ha : Strs w A n xs) (hb : Strs w B n xs) :
    Calls Try.prog 22 #[.slice A n C, .slice B n D] w fun e w' => e = .returned (.bool true) ∧ Gw w w' := by
  obtain ⟨hl, hm, hs, ha⟩ := ha
  have HA := Lib.hid ha
  have HB := Lib.hid hb.2.2.2
  clear ha hb
  go_enter Try.func22, Try.ntmps22
  go_wp2_with fail
  go_loopw [5] (fun v W => ∃ i : Nat, i ≤ n ∧ v = .int .i64 i ∧ Hid (∃ q, W = w.drewN q)) (fun v _ => n - (intOf v).toNat)
  case atStart => exact ⟨0, by omega, rfl, Lib.hid ⟨0, rfl⟩⟩
  case round =>
    obtain ⟨i, hi, rfl, hq⟩ := hrel
    by_cases hlt : i < n
    · have hz : (i : Int) < (n : Int) := by omega
      have hne : xs ≠ [] := by intro e; subst e; simp at hl; omega
      obtain ⟨b1, o1, rfl, k1⟩ := HA.out.resolve_left hne
      obtain ⟨b2, o2, rfl, k2⟩ := HB.out.resolve_left hne
      have e1 := k1 i (by omega)
      have e2 := k2 i (by omega)
      have HQ := hq
      have q1 : wr.cell? ⟨b1, o1 + i, none⟩ = some (.string xs[i]) := by obtain ⟨q, rfl⟩ := hq.out; exact e1
      have q2 : wr.cell? ⟨b2, o2 + i, none⟩ = some (.string xs[i]) := by obtain ⟨q, rfl⟩ := hq.out; exact e2
      generalize xs[i] = x at *
      clear k1 k2 e1 e2 HA HB hq
      go_wp2_with fail
      go_quiet (fail)
      go_wp2_with fail
      go_roundw
      case rel =>
        obtain ⟨q, hq⟩ := HQ.out
        exact ⟨i + 1, by omega, by go_num, Lib.hid ⟨q + nq, by rw [hq, World.drewN_drewN]⟩⟩
      case measure => simp [intOf]; omega
    · obtain rfl : i = n := by omega
      go_wp2_with fail
      go_ret
      obtain ⟨q, rfl⟩ := hq.out
      exact ⟨rfl, gw_drewN (Fr.refl _ w) q⟩

theorem allNil (to : Int) (w : World) : Calls Try.prog 24 #[.pointer none, .int .i64 to] w fun e w' => e = .returned (.slice none 0 0) ∧ w = w' := by
  go_enter Try.func24, Try.ntmps24
  go_wp2_with (go_at_call 41; refine (rightNil _ _).mono ?_; rintro e w' ⟨rfl, rfl⟩)
  go_ret
  exact ⟨rfl, rfl⟩
theorem allBad (X : Nat) (to : Int) (h : to < 0 ∨ 2 ≤ to) (w : World) : Calls Try.prog 24 #[.pointer (some ⟨X, 0, none⟩), .int .i64 to] w fun e w' => e = .returned (.slice none 0 0) ∧ w = w' := by
  have H := Lib.hid h
  clear h
  go_enter Try.func24, Try.ntmps24
  go_wp2_with (go_at_call 41; refine (rightBad _ _ H.out _).mono ?_; rintro e w' ⟨rfl, rfl⟩)
  go_ret
  exact ⟨rfl, rfl⟩
theorem all0 {w : World} {X A C B D a b} (L : LineAt w X A C B D a b) : Calls Try.prog 24 #[.pointer (some ⟨X, 0, none⟩), .int .i64 0] w fun e w' => ∃ A' C', e = .returned (.slice A' a.length C') ∧ Rw w' A' C' a ∧ Gw w w' ∧ Fresh w A' := by
  have c0 := L.c0
  have HR := Lib.hid L.ra
  clear L
  go_enter Try.func24, Try.ntmps24
  go_wp2_with (first | (go_at_call 41; refine (rightOk _ _ (by omega) _).mono ?_; rintro e w' ⟨rfl, rfl⟩) | (go_at_call 44; refine (clone HR.out).mono ?_; rintro e w1 ⟨A', C', rfl, h1, h2, h3⟩))
  go_ret
  exact ⟨A', C', rfl, h1, h2, h3⟩
theorem all1 {w : World} {X A C B D a b} (L : LineAt w X A C B D a b) : Calls Try.prog 24 #[.pointer (some ⟨X, 0, none⟩), .int .i64 1] w fun e w' => ∃ A' C', e = .returned (.slice A' b.length C') ∧ Rw w' A' C' b ∧ Gw w w' ∧ Fresh w A' := by
  have c1 := L.c1
  have HR := Lib.hid L.rb
  clear L
  go_enter Try.func24, Try.ntmps24
  go_wp2_with (first | (go_at_call 41; refine (rightOk _ _ (by omega) _).mono ?_; rintro e w' ⟨rfl, rfl⟩) | (go_at_call 44; refine (clone HR.out).mono ?_; rintro e w1 ⟨A', C', rfl, h1, h2, h3⟩))
  go_ret
  exact ⟨A', C', rfl, h1, h2, h3⟩
end Go.Proofs.Ytdaodpojcjbggaa.Ln
