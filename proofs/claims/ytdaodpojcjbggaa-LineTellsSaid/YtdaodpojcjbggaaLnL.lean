/- The walk of LineKnown (printed by lineknown.py). -/
import Derived.Test.YtdaodpojcjbggaaLnK
namespace Go.Proofs.Ytdaodpojcjbggaa.Ln
open Go.RowKit
set_option linter.unusedVariables false
set_option linter.unusedSimpArgs false
theorem Rw.unfrozen {w : World} {A : Option Addr} {C : Nat} {xs : List ByteArray} (h : Rw w A C xs) : ∀ p : Addr, blk A = some p.block → w.frozen? p = false := by
  intro p hp
  rcases h.own.2 with ⟨e, _⟩ | ⟨g, cap, cur, hv, _, hg, _⟩
  · injection e with e _ _; subst e; simp [blk] at hp
  · injection hv with e _ _; subst e
    simp [blk] at hp; subst hp
    unfold World.frozen?; simp only [hg]; simp
theorem Rw.some_at {w : World} {A : Option Addr} {C : Nat} {xs : List ByteArray} (h : Rw w A C xs) (hne : xs ≠ []) : ∃ g, A = some ⟨g, 0, none⟩ ∧ ∀ i, (hi : i < xs.length) → w.cell? ⟨g, i, none⟩ = some (.string xs[i]) := by
  rcases h.at with ⟨_, e, _⟩ | ⟨g, e, _, _, _, hc⟩
  · exact absurd e hne
  · exact ⟨g, e, hc⟩
/-- All, and that the line stands whatever is done to what it answers. -/
theorem st_all0' {w0 w : World} {X a b} (h : St w0 w X a b) :
    Calls Try.prog 24 #[.pointer (some ⟨X, 0, none⟩), .int .i64 0] w fun e w' => ∃ A' C', e = .returned (.slice A' a.length C') ∧ Rw w' A' C' a ∧ (∀ W, Fr (fun k => blk A' = some k) w' W → St w0 W X a b) ∧ St w0 w' X a b := by
  have h0 := h
  obtain ⟨⟨A, C, B, D, L, hf⟩, hg⟩ := h
  refine (all0 L).mono fun e w' ⟨A', C', he, h1, h2, h3⟩ => ⟨A', C', he, h1, fun W hW => ?_, h0.gw h2⟩
  have L1 := L.fr h2 (fun _ _ h => h)
  refine ⟨⟨A, C, B, D, L1.fr hW (fun k hk e => ?_), hf⟩, Fr.trans (gw_trans hg h2) hW (fun x hx e => ?_)⟩
  · have := h3 k e; have := L.ft_lt hk; omega
  · have := h3 x e; have := hg.size; omega

theorem toBelow {f : Nat} {args : Array Value} {w : World} (h : Calls Try.prog f args w fun e w' => e = .returned (.bool true) ∧ Gw w w') : Calls Try.prog f args w fun e w' => e = .returned (.bool true) ∧ Below w.heap.size w w' :=
  h.mono fun e w' h => ⟨h.1, Fr.below h.2 (fun _ h => h.elim) (Nat.le_refl _)⟩
theorem nilPtr (X : Nat) (w : World) : (binOp .eql 23 (.pointer (some ⟨X, 0, none⟩)) (.pointer none)).run Try.prog w = .ok (.bool false) w := by kernel_rfl

set_option maxRecDepth 100000 in
set_option maxHeartbeats 8000000 in
theorem lineKnown (w : World) : Calls Try.prog 6 #[] w fun e w' => e = .returned (.bool true) ∧ Gw w w' := by
  go_enter Try.func6, Try.ntmps6
  go_wp2_with (first
    | (go_at_call 12; refine (st_new _ (Fr.refl _ _)).mono ?_; rintro e w1 ⟨X, rfl, hst⟩)
    | (go_at_call 15; (with_reducible refine (st_put0 hst _ ?_ ?_).mono ?_); (· decide); (· simp); rintro e w' ⟨rfl, hn⟩; (clear hst; have hst := hn; clear hn; try simp only [List.nil_append, List.cons_append, List.take_zero, List.take_succ_cons, List.drop_succ_cons, List.drop_zero, List.append_nil] at hst))
    | (go_at_call 15; (with_reducible refine (putNil _ _ _).mono ?_); skip; rintro e w' ⟨rfl, rfl⟩)
    | (go_at_call 24; (with_reducible refine (allNil _ _).mono ?_); skip; rintro e w' ⟨rfl, rfl⟩)
    | (go_at_call 24; (with_reducible refine (st_all0' hst).mono ?_); rintro e w' ⟨A', C', rfl, hr, hkeep, hn⟩; have hzf := hr.unfrozen; obtain ⟨g, rfl, hcell⟩ := hr.some_at (by simp); have hc0 := hcell 0 (by simp); have hf0 := hzf ⟨g, 0, none⟩ rfl; have hst9 := hkeep _ ((Fr.refl _ _).setCell ⟨g, 0, none⟩ (.string ⟨#[122]⟩) rfl); clear hst; have hst := hst9; clear hst9 hn hkeep hr hcell hzf)
    | (go_at_call 25; (with_reducible refine (atNil _ _ _).mono ?_); skip; rintro e w' ⟨rfl, rfl⟩)
    | (go_at_call 25; (with_reducible refine (st_at hst _ _ ?_ ?_).mono ?_); (· omega); (· omega); (rw [show atS (sel 0 [⟨#[97]⟩, ⟨#[98]⟩] []) 0 = (⟨#[97]⟩, true) from by simp [atS, sel]]); rintro e w' ⟨rfl, rfl⟩)
    | (go_at_call 19; (with_reducible refine (turnNil _ _ _ _ _ _ _).mono ?_); skip; rintro e w' ⟨rfl, rfl⟩)
    | (go_at_call 19; (with_reducible refine (turnBad _ _ ?_ _ _ _ _ _ _).mono ?_); (· omega); rintro e w' ⟨rfl, rfl⟩)
    | (go_at_call 19; (with_reducible refine (st_turnArg0 hst _ _ ?_ _ _ _).mono ?_); (· omega); rintro e w' ⟨rfl, rfl⟩)
    | (go_at_call 19; (with_reducible refine (st_turnNone0 hst _ _ ?_ ?_ _ _ _).mono ?_); (· omega); (· simp); rintro e w' ⟨rfl, rfl⟩)
    | (go_at_call 17; (with_reducible refine (takeNil _ _ _).mono ?_); skip; rintro e w' ⟨rfl, rfl⟩)
    | (go_at_call 17; (with_reducible refine (takeBad _ _ ?_ _ _).mono ?_); (· omega); rintro e w' ⟨rfl, rfl⟩)
    | (go_at_call 17; (with_reducible refine (st_takeNone0 hst _ ?_ ?_).mono ?_); (· omega); (· simp); rintro e w' ⟨rfl, rfl⟩)
    | (go_at_call 23; (with_reducible refine (lenNil _ _).mono ?_); skip; rintro e w' ⟨rfl, rfl⟩)
    | (go_at_call 23; (with_reducible refine (st_len hst _ ?_).mono ?_); (· omega); (rw [show (sel 0 [⟨#[97]⟩, ⟨#[98]⟩] []) = [⟨#[97]⟩, ⟨#[98]⟩] from rfl]); rintro e w' ⟨rfl, rfl⟩)
    | (go_at_call 21; (with_reducible refine (works _).mono ?_); skip; rintro e w' ⟨rfl, hgw⟩; have hn := hst.gw hgw; clear hgw; (clear hst; have hst := hn; clear hn; try simp only [List.nil_append, List.cons_append, List.take_zero, List.take_succ_cons, List.drop_succ_cons, List.drop_zero, List.append_nil] at hst)))
  go_ret
  exact ⟨rfl, hst.2⟩
end Go.Proofs.Ytdaodpojcjbggaa.Ln
