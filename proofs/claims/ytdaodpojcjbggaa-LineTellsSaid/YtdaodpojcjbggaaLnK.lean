/- The chapter's examples (printed by lineworks.py). -/
import Derived.Test.YtdaodpojcjbggaaLnJ
namespace Go.Proofs.Ytdaodpojcjbggaa.Ln
open Go.RowKit
set_option linter.unusedVariables false
set_option linter.unusedSimpArgs false
theorem gw_alloc1 (w : World) (o : Obj) : Gw w (w.alloc o) := (Fr.refl _ w).alloc o
theorem gw_trans {a b c : World} (h : Gw a b) (k : Gw b c) : Gw a c := Fr.trans h k (fun _ _ h => h)

set_option maxRecDepth 100000 in
set_option maxHeartbeats 8000000 in
theorem works (w : World) : Calls Try.prog 21 #[] w fun e w' => e = .returned (.bool true) ∧ Gw w w' := by
  go_enter Try.func21, Try.ntmps21
  go_wp2_with (first
    | (go_at_call 12; refine (st_new _ (Fr.refl _ _)).mono ?_; rintro e w1 ⟨X, rfl, hst⟩)
    | (go_at_call 15; (with_reducible refine (st_put1 hst _ ?_ ?_).mono ?_); (· decide); (· simp); rintro e w' ⟨rfl, hn⟩; (clear hst; have hst := hn; clear hn; try simp only [List.nil_append, List.cons_append, List.take_zero, List.take_succ_cons, List.drop_succ_cons, List.drop_zero, List.append_nil] at hst))
    | (go_at_call 15; (with_reducible refine (st_put0 hst _ ?_ ?_).mono ?_); (· decide); (· simp); rintro e w' ⟨rfl, hn⟩; (clear hst; have hst := hn; clear hn; try simp only [List.nil_append, List.cons_append, List.take_zero, List.take_succ_cons, List.drop_succ_cons, List.drop_zero, List.append_nil] at hst))
    | (go_at_call 15; (with_reducible refine (putBad _ _ ?_ _ _).mono ?_); (· omega); rintro e w' ⟨rfl, rfl⟩)
    | (go_at_call 19; (with_reducible refine (st_turn1 (hst.gw (gw_alloc1 _ _)) _ _ 0 1 ?_ ?_ ?_ ?_ ?_ _ _ _ [⟨#[120]⟩, ⟨#[121]⟩] ?_ ?_ (strs_at _ _ _ [⟨#[120]⟩, ⟨#[121]⟩] _ _ ?_ ?_ ?_ ?_ ?_) ?_).mono ?_); (· rfl); (· rfl); (· omega); (· simp); (· simp); (· rfl); (· omega); (· rfl); (· rfl); (· rfl); (· omega); (· decide); (· simp); rintro e w' ⟨rfl, hn⟩; (clear hst; have hst := hn; clear hn; try simp only [List.nil_append, List.cons_append, List.take_zero, List.take_succ_cons, List.drop_succ_cons, List.drop_zero, List.append_nil] at hst))
    | (go_at_call 19; (with_reducible refine (st_turn1 (hst.gw (gw_alloc1 _ _)) _ _ 1 2 ?_ ?_ ?_ ?_ ?_ _ _ _ [⟨#[122]⟩] ?_ ?_ (strs_at _ _ _ [⟨#[122]⟩] _ _ ?_ ?_ ?_ ?_ ?_) ?_).mono ?_); (· rfl); (· rfl); (· omega); (· simp); (· simp); (· rfl); (· omega); (· rfl); (· rfl); (· rfl); (· omega); (· decide); (· simp); rintro e w' ⟨rfl, hn⟩; (clear hst; have hst := hn; clear hn; try simp only [List.nil_append, List.cons_append, List.take_zero, List.take_succ_cons, List.drop_succ_cons, List.drop_zero, List.append_nil] at hst))
    | (go_at_call 19; (with_reducible refine (st_turnNone1 hst _ _ ?_ ?_ _ _ _).mono ?_); (· omega); (· simp); rintro e w' ⟨rfl, rfl⟩)
    | (go_at_call 19; (with_reducible refine (st_turnArg1 hst _ _ ?_ _ _ _).mono ?_); (· omega); rintro e w' ⟨rfl, rfl⟩)
    | (go_at_call 17; (with_reducible refine (st_takeNone1 hst _ ?_ ?_).mono ?_); (· omega); (· simp); rintro e w' ⟨rfl, rfl⟩)
    | (go_at_call 17; (with_reducible refine (st_take1 hst _ 0 ?_ ?_ ?_).mono ?_); (· rfl); (· simp); (· simp); rintro e w' ⟨rfl, hn⟩; (clear hst; have hst := hn; clear hn; try simp only [List.nil_append, List.cons_append, List.take_zero, List.take_succ_cons, List.drop_succ_cons, List.drop_zero, List.append_nil] at hst))
    | (go_at_call 24; (with_reducible refine (st_all1 hst).mono ?_); skip; rintro e w' ⟨A', C', rfl, hr, hga, hfr, hn⟩; (clear hst; have hst := hn; clear hn; try simp only [List.nil_append, List.cons_append, List.take_zero, List.take_succ_cons, List.drop_succ_cons, List.drop_zero, List.append_nil] at hst))
    | (go_at_call 24; (with_reducible refine (st_all0 hst).mono ?_); skip; rintro e w' ⟨A', C', rfl, hr, hga, hfr, hn⟩; (clear hst; have hst := hn; clear hn; try simp only [List.nil_append, List.cons_append, List.take_zero, List.take_succ_cons, List.drop_succ_cons, List.drop_zero, List.append_nil] at hst))
    | (go_at_call 22; (with_reducible refine (same _ _ _ _ _ [⟨#[120]⟩, ⟨#[121]⟩, ⟨#[98]⟩] _ ?_ (strs_at _ _ _ [⟨#[120]⟩, ⟨#[121]⟩, ⟨#[98]⟩] _ _ ?_ ?_ ?_ ?_ ?_)).mono ?_); (· exact hr.strs.gw (gw_alloc1 _ _)); (· rfl); (· rfl); (· rfl); (· omega); (· decide); rintro e w' ⟨rfl, hgs⟩; have hn := hst.gw (gw_trans (gw_alloc1 _ _) hgs); clear hr hga hfr hgs; (clear hst; have hst := hn; clear hn; try simp only [List.nil_append, List.cons_append, List.take_zero, List.take_succ_cons, List.drop_succ_cons, List.drop_zero, List.append_nil] at hst))
    | (go_at_call 22; (with_reducible refine (same _ _ _ _ _ [⟨#[120]⟩, ⟨#[122]⟩] _ ?_ (strs_at _ _ _ [⟨#[120]⟩, ⟨#[122]⟩] _ _ ?_ ?_ ?_ ?_ ?_)).mono ?_); (· exact hr.strs.gw (gw_alloc1 _ _)); (· rfl); (· rfl); (· rfl); (· omega); (· decide); rintro e w' ⟨rfl, hgs⟩; have hn := hst.gw (gw_trans (gw_alloc1 _ _) hgs); clear hr hga hfr hgs; (clear hst; have hst := hn; clear hn; try simp only [List.nil_append, List.cons_append, List.take_zero, List.take_succ_cons, List.drop_succ_cons, List.drop_zero, List.append_nil] at hst))
    | (go_at_call 22; (with_reducible refine (same _ _ _ _ _ [⟨#[99]⟩] _ ?_ (strs_at _ _ _ [⟨#[99]⟩] _ _ ?_ ?_ ?_ ?_ ?_)).mono ?_); (· exact hr.strs.gw (gw_alloc1 _ _)); (· rfl); (· rfl); (· rfl); (· omega); (· decide); rintro e w' ⟨rfl, hgs⟩; have hn := hst.gw (gw_trans (gw_alloc1 _ _) hgs); clear hr hga hfr hgs; (clear hst; have hst := hn; clear hn; try simp only [List.nil_append, List.cons_append, List.take_zero, List.take_succ_cons, List.drop_succ_cons, List.drop_zero, List.append_nil] at hst)))
  go_ret
  exact ⟨rfl, hst.2⟩
end Go.Proofs.Ytdaodpojcjbggaa.Ln
