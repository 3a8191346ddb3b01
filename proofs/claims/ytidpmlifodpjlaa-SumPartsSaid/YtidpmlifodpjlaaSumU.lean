/- A load is taken first where every store waits for it. -/
import Derived.Test.YtidpmlifodpjlaaSumN
import Derived.OrdersHeld
namespace Go.Proofs.Ytidpmlifodpjlaa.Sm
open Go.RowKit
set_option linter.unusedVariables false
theorem load_still (o : Oper) (p : Operand) (ho : o.op = .load 5 p) (ev : Operand → Value) (w : World) : (∃ v, (execOp ev o).run Try.prog w = .ok (.value v) w) ∨ ∃ x w', (execOp ev o).run Try.prog w = .halt x w' := by
  unfold execOp
  simp only [ho]
  cases h : ev p
  case pointer A =>
    cases A with
    | none =>
      right
      simp [Instr.loadAt, Instr.sureAddr, go_sem]
    | some a =>
      simp only [Sem.run_bind, Sem.run_pure, Result.andThen_ok, Instr.loadAt, Instr.sureAddr, loadVar, isAgg, go_sem]
      cases hc : w.cell? a with
      | some v => left; exact ⟨v, by simp [hc, go_sem]⟩
      | none =>
        cases hf : w.farLoad Try.prog a (Mode.plain == Mode.atomic) with
        | error e => right; exact ⟨e, w, by simp [hc, hf, go_sem]⟩
        | ok r => left; exact ⟨r.1, by simp [hc, hf, go_sem]⟩
  all_goals
    right
    simp [Instr.loadAt, Instr.sureAddr, go_sem]
theorem wpOp_still {ops : Array Oper} {Q : Exit → Act → World → Prop} {j : Nat} {oj : Oper} {p : Operand} (hj : ops[j]? = some oj) (ho : oj.op = .load 5 p) {K : Act → World → Prop} {a : Act} {w : World} (h : wpOp Try.prog ops Q j K a w) :
    wpOp Try.prog ops Q j (fun a' w' => w' = w ∧ K a' w') a w := by
  unfold wpOp at *
  simp only [hj] at *
  split
  · rename_i hw
    simp only [hw, if_true] at h
    rcases h with h | h
    · left
      unfold Oper.wp at *
      rcases load_still oj p ho a.eval w with ⟨v, e⟩ | ⟨x, w', e⟩
      · rw [e] at h ⊢
        simp only [Oper.upon] at h ⊢
        exact ⟨trivial, h⟩
      · rw [e] at h ⊢
        cases x <;> simp only [Oper.upon] at h ⊢ <;> exact h
    · exact .inr h
  · rename_i hw
    simp only [hw] at h
    exact ⟨trivial, h⟩
/-- A load may be taken first where every operation that has not come up waits for it, is a load, or is apart from it. -/
theorem wpAny_load {ops : Array Oper} {Q : Exit → Act → World → Prop} {md : Region.Mode} {w : World} {i : Nat} {oi : Oper} {v : Value} (hi : ops[i]? = some oi) (hsel : ∀ (j : Nat) (o : Oper) cs b, ops[j]? = some o → o.op ≠ .select cs b)
    (hQ : ∀ c a w, Q (.panic c) (a.put oi.dst v) w → Q (.panic c) a w) :
    ∀ (fuel : Nat) (listed : Array Bool) (a : Act),
      (∀ j oj, ops[j]? = some oj → j ≠ i → listed.getD j true = false → (∀ e ∈ oj.after, Region.binds md e = true → e.on ≠ i) → oi.apart ops oj = true ∧ ∃ p, oj.op = .load 5 p) →
      i ∈ Region.ready md ops listed → YieldsIf Try.prog ops (fun x => x = w) oi v a →
      wpAny Try.prog md ops Q fuel (listed.setIfInBounds i true) (a.put oi.dst v) w → wpAny Try.prog md ops Q (fuel + 1) listed a w := by
  intro fuel
  induction fuel with
  | zero =>
    intro listed a _ hr hy H
    refine ⟨fun h => (by rw [h] at hr; cases hr), fun j hj => ?_⟩
    by_cases hji : j = i
    · subst hji; exact hy.wpOp hi rfl H
    · have := ready_mono hj hji
      rw [H.1] at this
      cases this
  | succ fuel ih =>
    intro listed a hfree hr hy H
    refine ⟨fun h => (by rw [h] at hr; cases hr), fun j hj => ?_⟩
    by_cases hji : j = i
    · subst hji; exact hy.wpOp hi rfl H
    · have h1 := H.2 j (ready_mono hj hji)
      obtain ⟨hjun, oj, hoj, hall⟩ := mem_ready.1 hj
      have hnot : ∀ e ∈ oj.after, Region.binds md e = true → e.on ≠ i := fun e he hb heq => by
        have h1 := hall e he hb
        have h0 := (mem_ready.1 hr).1
        rw [heq] at h1
        rcases Nat.lt_or_ge i listed.size with h' | h'
        · simp [h'] at h0 h1; rw [h0] at h1; cases h1
        · simp [Array.getElem?_eq_none h'] at h1
      obtain ⟨hap, p, hop⟩ := hfree j oj hoj hji hjun hnot
      have h2 := wpOp_still hoj hop (wpOp_putIf hoj hap (fun cs b => hsel i oi cs b hi) (fun cs b => hsel j oj cs b hoj) hQ hy h1)
      have hfree' : ∀ k ok, ops[k]? = some ok → k ≠ i → (listed.setIfInBounds j true).getD k true = false →
          (∀ e ∈ ok.after, Region.binds md e = true → e.on ≠ i) → oi.apart ops ok = true ∧ ∃ p, ok.op = .load 5 p := fun k ok hk hki hun hno => by
        refine hfree k ok hk hki ?_ hno
        by_cases hjk : j = k
        · subst hjk; exact hjun
        · rw [getD_set_ne true hjk] at hun; exact hun
      refine wpOp_mono (fun a' w' h3 => ?_) h2
      obtain ⟨rfl, h4, h5⟩ := h3
      refine ih (listed.setIfInBounds j true) a' hfree' (ready_mono hr (Ne.symm hji)) h4 ?_
      rw [Array.setIfInBounds_comm _ _ hji]
      exact h5
def loadOnly (o : Oper) : Bool := match o.op with | .load t _ => t == 5 | _ => false
theorem loadOnly_spec {o : Oper} (h : loadOnly o = true) : ∃ p, o.op = .load 5 p := by
  unfold loadOnly at h
  split at h
  · rename_i t p e; exact ⟨p, by rw [e]; simp at h; rw [h]⟩
  · cases h
/-- All that has not come up waits for i, or is a load apart from it. -/
def freeLoad (md : Region.Mode) (ops : Array Oper) (listed : Array Bool) (i : Nat) : Bool :=
  match ops[i]? with
  | none => false
  | some oi => (List.range ops.size).all fun j => j == i || listed.getD j true || match ops[j]? with
      | some oj => oj.after.any (fun e => Region.binds md e && e.on == i) || (oi.apart ops oj && loadOnly oj)
      | none => true
theorem freeLoad_spec {md : Region.Mode} {ops : Array Oper} {i : Nat} {oi : Oper} {listed : Array Bool} (hi : ops[i]? = some oi) (h : freeLoad md ops listed i = true) (j : Nat) (oj : Oper)
    (hj : ops[j]? = some oj) (hne : j ≠ i) (hun : listed.getD j true = false) (hno : ∀ e ∈ oj.after, Region.binds md e = true → e.on ≠ i) :
    oi.apart ops oj = true ∧ ∃ p, oj.op = .load 5 p := by
  simp only [freeLoad, hi, List.all_eq_true, List.mem_range] at h
  have h1 := h j (Array.getElem?_eq_some_iff.1 hj).1
  simp only [hj, Bool.or_eq_true, beq_iff_eq, hne, false_or, hun, Bool.false_eq_true] at h1
  rcases h1 with h1 | h1
  · obtain ⟨e, he, hb⟩ := Array.any_eq_true'.1 h1
    simp only [Bool.and_eq_true, beq_iff_eq] at hb
    exact absurd hb.2 (hno e he hb.1)
  · simp only [Bool.and_eq_true] at h1
    exact ⟨h1.1, loadOnly_spec h1.2⟩
theorem wpAny_take_load {ops : Array Oper} {Q : Exit → Act → World → Prop} {md : Region.Mode} {i : Nat} {oi : Oper} {v : Value} {fuel : Nat} {listed : Array Bool} {a : Act} {w : World} (hi : ops[i]? = some oi)
    (hs : Region.noSelect ops = true) (hf : freeLoad md ops listed i = true) (hr : (Region.ready md ops listed).contains i = true)
    (hQ : ∀ c a w, Q (.panic c) (a.put oi.dst v) w → Q (.panic c) a w) (hw : Region.wanted oi (yielded ops a.tmps) = true) (hy : (execOp a.eval oi).run Try.prog w = .ok (.value v) w)
    (h : wpAny Try.prog md ops Q fuel (listed.setIfInBounds i true) (a.put oi.dst v) w) : wpAny Try.prog md ops Q (fuel + 1) listed a w :=
  wpAny_load hi (Region.noSelect_spec hs) hQ fuel listed a (freeLoad_spec hi hf) (by simpa using hr) (.inl ⟨hw, fun x hx => by subst hx; exact hy⟩) h
theorem take_free {ops : Array Oper} {Q : Exit → Act → World → Prop} {md : Region.Mode} {i : Nat} {oi : Oper} {v : Value} (d : Option Tmp) {fuel : Nat} {listed : Array Bool} {a : Act} {w : World} (hi : ops[i]? = some oi) (hd : oi.dst = d)
    (hs : Region.noSelect ops = true) (hf : Region.free md ops listed i = true) (hr : (Region.ready md ops listed).contains i = true)
    (hQ : ∀ c a w, Q (.panic c) (a.put oi.dst v) w → Q (.panic c) a w) (hw : Region.wanted oi (yielded ops a.tmps) = true) (hy : ∀ w, (execOp a.eval oi).run Try.prog w = .ok (.value v) w)
    (h : wpAny Try.prog md ops Q fuel (listed.setIfInBounds i true) (a.put d v) w) : wpAny Try.prog md ops Q (fuel + 1) listed a w :=
  wpAny_take hi hs hf hr hQ (.inl ⟨hw, hy⟩) (hd ▸ h)
theorem take_load {ops : Array Oper} {Q : Exit → Act → World → Prop} {md : Region.Mode} {i : Nat} {oi : Oper} {v : Value} (d : Option Tmp) {fuel : Nat} {listed : Array Bool} {a : Act} {w : World} (hi : ops[i]? = some oi) (hd : oi.dst = d)
    (hs : Region.noSelect ops = true) (hf : freeLoad md ops listed i = true) (hr : (Region.ready md ops listed).contains i = true)
    (hQ : ∀ c a w, Q (.panic c) (a.put oi.dst v) w → Q (.panic c) a w) (hw : Region.wanted oi (yielded ops a.tmps) = true) (hy : (execOp a.eval oi).run Try.prog w = .ok (.value v) w)
    (h : wpAny Try.prog md ops Q fuel (listed.setIfInBounds i true) (a.put d v) w) : wpAny Try.prog md ops Q (fuel + 1) listed a w :=
  wpAny_take_load hi hs hf hr hQ hw hy (hd ▸ h)
end Go.Proofs.Ytidpmlifodpjlaa.Sm
