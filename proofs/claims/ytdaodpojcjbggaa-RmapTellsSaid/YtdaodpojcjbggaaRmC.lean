/- Rows of mappings; tables side by side; New, Len, Begin, All, At. -/
import Derived.Test.YtdaodpojcjbggaaRmB
namespace Go.Proofs.Ytdaodpojcjbggaa.Rm
open Go.RowKit Go.Proofs.Ytdaodpojcjbggaa.Ln
set_option linter.unusedVariables false
set_option linter.unusedSimpArgs false

theorem mapInfo : ∃ i z, Try.prog.info? 60 = some i ∧ i.zero = some z ∧ z.cells.size = 4 ∧ i.size = 4 ∧ i.bytes = 32 := ⟨_, _, rfl, rfl, rfl, rfl, rfl⟩
def flat (l : List M) : List Value := l.flatMap cells
theorem flat_len (l : List M) : (flat l).length = l.length * 4 := by
  induction l with
  | nil => rfl
  | cons m r ih => simp only [flat, List.flatMap_cons, List.length_append, List.length_cons] at *; rw [ih]; simp [cells]; omega
theorem flat_append (l k : List M) : flat (l ++ k) = flat l ++ flat k := by simp [flat]
theorem flat_one (m : M) : flat [m] = cells m := by simp [flat]
theorem flat_get {l : List M} {i j : Nat} (hi : i < l.length) (hj : j < 4) : (flat l)[i * 4 + j]? = (cells l[i])[j]? := by
  induction l generalizing i with
  | nil => simp at hi
  | cons m r ih =>
    have e : flat (m :: r) = cells m ++ flat r := by simp [flat]
    rw [e]
    cases i with
    | zero => rw [List.getElem?_append_left (by simp [cells]; omega)]; simp
    | succ i =>
      rw [List.getElem?_append_right (by simp [cells]; omega), show (i + 1) * 4 + j - (cells m).length = i * 4 + j by simp [cells]; omega]
      simpa using ih (i := i) (by simpa using hi)
theorem one_cell {l : List M} {u : Value} (h : u ∈ flat l) : u.oneCell' = true := by
  obtain ⟨m, _, hm⟩ := List.mem_flatMap.1 h
  simp [cells] at hm
  rcases hm with rfl | rfl | rfl | rfl <;> rfl
theorem add_at (b o j : Nat) : (⟨b, o, none⟩ : Addr).add j = ⟨b, o + j, none⟩ := by unfold Addr.add; split <;> simp_all
theorem flat_lies {w : World} {g off : Nat} {l : List M} (h : ∀ i, (hi : i < l.length) → MapAt w g (off + i * 4) l[i]) : ∀ j u, (flat l)[j]? = some u → w.cell? ⟨g, off + j, none⟩ = some u := by
  intro j u hu
  have hj : j < l.length * 4 := by have := (List.getElem?_eq_some_iff.1 hu).1; rw [flat_len] at this; exact this
  have hi : j / 4 < l.length := by omega
  rw [show j = j / 4 * 4 + j % 4 by omega, flat_get hi (by omega)] at hu
  obtain ⟨c0, c1, c2, c3⟩ := h (j / 4) hi
  have h4 : j % 4 = 0 ∨ j % 4 = 1 ∨ j % 4 = 2 ∨ j % 4 = 3 := by omega
  rcases h4 with e | e | e | e
  · rw [e] at hu; simp [cells] at hu; rw [← hu, ← c0]; congr 2; omega
  · rw [e] at hu; simp [cells] at hu; rw [← hu, ← c1]; congr 2; omega
  · rw [e] at hu; simp [cells] at hu; rw [← hu, ← c2]; congr 2; omega
  · rw [e] at hu; simp [cells] at hu; rw [← hu, ← c3]; congr 2; omega
/-- A row that a call has built is a row of mappings. -/
theorem own_maps {w : World} {P : Option Addr} {n C : Nat} {l : List M} (h : Own w 60 4 (.slice P n C) n (flat l)) (hn : l.length = n) : Maps w P n C l := by
  rcases h.2 with ⟨e, e0⟩ | ⟨g, cap, cur, e, _, hg, hnc, hcm, hcs, htake⟩
  · injection e with e1 e2 e3
    exact ⟨hn, by omega, by omega, .inl ⟨e1, e0, e3⟩⟩
  · injection e with e1 e2 e3
    subst e1 e3
    have hc : C ≤ 9223372036854775807 := hcm
    refine ⟨hn, hnc, hc, .inr ⟨g, 0, rfl, (Array.getElem?_eq_some_iff.1 hg).1, fun i hi => ?_⟩⟩
    have key : ∀ j, j < 4 → ∀ u, (cells l[i])[j]? = some u → w.cell? ⟨g, 0 + i * 4 + j, none⟩ = some u := by
      intro j hj u hu
      rw [cell_of_row w g (0 + i * 4 + j) cur 60 (0, 0) hg]
      have h1 : (flat l)[i * 4 + j]? = some u := by rw [flat_get hi hj]; exact hu
      rw [← htake, List.getElem?_take, if_pos (by omega)] at h1
      rw [Nat.zero_add]
      simpa using h1
    exact ⟨key 0 (by omega) _ rfl, key 1 (by omega) _ rfl, key 2 (by omega) _ rfl, key 3 (by omega) _ rfl⟩
theorem src_maps {W : World} {A : Option Addr} {n C : Nat} {l : List M} (h : Maps W A n C l) : Src Try.prog 4 66 (.slice A n C) n (flat l) W := by
  refine src_any (e' := 60) Try.underlying66 A n C _ (by rw [flat_len, h.1]) (fun e => ?_) (fun a ha j u hu => ?_) (fun u hu => one_cell hu)
  · rcases h.2.2.2 with ⟨_, e0, _⟩ | ⟨g, off, e0, _⟩
    · exact e0
    · rw [e] at e0; cases e0
  · rcases h.2.2.2 with ⟨e, _⟩ | ⟨g, off, e, _, hc⟩
    · rw [ha] at e; cases e
    · rw [ha] at e; cases e
      rw [add_at]
      exact flat_lies hc j u hu
theorem Maps.part {w : World} {A : Option Addr} {n C : Nat} {l : List M} (h : Maps w A n C l) (i : Nat) (hi : i ≤ n) : Maps w A i i (l.take i) := by
  refine ⟨by rw [List.length_take]; have := h.1; omega, Nat.le_refl _, by have := h.2.1; have := h.2.2.1; omega, ?_⟩
  rcases h.2.2.2 with ⟨e, e0, _⟩ | ⟨g, off, e, hg, hc⟩
  · exact .inl ⟨e, by omega, by omega⟩
  · exact .inr ⟨g, off, e, hg, fun j hj => by rw [List.getElem_take]; exact hc j (by rw [List.length_take] at hj; omega)⟩
theorem Maps.rest {w : World} {g off : Nat} {n C : Nat} {l : List M} (h : Maps w (some ⟨g, off, none⟩) n C l) (i : Nat) (hi : i ≤ n) : Maps w (some ⟨g, off + i * 4, none⟩) (n - i) (C - i) (l.drop i) := by
  refine ⟨by rw [List.length_drop, h.1], by have := h.2.1; omega, by have := h.2.2.1; omega, ?_⟩
  rcases h.2.2.2 with ⟨e, _⟩ | ⟨g', off', e, hg, hc⟩
  · cases e
  · cases e
    refine .inr ⟨g, off + i * 4, rfl, hg, fun j hj => ?_⟩
    have hj2 : i + j < l.length := by rw [List.length_drop] at hj; omega
    have := hc (i + j) hj2
    rw [List.getElem_drop, show off + i * 4 + j * 4 = off + (i + j) * 4 by omega]
    exact this
/-- The first append of Put: a copy of what stands ahead, with one mapping more. -/
theorem app_first {W : World} {A : Option Addr} {i : Nat} {k : List M} (h : Maps W A i i k) (hi : i ≤ 100000) (t : TypeId) (x : Value) (m : M) (hs : Src Try.prog 4 66 x 1 (cells m) W) :
    ∃ cap w', (Builtin.append_ #[66, 66] t #[.slice A i i, x]).run Try.prog W = .ok (.slice (some ⟨W.heap.size, 0, none⟩) (i + 1) cap) w' ∧ Own w' 60 4 (.slice (some ⟨W.heap.size, 0, none⟩) (i + 1) cap) (i + 1) (flat (k ++ [m])) ∧ Gw W w' ∧ W.heap.size < w'.heap.size := by
  obtain ⟨inf, z, hi0, hz, hzs, hsz, hb⟩ := mapInfo
  have hcells : (Builtin.firstCells inf.size i (.slice A i i)).run Try.prog W.drew = .ok (flat k).toArray W.drew := by
    rw [hsz]
    rcases h.2.2.2 with ⟨rfl, e0, _⟩ | ⟨g, off, rfl, _, hc⟩
    · subst e0
      have : k = [] := List.eq_nil_of_length_eq_zero h.1
      subst this
      exact run_firstCells_none W.drew 4 0 0 0
    · exact run_firstCells_some W.drew 4 i ⟨g, off, none⟩ i i (flat k) (by rw [flat_len, h.1]) (fun j u hu => by rw [add_at]; exact flat_lies hc j u hu)
  have hs' : Src Try.prog inf.size 66 x 1 (cells m) W := by rw [hsz]; exact hs
  have hsmall : i + 1 ≤ 9223372036854775807 := by omega
  have hrun := run_append_grow_src (P := Try.prog) W 66 66 t 60 inf z Try.underlying66 hi0 hz A i i (flat k) hcells x 1 (cells m) hs' (by omega) (by omega) (growslice_fits (by omega) (by rw [hb]; omega))
  have hge := grownCap_ge W (i + 1) i 60
  have hcm : grownCap W (i + 1) i 60 ≤ maxLen := grownCap_le_maxLen W (i + 1) i 60 (by simp [maxLen]; omega)
  have hlen : (flat k ++ cells m).length = (i + 1) * 4 := by rw [List.length_append, flat_len, h.1]; simp [cells]; omega
  refine ⟨_, _, hrun, ⟨by rw [flat_append, flat_one]; exact hlen, .inr ⟨W.heap.size, _, _, rfl, Nat.zero_le _, heap_alloc_new W.drew _, hge, hcm, ?_, ?_⟩⟩, ((Fr.refl _ W).drew).alloc _, by rw [World.size_alloc]; show W.heap.size < W.heap.size + 1; omega⟩
  · simp only [Array.size_append, List.size_toArray, size_zeroCells, hzs, hlen, ← Nat.add_mul]
    congr 1
    omega
  · rw [flat_append, flat_one]
    simp only [Array.toList_append]
    rw [← hlen]
    exact List.take_left
theorem app_more {W : World} {v : Value} {n : Nat} {k l : List M} (h : Own W 60 4 v n (flat k)) (t : TypeId) (x : Value) (m : Nat) (hs : Src Try.prog 4 66 x m (flat l) W) (hn : n + m ≤ 100000) :
    ∃ P cap w', (Builtin.append_ #[66, 66] t #[v, x]).run Try.prog W = .ok (.slice P (n + m) cap) w' ∧ Own w' 60 4 (.slice P (n + m) cap) (n + m) (flat (k ++ l)) ∧ W.grownBy w' v.ownBlock ∧ ((Value.slice P (n + m) cap).ownBlock = v.ownBlock ∨ (Value.slice P (n + m) cap).ownBlock = some W.heap.size) := by
  obtain ⟨inf, z, hi0, hz, hzs, hsz, hb⟩ := mapInfo
  obtain ⟨v', w', hr, h1, h2, h3⟩ := row_append (P := Try.prog) W 66 66 t 60 inf z 4 32 Try.underlying66 hi0 hz hsz hb hzs v n (flat k) h x m (flat l) hs (by simp [maxLen]; omega) (by omega)
  have hform : ∃ A C, v' = .slice A (n + m) C := by
    rcases h1.2 with ⟨e, e0⟩ | ⟨g, cap, cur, e, _⟩
    · exact ⟨none, 0, by rw [e, e0]⟩
    · exact ⟨_, _, e⟩
  obtain ⟨P, C, rfl⟩ := hform
  exact ⟨P, C, w', hr, by rw [flat_append]; exact h1, h2, h3⟩
/-- An append of mappings, at a step of a region that draws its order. -/
theorem step_app {ops : Array Oper} {o : Oper} {a : Act} {K : Act → World → Prop} {Q : Exit → Act → World → Prop} {E : Prop} {w : World} (hgd : o.guard = none) (s x : Operand)
    (ho : o.op = .call { callee := .builtin .append, args := #[s, x], argTypes := #[66, 66] }) (v y : Value) (hs : a.eval s = v) (hx : a.eval x = y) (R : Value → World → Prop)
    (hr : ∃ v' w', (Builtin.append_ #[66, 66] o.type #[v, y]).run Try.prog w = .ok v' w' ∧ R v' w') (h : ∀ v' w', R v' w' → K (a.put o.dst v') w') :
    if Region.wanted o (yielded ops a.tmps) = true then Oper.wp Try.prog o a w K Q else E := by
  have hw : Region.wanted o (yielded ops a.tmps) = true := by simp [Region.wanted, hgd]
  rw [if_pos hw]
  obtain ⟨v', w', hr, hR⟩ := hr
  unfold Oper.wp execOp
  simp only [ho, resolve, invoke, builtin, Sem.run_bind, Sem.run_pure, Result.andThen_ok, List.map_toArray, List.map_cons, List.map_nil, hs, hx, hr]
  exact h v' w' hR
/-- An append of mappings, in a plain region. -/
theorem wpList_app {ops : Array Oper} {rest : List Oper} {o : Oper} {a : Act} {Q : Exit → Act → World → Prop} {w : World} (hgd : o.guard = none) (s x : Operand)
    (ho : o.op = .call { callee := .builtin .append, args := #[s, x], argTypes := #[66, 66] }) (v y : Value) (hs : a.eval s = v) (hx : a.eval x = y) (R : Value → World → Prop)
    (hr : ∃ v' w', (Builtin.append_ #[66, 66] o.type #[v, y]).run Try.prog w = .ok v' w' ∧ R v' w') (h : ∀ v' w', R v' w' → wpList Try.prog ops Q rest (a.put o.dst v') w') : wpList Try.prog ops Q (o :: rest) a w := by
  obtain ⟨v', w', hr, hR⟩ := hr
  refine wpList_plain hgd fun K hK => ?_
  unfold Oper.wp execOp
  simp only [ho, resolve, invoke, builtin, Sem.run_bind, Sem.run_pure, Result.andThen_ok, List.map_toArray, List.map_cons, List.map_nil, hs, hx, hr]
  exact hK _ _ (h v' w' hR)

/-- The table at X, made since w0; H: the heads of all tables. -/
def TS (w0 w : World) (H : List Nat) (X : Nat) (r b : Int) (l : List M) : Prop :=
  X ∈ H ∧ w0.heap.size ≤ X ∧ (∀ k ∈ H, k < w.heap.size) ∧ ∃ A C, TabAt w X r b A C l ∧ ∀ k, blk A = some k → k ∉ H ∧ w0.heap.size ≤ k
/-- Nothing that lay has turned but the head X. -/
abbrev Fx (X : Nat) (w w' : World) : Prop := Fr (fun k => k = X) w w'
theorem TS.ok {w0 w H X r b l} (h : TS w0 w H X r b l) : Ok r b l := by obtain ⟨_, _, _, A, C, T, _⟩ := h; exact T.ok
theorem TS.gw {w0 w w' H X r b l} (h : TS w0 w H X r b l) (hg : Gw w w') : TS w0 w' H X r b l := by
  obtain ⟨h1, h2, h3, A, C, T, h4⟩ := h
  exact ⟨h1, h2, fun k hk => by have := h3 k hk; have := hg.size; omega, A, C, T.gw hg, h4⟩
theorem TS.fx {w0 w w' H X Y r b l} (h : TS w0 w H Y r b l) (hX : X ∈ H) (hne : Y ≠ X) (hf : Fx X w w') : TS w0 w' H Y r b l := by
  obtain ⟨h1, h2, h3, A, C, T, h4⟩ := h
  exact ⟨h1, h2, fun k hk => by have := h3 k hk; have := hf.size; omega, A, C, T.keep hf.size (hf.block Y T.ltX hne) (fun k hk hlt => hf.block k hlt (fun e => (h4 k hk).1 (e ▸ hX))), h4⟩
theorem TS.more {w0 w w' H X Y r b l} (h : TS w0 w H Y r b l) (hg : Gw w w') (h1 : w.heap.size ≤ X) (h2 : X < w'.heap.size) : TS w0 w' (X :: H) Y r b l := by
  obtain ⟨a1, a2, a3, A, C, T, a4⟩ := h
  refine ⟨List.mem_cons_of_mem _ a1, a2, fun k hk => ?_, A, C, T.gw hg, fun k hk => ⟨fun e => ?_, (a4 k hk).2⟩⟩
  · rcases List.mem_cons.1 hk with rfl | hk
    · exact h2
    · have := a3 k hk; have := hg.size; omega
  · rcases List.mem_cons.1 e with rfl | e
    · have := T.maps.lt hk; omega
    · exact (a4 k hk).1 e
theorem gw_fx {w0 w w' : World} {X : Nat} (hg : Gw w0 w) (hX : w0.heap.size ≤ X) (hf : Fx X w w') : Gw w0 w' := Fr.trans hg hf (fun x hx e => by omega)
theorem cell_fx {X : Nat} {w w' : World} {p : Addr} {v : Value} (hf : Fx X w w') (hn : p.block ≠ X) (h : w.cell? p = some v) : w'.cell? p = some v := cell_fr hf hn h
theorem Maps.fx {X : Nat} {w w' : World} {A : Option Addr} {n C : Nat} {l : List M} (h : Maps w A n C l) (hf : Fx X w w') (hn : blk A ≠ some X) : Maps w' A n C l := h.keep hf.size (fun k hk hlt => hf.block k hlt (fun e => hn (e ▸ hk)))
end Go.Proofs.Ytdaodpojcjbggaa.Rm
