/- Segments that lie in memory; rows of them. -/
import Derived.Test.YtmjajepdlopkiaaShQ
import Derived.Deep.Upon
import Derived.Deep.RegionLaw
namespace Go.Proofs.Ytmjajepdlopkiaa.Sh
open Go.RowKit
set_option linter.unusedVariables false
set_option linter.unusedSimpArgs false

/-- A segment. -/
structure Sg where
  v0 : Int
  v1 : Int
  v2 : Int
  sq : Int
  v4 : Int
  syn : Bool
  v6 : Bool
  v7 : Bool
  v8 : Bool
  v9 : Int
  v10 : ByteArray
  data : ByteArray
def cells (x : Sg) : List Value := [.int .i64 x.v0, .int .u16 x.v1, .int .u16 x.v2, .int .u32 x.sq, .int .u32 x.v4, .bool x.syn, .bool x.v6, .bool x.v7, .bool x.v8, .int .u16 x.v9, .string x.v10, .string x.data]
theorem one_cells (x : Sg) : ∀ u ∈ cells x, u.oneCell' = true := by
  intro u hu
  simp [cells] at hu
  rcases hu with rfl | rfl | rfl | rfl | rfl | rfl | rfl | rfl | rfl | rfl | rfl | rfl <;> rfl
structure Sg.Ok (x : Sg) : Prop where
  sq : 0 ≤ x.sq ∧ x.sq < 4294967296
  data : x.data.size ≤ 9223372036854775807
def SegAt (w : World) (g o : Nat) (x : Sg) : Prop := ∀ j u, (cells x)[j]? = some u → w.cell? ⟨g, o + j, none⟩ = some u
theorem SegAt.blk {w w' : World} {g o : Nat} {x : Sg} (hb : w'.heap[g]? = w.heap[g]?) (h : SegAt w g o x) : SegAt w' g o x := fun j u hu => cell_blk (p := ⟨g, o + j, none⟩) hb (h j u hu)
def flat (l : List Sg) : List Value := l.flatMap cells
theorem flat_len (l : List Sg) : (flat l).length = l.length * 12 := by
  induction l with
  | nil => rfl
  | cons m r ih => simp only [flat, List.flatMap_cons, List.length_append, List.length_cons] at *; rw [ih]; simp [cells]; omega
theorem flat_append (l k : List Sg) : flat (l ++ k) = flat l ++ flat k := by simp [flat]
theorem flat_one (m : Sg) : flat [m] = cells m := by simp [flat]
theorem flat_get {l : List Sg} {i j : Nat} (hi : i < l.length) (hj : j < 12) : (flat l)[i * 12 + j]? = (cells l[i])[j]? := by
  induction l generalizing i with
  | nil => simp at hi
  | cons m r ih =>
    have e : flat (m :: r) = cells m ++ flat r := by simp [flat]
    rw [e]
    cases i with
    | zero => rw [List.getElem?_append_left (by simp [cells]; omega)]; simp
    | succ i =>
      rw [List.getElem?_append_right (by simp [cells]; omega), show (i + 1) * 12 + j - (cells m).length = i * 12 + j by simp [cells]; omega]
      simpa using ih (i := i) (by simpa using hi)
/-- Segments that lie in memory. -/
def Segs (w : World) (A : Option Addr) (n C : Nat) (l : List Sg) : Prop :=
  l.length = n ∧ n ≤ C ∧ C ≤ 9223372036854775807 ∧ (n = 0 ∨ ∃ g off, A = some ⟨g, off, none⟩ ∧ g < w.heap.size ∧ ∀ i, (h : i < l.length) → SegAt w g (off + i * 12) l[i])
def blk' (A : Option Addr) : Option Nat := A.map (·.block)
theorem Segs.keep {w w' : World} {A : Option Addr} {n C : Nat} {l : List Sg} (h : Segs w A n C l) (hs : w.heap.size ≤ w'.heap.size) (hb : ∀ k, blk' A = some k → k < w.heap.size → w'.heap[k]? = w.heap[k]?) : Segs w' A n C l :=
  ⟨h.1, h.2.1, h.2.2.1, h.2.2.2.imp id fun ⟨g, off, e, hg, hc⟩ => ⟨g, off, e, by omega, fun i hi => (hc i hi).blk (hb g (by rw [e]; rfl) hg)⟩⟩
theorem Segs.gw {w w' : World} {A : Option Addr} {n C : Nat} {l : List Sg} (hg : Gw w w') (h : Segs w A n C l) : Segs w' A n C l := h.keep hg.size (fun k _ hk => hg.block k hk (fun h => h))
theorem Segs.at {w : World} {A : Option Addr} {n C : Nat} {l : List Sg} (h : Segs w A n C l) {i : Nat} (hi : i < l.length) : ∃ g off, A = some ⟨g, off, none⟩ ∧ SegAt w g (off + i * 12) l[i] := by
  rcases h.2.2.2 with e | ⟨g, off, e, _, hc⟩
  · have := h.1; omega
  · exact ⟨g, off, e, hc i hi⟩
/-- A row that a call has built is a row of segments. -/
theorem own_segs {w : World} {P : Option Addr} {n C : Nat} {l : List Sg} (h : Own w 48 12 (.slice P n C) n (flat l)) (hn : l.length = n) : Segs w P n C l := by
  rcases h.2 with ⟨e, e0⟩ | ⟨g, cap, cur, e, _, hg, hnc, hcm, hcs, htake⟩
  · injection e with e1 e2 e3
    exact ⟨hn, by omega, by omega, .inl e0⟩
  · injection e with e1 e2 e3
    subst e1 e3
    have hc : C ≤ 9223372036854775807 := hcm
    refine ⟨hn, hnc, hc, .inr ⟨g, 0, rfl, (Array.getElem?_eq_some_iff.1 hg).1, fun i hi j u hu => ?_⟩⟩
    have hj : j < 12 := by have := (List.getElem?_eq_some_iff.1 hu).1; simpa [cells] using this
    rw [cell_of_row w g (0 + i * 12 + j) cur 48 (0, 0) hg]
    have h1 : (flat l)[i * 12 + j]? = some u := by rw [flat_get hi hj]; exact hu
    rw [← htake, List.getElem?_take, if_pos (by omega)] at h1
    rw [Nat.zero_add]
    simpa using h1
theorem segInfo : ∃ i z, Try.prog.info? 48 = some i ∧ i.zero = some z ∧ z.cells.size = 12 ∧ i.size = 12 ∧ i.bytes = 64 := ⟨_, _, rfl, rfl, rfl, rfl, rfl⟩
theorem app_seg {W : World} {v : Value} {n : Nat} {k : List Sg} (h : Own W 48 12 v n (flat k)) (t : TypeId) (x : Value) (m : Sg) (hs : Src Try.prog 12 60 x 1 (cells m) W) (hn : n + 1 ≤ 100000) :
    ∃ P cap w', (Builtin.append_ #[60, 60] t #[v, x]).run Try.prog W = .ok (.slice P (n + 1) cap) w' ∧ Own w' 48 12 (.slice P (n + 1) cap) (n + 1) (flat (k ++ [m])) ∧ W.grownBy w' v.ownBlock ∧ ((Value.slice P (n + 1) cap).ownBlock = v.ownBlock ∨ (Value.slice P (n + 1) cap).ownBlock = some W.heap.size) := by
  obtain ⟨inf, z, hi0, hz, hzs, hsz, hb⟩ := segInfo
  obtain ⟨v', w', hr, h1, h2, h3⟩ := row_append (P := Try.prog) W 60 60 t 48 inf z 12 64 Try.underlying60 hi0 hz hsz hb hzs v n (flat k) h x 1 (cells m) hs (by simp [maxLen]; omega) (by omega)
  have hform : ∃ A C, v' = .slice A (n + 1) C := by
    rcases h1.2 with ⟨e, e0⟩ | ⟨g, cap, cur, e, _⟩
    · exact ⟨none, 0, by rw [e, e0]⟩
    · exact ⟨_, _, e⟩
  obtain ⟨P, C, rfl⟩ := hform
  exact ⟨P, C, w', hr, by rw [flat_append, flat_one]; exact h1, h2, h3⟩
theorem src_new {W : World} {b : Nat} {x : Sg} (h : SegAt W b 0 x) : Src Try.prog 12 60 (.slice (some ⟨b, 0, none⟩) 1 1) 1 (cells x) W :=
  src_any (e' := 48) Try.underlying60 _ 1 1 _ rfl (fun e => by cases e) (fun a ha j u hu => by cases ha; rw [add_at]; exact h j u hu) (fun u hu => one_cells x u hu)
/-- An append of segments, at a step of a region that draws its order. -/
theorem step_seg {ops : Array Oper} {o : Oper} {a : Act} {K : Act → World → Prop} {Q : Exit → Act → World → Prop} {E : Prop} {w : World} (hgd : o.guard = none) (s x : Operand)
    (ho : o.op = .call { callee := .builtin .append, args := #[s, x], argTypes := #[60, 60] }) (v y : Value) (hs : a.eval s = v) (hx : a.eval x = y) (R : Value → World → Prop)
    (hr : ∃ v' w', (Builtin.append_ #[60, 60] o.type #[v, y]).run Try.prog w = .ok v' w' ∧ R v' w') (h : ∀ v' w', R v' w' → K (a.put o.dst v') w') :
    if Region.wanted o (yielded ops a.tmps) = true then Oper.wp Try.prog o a w K Q else E := by
  have hw : Region.wanted o (yielded ops a.tmps) = true := by simp [Region.wanted, hgd]
  rw [if_pos hw]
  obtain ⟨v', w', hr, hR⟩ := hr
  unfold Oper.wp execOp
  simp only [ho, resolve, invoke, builtin, Sem.run_bind, Sem.run_pure, Result.andThen_ok, List.map_toArray, List.map_cons, List.map_nil, hs, hx, hr]
  exact h v' w' hR
/-- An append of segments, in a plain region. -/
theorem wpList_seg {ops : Array Oper} {rest : List Oper} {o : Oper} {a : Act} {Q : Exit → Act → World → Prop} {w : World} (hgd : o.guard = none) (s x : Operand)
    (ho : o.op = .call { callee := .builtin .append, args := #[s, x], argTypes := #[60, 60] }) (v y : Value) (hs : a.eval s = v) (hx : a.eval x = y) (R : Value → World → Prop)
    (hr : ∃ v' w', (Builtin.append_ #[60, 60] o.type #[v, y]).run Try.prog w = .ok v' w' ∧ R v' w') (h : ∀ v' w', R v' w' → wpList Try.prog ops Q rest (a.put o.dst v') w') : wpList Try.prog ops Q (o :: rest) a w := by
  obtain ⟨v', w', hr, hR⟩ := hr
  refine wpList_plain hgd fun K hK => ?_
  unfold Oper.wp execOp
  simp only [ho, resolve, invoke, builtin, Sem.run_bind, Sem.run_pure, Result.andThen_ok, List.map_toArray, List.map_cons, List.map_nil, hs, hx, hr]
  exact hK _ _ (h v' w' hR)
end Go.Proofs.Ytmjajepdlopkiaa.Sh
