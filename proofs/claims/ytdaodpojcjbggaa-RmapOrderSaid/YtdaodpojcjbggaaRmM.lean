/- The walk of RmapOwn. -/
import Derived.Test.YtdaodpojcjbggaaRmL
namespace Go.Proofs.Ytdaodpojcjbggaa.Rm
open Go.RowKit Go.Proofs.Ytdaodpojcjbggaa.Ln
set_option linter.unusedVariables false
set_option linter.unusedSimpArgs false

def fill (d : Nat → Int × Int) : Nat → List M
  | 0 => []
  | k + 1 => putL 30 0 (fill d k) (draft d k)
theorem drop_all {b : Int} {l : List M} (h : Ok 30 0 l) (hb : 30 ≤ b) : l.drop (pos l b) = [] := by
  rw [drop_pos h.srt, List.filter_eq_nil_iff]
  intro x hx
  have := h.within x hx
  simp; omega
def top (k : Int) (i : Nat) : List M := (List.range i).map (fun j : Nat => (⟨k + 30 - i + (j : Int), 0, 30, 0⟩ : M))
theorem top_len (k : Int) (i : Nat) : (top k i).length = i := by simp [top]
theorem top_succ (k : Int) (i : Nat) : top k (i + 1) = ⟨k + 29 - i, 0, 30, 0⟩ :: top k i := by
  unfold top
  rw [List.range_succ_eq_map, List.map_cons, List.map_map]
  congr 1
  · congr 1; push_cast; omega
  · apply List.map_congr_left
    intro j _
    simp only [Function.comp]
    congr 1; push_cast; omega
theorem top_mem {k : Int} {i : Nat} {x : M} (h : x ∈ top k i) : k + 30 - i ≤ x.at' ∧ x.at' < k + 30 := by
  obtain ⟨j, hj, rfl⟩ := List.mem_map.1 h
  have := List.mem_range.1 hj
  simp; omega
theorem top_put (k : Int) (i : Nat) (hi : i < 30) : putB 30 k (top k i) ⟨k + 29 - i, 0, 30, 0⟩ = true ∧ putL 30 k (top k i) ⟨k + 29 - i, 0, 30, 0⟩ = top k (i + 1) := by
  have hh : has (top k i) (k + 29 - i) = false := by
    cases h : has (top k i) (k + 29 - i) with
    | false => rfl
    | true =>
      obtain ⟨x, hx, e⟩ := (has_mem _ _).1 h
      have := top_mem hx; omega
  have hp : putB 30 k (top k i) ⟨k + 29 - i, 0, 30, 0⟩ = true := by
    unfold putB may
    simp only [hh]
    simp; omega
  refine ⟨hp, ?_⟩
  unfold putL
  rw [if_pos hp]
  have h0 : pos (top k i) (k + 29 - i) = 0 := by
    unfold pos
    rw [List.countP_eq_zero]
    intro x hx
    have := top_mem hx
    simp; omega
  unfold ins
  rw [h0, top_succ]
  rfl
theorem top_put2 (k : Int) (i : Nat) : putB 30 k (top k (i + 1)) ⟨k + 29 - i, 1, 1, 0⟩ = false ∧ putL 30 k (top k (i + 1)) ⟨k + 29 - i, 1, 1, 0⟩ = top k (i + 1) := by
  have hh : has (top k (i + 1)) (k + 29 - i) = true := (has_mem _ _).2 ⟨_, by rw [top_succ]; exact List.mem_cons_self, rfl⟩
  have hp : putB 30 k (top k (i + 1)) ⟨k + 29 - i, 1, 1, 0⟩ = false := by unfold putB; rw [hh]; simp
  exact ⟨hp, by unfold putL; rw [hp]; rfl⟩
theorem out_put {k : Int} {l : List M} {m : M} (h : m.at' < k ∨ k + 30 ≤ m.at') : putB 30 k l m = false ∧ putL 30 k l m = l := by
  have hp : putB 30 k l m = false := by
    have : ¬ may 30 k m := by unfold may; omega
    unfold putB; simp [this]
  exact ⟨hp, by unfold putL; rw [hp]; rfl⟩
theorem row_at {w : World} {P : Option Addr} {n C : Nat} {l : List M} (h : Row w P n C l) {i : Nat} (hi : i < n) : ∃ g, P = some ⟨g, 0, none⟩ ∧ ∀ j, w.frozen? ⟨g, j, none⟩ = false := by
  rcases h.1.2 with ⟨_, e⟩ | ⟨g, cap, cur, e, _, hg, _⟩
  · omega
  · injection e with e _ _
    exact ⟨g, e, fun j => by unfold World.frozen?; simp only [hg]; simp⟩
/-- Cells that may be stored to. -/
def Room (w : World) (g n : Nat) : Prop := ∀ j, j < n → (∃ v, w.cell? ⟨g, j, none⟩ = some v) ∧ w.frozen? ⟨g, j, none⟩ = false
theorem row_room {w : World} {g n C : Nat} {l : List M} (h : Row w (some ⟨g, 0, none⟩) n C l) : Room w g (n * 4) := by
  intro j hj
  rcases h.1.2 with ⟨e, _⟩ | ⟨g', cap, cur, e, _, hg, hnc, _, hcs, _⟩
  · cases e
  · injection e with e _ _
    cases e
    refine ⟨?_, by unfold World.frozen?; simp only [hg]; simp⟩
    have hlt : j < cur.size := by rw [hcs]; omega
    exact ⟨_, (cell_of_row w g j cur 60 (0, 0) hg).trans (Array.getElem?_eq_getElem hlt)⟩
theorem room_set {w : World} {g n : Nat} (h : Room w g n) (i : Nat) (v : Value) : Room (w.setCell ⟨g, i, none⟩ v) g n := by
  intro j hj
  obtain ⟨⟨u, hu⟩, hf⟩ := h j hj
  refine ⟨?_, by rw [World.frozen?_setCell]; exact hf⟩
  by_cases e : i = j
  · subst e; exact ⟨v, setCell_cell_same _ hu⟩
  · exact ⟨u, (World.cell?_setCell_other w ⟨g, i, none⟩ ⟨g, j, none⟩ v (by first | (simp; done) | (simp; omega))).trans hu⟩
end Go.Proofs.Ytdaodpojcjbggaa.Rm
