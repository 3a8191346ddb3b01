/- What came, in memory; New, at, has, Has, Many. -/
import Derived.Test.YtmjajepdlopkiaaShB
namespace Go.Proofs.Ytmjajepdlopkiaa.Sh
open Go.RowKit
set_option linter.unusedVariables false
set_option linter.unusedSimpArgs false

/-- The j-th word of a set of bytes. -/
def wd (f : Nat → Bool) (j : Nat) : Nat := num (fun i => f (64 * j + i)) 64
abbrev setV (f : Nat → Bool) : Value := .agg #[.int .u64 (wd f 0), .int .u64 (wd f 1), .int .u64 (wd f 2), .int .u64 (wd f 3)]
/-- What came, at X, its words at g. -/
structure CameAt (w : World) (X g cp : Nat) (isn : Int) (n : Nat) (C : Nat → Nat → Bool) : Prop where
  c0 : w.cell? ⟨X, 0, none⟩ = some (.int .u32 isn)
  c1 : w.cell? ⟨X, 1, none⟩ = some (.slice (some ⟨g, 0, none⟩) n cp)
  cells : ∀ i j, i < n → j < 4 → w.cell? ⟨g, i * 4 + j, none⟩ = some (.int .u64 (wd (C i) j : Nat))
  fz : ∀ i j, i < n → j < 4 → w.frozen? ⟨g, i * 4 + j, none⟩ = false
  ne : g ≠ X
  hn : 1 ≤ n ∧ n ≤ 65536
  hcp : n ≤ cp ∧ cp ≤ 9223372036854775807
  hisn : 0 ≤ isn ∧ isn < 4294967296
/-- The row at an offset. -/
def row (n : Nat) (C : Nat → Nat → Bool) (off : Int) : Nat → Bool := if 0 ≤ off ∧ off < n then C off.toNat else fun _ => false
theorem wd_none (j : Nat) : wd (fun _ => false) j = 0 := num_zero _ _ (fun _ _ => rfl)
theorem wd_congr {f f' : Nat → Bool} {j : Nat} (hj : j < 4) (h : ∀ b, b < 256 → f b = f' b) : wd f j = wd f' j := by
  unfold wd
  exact num_congr (fun k hk => h _ (by omega))
theorem lt_of_cell {w : World} {b o : Nat} {v : Value} (h : w.cell? ⟨b, o, none⟩ = some v) : b < w.heap.size := World.block_lt_of_cell? _ _ h
theorem CameAt.ltX {w X g cp isn n C} (h : CameAt w X g cp isn n C) : X < w.heap.size := lt_of_cell h.c0
theorem CameAt.ltg {w X g cp isn n C} (h : CameAt w X g cp isn n C) : g < w.heap.size := lt_of_cell (h.cells 0 0 (by have := h.hn; omega) (by omega))
theorem frozen_blk {w w' : World} {p : Addr} (hb : w'.heap[p.block]? = w.heap[p.block]?) (h : w.frozen? p = false) : w'.frozen? p = false := (World.frozen?_of_block (a := p) hb).trans h
theorem CameAt.keep {w w' X g cp isn n C} (h : CameAt w X g cp isn n C) (hX : w'.heap[X]? = w.heap[X]?) (hg : w'.heap[g]? = w.heap[g]?) : CameAt w' X g cp isn n C :=
  ⟨cell_blk (p := ⟨X, 0, none⟩) hX h.c0, cell_blk (p := ⟨X, 1, none⟩) hX h.c1, fun i j hi hj => cell_blk (p := ⟨g, i * 4 + j, none⟩) hg (h.cells i j hi hj), fun i j hi hj => frozen_blk (p := ⟨g, i * 4 + j, none⟩) hg (h.fz i j hi hj), h.ne, h.hn, h.hcp, h.hisn⟩
theorem CameAt.gw {w w' X g cp isn n C} (h : CameAt w X g cp isn n C) (hg : Gw w w') : CameAt w' X g cp isn n C := h.keep (hg.block X h.ltX (fun h => h)) (hg.block g h.ltg (fun h => h))
theorem CameAt.like {w X g cp isn n C C'} (h : CameAt w X g cp isn n C) (hc : ∀ i b, i < n → b < 256 → C i b = C' i b) : CameAt w X g cp isn n C' :=
  ⟨h.c0, h.c1, fun i j hi hj => by rw [h.cells i j hi hj, wd_congr hj (fun b hb => hc i b hi hb)], h.fz, h.ne, h.hn, h.hcp, h.hisn⟩

def SetP (f : Nat → Bool) (w : World) (e : Ending) (w' : World) : Prop := e = .returned (setV f) ∧ Gw w w'
theorem read4 {W : World} {Z : Nat} {u0 u1 u2 u3 : Value} (h0 : W.cell? ⟨Z, 0, none⟩ = some u0) (h1 : W.cell? ⟨Z, 1, none⟩ = some u1) (h2 : W.cell? ⟨Z, 2, none⟩ = some u2) (h3 : W.cell? ⟨Z, 3, none⟩ = some u3) (v0 v1 v2 v3 : Value) :
    ((((W.setCell ⟨Z, 0, none⟩ v0).setCell ⟨Z, 1, none⟩ v1).setCell ⟨Z, 2, none⟩ v2).setCell ⟨Z, 3, none⟩ v3).cell? ⟨Z, 0, none⟩ = some v0 ∧
    ((((W.setCell ⟨Z, 0, none⟩ v0).setCell ⟨Z, 1, none⟩ v1).setCell ⟨Z, 2, none⟩ v2).setCell ⟨Z, 3, none⟩ v3).cell? ⟨Z, 1, none⟩ = some v1 ∧
    ((((W.setCell ⟨Z, 0, none⟩ v0).setCell ⟨Z, 1, none⟩ v1).setCell ⟨Z, 2, none⟩ v2).setCell ⟨Z, 3, none⟩ v3).cell? ⟨Z, 2, none⟩ = some v2 ∧
    ((((W.setCell ⟨Z, 0, none⟩ v0).setCell ⟨Z, 1, none⟩ v1).setCell ⟨Z, 2, none⟩ v2).setCell ⟨Z, 3, none⟩ v3).cell? ⟨Z, 3, none⟩ = some v3 := by
  have oth : ∀ (V : World) (i j : Nat) (v : Value), i ≠ j → (V.setCell ⟨Z, i, none⟩ v).cell? ⟨Z, j, none⟩ = V.cell? ⟨Z, j, none⟩ := fun V i j v h => World.cell?_setCell_other V ⟨Z, i, none⟩ ⟨Z, j, none⟩ v (by first | (simp; done) | (simp; omega))
  refine ⟨?_, ?_, ?_, ?_⟩
  · rw [oth _ 3 0 _ (by omega), oth _ 2 0 _ (by omega), oth _ 1 0 _ (by omega)]; exact setCell_cell_same _ h0
  · rw [oth _ 3 1 _ (by omega), oth _ 2 1 _ (by omega)]; exact setCell_cell_same _ ((oth _ 0 1 _ (by omega)).trans h1)
  · rw [oth _ 3 2 _ (by omega)]; exact setCell_cell_same _ ((oth _ 1 2 _ (by omega)).trans ((oth _ 0 2 _ (by omega)).trans h2))
  · exact setCell_cell_same _ ((oth _ 2 3 _ (by omega)).trans ((oth _ 1 3 _ (by omega)).trans ((oth _ 0 3 _ (by omega)).trans h3)))

theorem atNil (off : Int) (w : World) : Calls Try.prog 46 #[.pointer none, .int .i64 off] w (SetP (fun _ => false) w) := by
  have hz : setV (fun _ => false) = .agg #[.int .u64 0, .int .u64 0, .int .u64 0, .int .u64 0] := by simp only [setV, wd_none]; rfl
  unfold SetP
  rw [hz]
  go_enter Try.func46, Try.ntmps46
  go_wp2
  exact bodyPost_ret (v := .agg #[.int .u64 0, .int .u64 0, .int .u64 0, .int .u64 0]) (by simp [results, Try.results46, go_sem]) rfl ⟨rfl, gw_alloc1 _ _⟩
theorem at_ {w X g cp isn n C} (h : CameAt w X g cp isn n C) (off : Int) : Calls Try.prog 46 #[.pointer (some ⟨X, 0, none⟩), .int .i64 off] w (SetP (row n C off) w) := by
  have c1 := h.c1
  have hn := h.hn
  have hcp := h.hcp
  by_cases h0 : 0 ≤ off ∧ off < n
  · have hr : row n C off = C off.toNat := by unfold row; rw [if_pos h0]
    rw [hr]
    obtain ⟨i, rfl⟩ := Int.eq_ofNat_of_zero_le h0.1
    have hi : i < n := by omega
    have d0 := h.cells i 0 hi (by omega)
    have d1 := h.cells i 1 hi (by omega)
    have d2 := h.cells i 2 hi (by omega)
    have d3 := h.cells i 3 hi (by omega)
    rw [show ((i : Int)).toNat = i from rfl]
    obtain ⟨a0, e0⟩ : ∃ a, wd (C i) 0 = a := ⟨_, rfl⟩
    obtain ⟨a1, e1⟩ : ∃ a, wd (C i) 1 = a := ⟨_, rfl⟩
    obtain ⟨a2, e2⟩ : ∃ a, wd (C i) 2 = a := ⟨_, rfl⟩
    obtain ⟨a3, e3⟩ : ∃ a, wd (C i) 3 = a := ⟨_, rfl⟩
    unfold SetP setV
    rw [e0, e1, e2, e3]
    rw [e0] at d0; rw [e1] at d1; rw [e2] at d2; rw [e3] at d3
    clear e0 e1 e2 e3 h hr
    have hi' : (i : Int) < n := h0.2
    clear h0
    have c1 := cell_alloc_old (.cells #[.int .u64 0, .int .u64 0, .int .u64 0, .int .u64 0] 84) c1
    have d0 : (w.alloc (.cells #[.int .u64 0, .int .u64 0, .int .u64 0, .int .u64 0] 84)).cell? ⟨g, i * 4, none⟩ = _ := cell_alloc_old (.cells #[.int .u64 0, .int .u64 0, .int .u64 0, .int .u64 0] 84) d0
    have d1 := cell_alloc_old (.cells #[.int .u64 0, .int .u64 0, .int .u64 0, .int .u64 0] 84) d1
    have d2 := cell_alloc_old (.cells #[.int .u64 0, .int .u64 0, .int .u64 0, .int .u64 0] 84) d2
    have d3 := cell_alloc_old (.cells #[.int .u64 0, .int .u64 0, .int .u64 0, .int .u64 0] 84) d3
    go_enter Try.func46, Try.ntmps46
    go_wp2
    exact bodyPost_ret (v := .agg #[.int .u64 a0, .int .u64 a1, .int .u64 a2, .int .u64 a3]) (by simp [results, Try.results46, go_sem]) rfl ⟨rfl, gw_alloc1 _ _⟩
  · have hr : row n C off = fun _ => false := by unfold row; rw [if_neg h0]
    have hz : setV (fun _ => false) = .agg #[.int .u64 0, .int .u64 0, .int .u64 0, .int .u64 0] := by simp only [setV, wd_none]; rfl
    unfold SetP
    rw [hr, hz]
    clear hr hz h
    have c1 := cell_alloc_old (.cells #[.int .u64 0, .int .u64 0, .int .u64 0, .int .u64 0] 84) c1
    by_cases h1 : off < 0
    · clear h0
      go_enter Try.func46, Try.ntmps46
      go_wp2
      exact bodyPost_ret (v := .agg #[.int .u64 0, .int .u64 0, .int .u64 0, .int .u64 0]) (by simp [results, Try.results46, go_sem]) rfl ⟨rfl, gw_alloc1 _ _⟩
    · have h2 : (n : Int) ≤ off := by omega
      clear h0
      go_enter Try.func46, Try.ntmps46
      go_wp2
      exact bodyPost_ret (v := .agg #[.int .u64 0, .int .u64 0, .int .u64 0, .int .u64 0]) (by simp [results, Try.results46, go_sem]) rfl ⟨rfl, gw_alloc1 _ _⟩
end Go.Proofs.Ytmjajepdlopkiaa.Sh
