/- New; rows of bytes that may be written. -/
import Derived.Test.YtmjajepdlopkiaaShD
import Derived.Laws.MakeOwn
import Derived.Laws.IdiomStrings
import Derived.Deep.RegionWith
import Derived.Deep.RegionHeld3
import Derived.Deep.QuietTactic
import Derived.BigQuiet
import Derived.RegionTactic
import Derived.ChangeAlike
import Derived.Deep.LoopGhost
import Derived.Deep.DeepCutAuto
namespace Go.Proofs.Ytmjajepdlopkiaa.Sh
open Go.RowKit
set_option linter.unusedVariables false
set_option linter.unusedSimpArgs false

theorem setInfo : ∃ i z, Try.prog.info? 84 = some i ∧ i.zero = some z ∧ z.cells = #[.int .u64 0, .int .u64 0, .int .u64 0, .int .u64 0] ∧ i.size = 4 ∧ i.bytes = 32 := ⟨_, _, rfl, rfl, rfl, rfl, rfl⟩
/-- Sets of nothing. -/
def zeros (n : Nat) : Array Value := madeCells #[.int .u64 0, .int .u64 0, .int .u64 0, .int .u64 0] (n * 4)
theorem zeros_get (n k : Nat) (h : k < n * 4) : (zeros n)[k]? = some (.int .u64 0) := by
  unfold zeros madeCells
  rw [Array.getElem?_eq_getElem (by simp; omega)]
  have h4 : k % 4 = 0 ∨ k % 4 = 1 ∨ k % 4 = 2 ∨ k % 4 = 3 := by omega
  rcases h4 with e | e | e | e <;> simp [e]
theorem make_sets (n : Nat) (hn : n ≤ 65536) (w : World) : (Instr.makeSlice 80 (.int .i64 n) (.int .i64 n)).run Try.prog w = .ok (.slice (some ⟨w.heap.size, 0, none⟩) n n) (w.alloc (.cells (zeros n) 84)) := by
  obtain ⟨i, z, h1, h2, h3, h4, h5⟩ := setInfo
  have := run_makeSlice (P := Try.prog) w 80 84 i z Try.underlying80 h1 h2 .i64 .i64 n n (by omega) (by omega) (by rw [h4]; omega) (by rw [h5]; omega) (by omega)
  rw [this, h3, h4]
  rfl
theorem new_came (w : World) (isn : Int) (n : Nat) (hn : 1 ≤ n ∧ n ≤ 65536) (hi : 0 ≤ isn ∧ isn < 4294967296) (t : TypeId) :
    CameAt ((w.alloc (.cells (zeros n) 84)).alloc (.cells #[.int .u32 isn, .slice (some ⟨w.heap.size, 0, none⟩) n n] t)) (w.heap.size + 1) w.heap.size n isn n (fun _ _ => false) := by
  have hz : (w.alloc (.cells (zeros n) 84)).heap.size = w.heap.size + 1 := World.size_alloc _ _
  generalize hW : w.alloc (.cells (zeros n) 84) = W at *
  have hg : W.heap[w.heap.size]? = some (.cells (zeros n) 84) := by rw [← hW]; exact heap_alloc_new w _
  have hX : (W.alloc (.cells #[.int .u32 isn, .slice (some ⟨w.heap.size, 0, none⟩) n n] t)).heap[w.heap.size]? = some (.cells (zeros n) 84) := (heap_alloc_old W _ (by omega)).trans hg
  refine ⟨?_, ?_, fun i j hi hj => ?_, fun i j hi hj => ?_, by omega, hn, ⟨Nat.le_refl _, by omega⟩, hi⟩
  · rw [← hz, World.cell?_alloc_new]; rfl
  · rw [← hz, World.cell?_alloc_new]; rfl
  · rw [cell_of_row _ w.heap.size (i * 4 + j) (zeros n) 84 (0, 0) hX, zeros_get n _ (by omega), wd_none]; rfl
  · unfold World.frozen?; simp only [hX]; simp
def NewP (isn : Int) (n : Nat) (w : World) (e : Ending) (w' : World) : Prop :=
  ∃ X g, e = .returned (.pointer (some ⟨X, 0, none⟩)) ∧ CameAt w' X g n isn n (fun _ _ => false) ∧ w.heap.size ≤ X ∧ w.heap.size ≤ g ∧ Gw w w'
theorem newBad (isn most : Int) (h : most < 1 ∨ 65536 < most) (w : World) : Calls Try.prog 28 #[.int .u32 isn, .int .i64 most] w fun e w' => e = .returned (.pointer none) ∧ w = w' := by
  by_cases h1 : most < 1
  · go_enter Try.func28, Try.ntmps28
    go_wp2
    go_ret
    exact ⟨rfl, rfl⟩
  · have h2 : 65536 < most := by omega
    clear h
    go_enter Try.func28, Try.ntmps28
    go_wp2
    go_ret
    exact ⟨rfl, rfl⟩
theorem new_ (isn : Int) (n : Nat) (hn : 1 ≤ n ∧ n ≤ 65536) (hi : 0 ≤ isn ∧ isn < 4294967296) (w : World) : Calls Try.prog 28 #[.int .u32 isn, .int .i64 n] w (NewP isn n w) := by
  have h1 : ¬ (n : Int) < 1 := by omega
  have h2 : ¬ 65536 < (n : Int) := by omega
  have hmk := make_sets n hn.2
  go_enter Try.func28, Try.ntmps28
  go_wp2
  go_ret
  refine ⟨w.heap.size + 1, w.heap.size, ?_, new_came w isn n hn hi _, by omega, Nat.le_refl _, gw_trans (gw_alloc1 _ _) (gw_alloc1 _ _)⟩
  rfl

/-- A row of bytes that may be written. -/
def Buf (W : World) (B : Nat) (l : List UInt8) : Prop :=
  B < W.heap.size ∧ ∀ j, (h : j < l.length) → W.cell? ⟨B, j, none⟩ = some (.int .u8 (l[j].toNat : Int)) ∧ W.frozen? ⟨B, j, none⟩ = false
theorem Buf.keep {W W' : World} {B : Nat} {l : List UInt8} (h : Buf W B l) (hs : W.heap.size ≤ W'.heap.size) (hb : W'.heap[B]? = W.heap[B]?) : Buf W' B l :=
  ⟨Nat.lt_of_lt_of_le h.1 hs, fun j hj => ⟨cell_blk (p := ⟨B, j, none⟩) hb (h.2 j hj).1, frozen_blk (p := ⟨B, j, none⟩) hb (h.2 j hj).2⟩⟩
theorem Buf.gw {W W' : World} {B : Nat} {l : List UInt8} (h : Buf W B l) (hg : Gw W W') : Buf W' B l := h.keep hg.size (hg.block B h.1 (fun h => h))
theorem Buf.set {W : World} {B : Nat} {l : List UInt8} (h : Buf W B l) {k : Nat} (hk : k < l.length) (c : UInt8) : Buf (W.setCell ⟨B, k, none⟩ (.int .u8 (c.toNat : Int))) B (l.set k c) := by
  refine ⟨by simp [World.setCell]; exact h.1, fun j hj => ?_⟩
  have hj' : j < l.length := by simpa using hj
  refine ⟨?_, by rw [World.frozen?_setCell]; exact (h.2 j hj').2⟩
  by_cases e : j = k
  · subst e
    rw [World.cell?_setCell_same' _ _ _ (by rw [(h.2 j hj').1]; rfl)]; simp
  · have e2 : (l.set k c)[j] = l[j] := by rw [List.getElem_set_ne (Ne.symm e)]
    rw [e2]
    have := (h.2 j hj').1
    refine (World.cell?_setCell_other W ⟨B, k, none⟩ ⟨B, j, none⟩ _ ?_).trans this
    intro h; injection h with _ h2; exact e h2.symm
/-- What '[]byte(s)' lays is a row of bytes. -/
theorem buf_new (w : World) (s : ByteArray) (cap : Nat) : Buf (w.drew.alloc (.cells (bytesRow s cap) 5 ((bytesRow s cap).size, (bytesRow s cap).size + 1))) w.heap.size s.data.toList := by
  refine ⟨by simp, fun j hj => ⟨?_, ?_⟩⟩
  · have := World.cell?_alloc_mark w.drew (bytesRow s cap) 5 ((bytesRow s cap).size, (bytesRow s cap).size + 1) j
    refine this.trans ?_
    have hj2 : j < s.data.size := by simpa using hj
    unfold bytesRow
    rw [Array.getElem?_append_left (by simpa using hj2)]
    rw [Array.getElem?_eq_getElem (by simpa using hj2)]; simp
  · have hj2 : j < s.data.size := by simpa using hj
    have hz : j < (bytesRow s cap).size := by
      have : s.data.size ≤ (bytesRow s cap).size := by unfold bytesRow; simp
      omega
    have : (w.drew.alloc (.cells (bytesRow s cap) 5 ((bytesRow s cap).size, (bytesRow s cap).size + 1))).heap[w.heap.size]? = some (.cells (bytesRow s cap) 5 ((bytesRow s cap).size, (bytesRow s cap).size + 1)) := by
      show (w.heap.push _)[w.heap.size]? = _
      simp
    unfold World.frozen?
    rw [this]
    simp; omega
/-- A row of bytes taken as a string. -/
theorem buf_str {W : World} {B n : Nat} {l : List UInt8} (h : Buf W B l) (hn : l.length = n) (c : Nat) : (convert 53 9 (.slice (some ⟨B, 0, none⟩) n c)).run Try.prog W = .ok (.string ⟨l.toArray⟩) W := by
  subst hn
  exact run_convert_bytes_back W 53 9 5 ⟨B, 0, none⟩ c l Try.underlying53 Try.underlying5 Try.underlying9 (fun j hj => by
    have := (h.2 j hj).1
    have e : (⟨B, 0, none⟩ : Addr).add j = ⟨B, j, none⟩ := by
      unfold Addr.add; split
      · rename_i h; subst h; rfl
      · simp
    rw [e]; exact this)
end Go.Proofs.Ytmjajepdlopkiaa.Sh
