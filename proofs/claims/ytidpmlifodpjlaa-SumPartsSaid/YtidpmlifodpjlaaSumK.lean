/- Plain facts for SumTurn and SumParts: words that are turned, and that change places. -/
import Derived.Test.YtidpmlifodpjlaaSumI
namespace Go.Proofs.Ytidpmlifodpjlaa.Sm
open Go.RowKit
set_option linter.unusedVariables false

/-- A row of bytes of which a word is another one. -/
def setw (l : List UInt8) (k : Nat) (c d : UInt8) : List UInt8 := (l.set (2 * k) c).set (2 * k + 1) d
theorem setw_length (l : List UInt8) (k : Nat) (c d : UInt8) : (setw l k c d).length = l.length := by simp [setw]
def wordAt (l : List UInt8) (k : Nat) : Int := ((l.getD (2 * k) 0).toNat : Int) * 256 + (l.getD (2 * k + 1) 0).toNat
theorem wordAt_range (l : List UInt8) (k : Nat) : 0 ≤ wordAt l k ∧ wordAt l k ≤ 65535 := by
  have := (l.getD (2 * k) 0).toNat_lt; have := (l.getD (2 * k + 1) 0).toNat_lt
  unfold wordAt; omega
theorem wsum_setw (l : List UInt8) (k : Nat) (h : 2 * k + 1 < l.length) (c d : UInt8) : wsum (setw l k c d) = wsum l - wordAt l k + ((c.toNat : Int) * 256 + d.toNat) := by
  unfold setw
  rw [wsum_set _ (2 * k + 1) (by simpa using h) d, wsum_set l (2 * k) (by omega) c]
  have e1 : (l.set (2 * k) c)[2 * k + 1]'(by simpa using h) = l[2 * k + 1] := by rw [List.getElem_set_ne (by omega)]
  rw [e1]
  have e2 : l.getD (2 * k) 0 = l[2 * k] := by rw [List.getD_eq_getElem?_getD, List.getElem?_eq_getElem (by omega)]; rfl
  have e3 : l.getD (2 * k + 1) 0 = l[2 * k + 1] := by rw [List.getD_eq_getElem?_getD, List.getElem?_eq_getElem (by omega)]; rfl
  unfold wordAt
  rw [e2, e3, if_pos (by omega), if_neg (by omega)]
  omega
theorem bytes_of (x : Int) (h0 : 0 ≤ x) (h1 : x < 256) : ∃ c : UInt8, x = (c.toNat : Int) := by
  refine ⟨UInt8.ofNat x.toNat, ?_⟩
  rw [UInt8.toNat_ofNat']; omega
/-- Who turns a word of a sum has the sum anew. -/
theorem turn_word (l : List UInt8) (k : Nat) (h : 2 * k + 1 < l.length) (c d : UInt8) (hl : l.length ≤ 100000000) :
    (Tn (Sm l) (wordAt l k) ((c.toNat : Int) * 256 + d.toNat) % 65535 == Sm (setw l k c d) % 65535) = true := by
  rw [sm_mod _ (by rw [setw_length]; exact hl), wsum_setw l k h]
  have := sm_mod l hl
  rw [beq_iff_eq]
  unfold Tn
  rw [Fo_mod]
  omega
theorem sm_fo (l : List UInt8) (hl : l.length ≤ 100000000) : Sm l = Fo (wsum l) := by
  have := wsum_range l
  unfold Sm; rw [Int.emod_eq_of_lt (by omega) (by omega)]
/-- A text with its complement in it is whole. -/
theorem whole_word (l : List UInt8) (k : Nat) (h : 2 * k + 1 < l.length) (c d : UInt8) (hl : l.length ≤ 100000000) (h0 : wordAt l k = 0) (hc : 65535 - Sm l = (c.toNat : Int) * 256 + d.toNat) :
    (Sm (setw l k c d) == 65535) = true := by
  rw [sm_fo _ (by rw [setw_length]; exact hl), wsum_setw l k h, h0, ← hc, sm_fo l hl]
  have := wsum_range l
  rw [beq_iff_eq]
  unfold Fo
  split <;> split <;> omega
theorem wordAt_setw (l : List UInt8) (k : Nat) (h : 2 * k + 1 < l.length) (c d : UInt8) : wordAt (setw l k c d) k = (c.toNat : Int) * 256 + d.toNat := by
  unfold wordAt setw
  have e2 : ((l.set (2 * k) c).set (2 * k + 1) d).getD (2 * k) 0 = c := by
    rw [List.getD_eq_getElem?_getD, List.getElem?_set_ne (by omega), List.getElem?_set_self (by omega)]; rfl
  have e3 : ((l.set (2 * k) c).set (2 * k + 1) d).getD (2 * k + 1) 0 = d := by
    rw [List.getD_eq_getElem?_getD, List.getElem?_set_self (by simpa using h)]; rfl
  rw [e2, e3]
theorem setw_setw (l : List UInt8) (k : Nat) (c d c' d' : UInt8) : setw (setw l k c d) k c' d' = setw l k c' d' := by
  unfold setw
  apply List.ext_getElem?
  intro i
  simp only [List.getElem?_set, List.length_set]
  split <;> split <;> simp_all <;> (try omega)

theorem uncons {l : List Value} {n : Nat} (h : l.length = n + 1) : ∃ v l', l = v :: l' ∧ l'.length = n := by
  cases l with
  | nil => simp at h
  | cons v l => exact ⟨v, l, rfl, by simpa using h⟩
theorem Buf.at {W : World} {B : Nat} {l : List UInt8} (h : Buf W B l) (k : Nat) (hk : k < l.length) : ∃ x : Int, W.cell? ⟨B, k, none⟩ = some (.int .u8 x) ∧ W.frozen? ⟨B, k, none⟩ = false := ⟨_, h.2 k hk⟩
theorem Buf.set0 {W : World} {B : Nat} {l : List UInt8} (h : Buf W B l) {k : Nat} (hk : k < l.length) : Buf (W.setCell ⟨B, k, none⟩ (.int .u8 0)) B (l.set k 0) := Buf.set h hk 0
theorem Buf.setw {W : World} {B : Nat} {l : List UInt8} (h : Buf W B l) {k : Nat} (hk : 2 * k + 1 < l.length) (c d : UInt8) : Buf ((W.setCell ⟨B, 2 * k, none⟩ (.int .u8 (c.toNat : Int))).setCell ⟨B, 2 * k + 1, none⟩ (.int .u8 (d.toNat : Int))) B (setw l k c d) :=
  (Buf.set h (by omega) c).set (by simpa using hk) d
theorem Buf.setw0 {W : World} {B : Nat} {l : List UInt8} (h : Buf W B l) {k : Nat} (hk : 2 * k + 1 < l.length) : Buf ((W.setCell ⟨B, 2 * k, none⟩ (.int .u8 0)).setCell ⟨B, 2 * k + 1, none⟩ (.int .u8 0)) B (Sm.setw l k 0 0) := Buf.setw h hk 0 0
theorem below_set2 {B : Nat} {w W : World} (h : Below B w W) (i j : Nat) (u v : Value) : Below B w ((W.setCell ⟨B, i, none⟩ u).setCell ⟨B, j, none⟩ v) :=
  (h.setCell (p := ⟨B, i, none⟩) (Nat.le_refl _) _).setCell (p := ⟨B, j, none⟩) (Nat.le_refl _) _
/-- Below B, then whatever makes memory alone. -/
theorem below_gw {B : Nat} {w W W' : World} (h : Below B w W) (hs : B ≤ W.heap.size) (hg : Gw W W') : Below B w W' := h.trans (Below.mono hg hs)
end Go.Proofs.Ytidpmlifodpjlaa.Sm
