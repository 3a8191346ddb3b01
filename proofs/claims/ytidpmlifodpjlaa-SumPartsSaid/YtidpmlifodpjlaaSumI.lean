/- Rows of bytes that may be written; what a turned byte does to a sum. -/
import Derived.Test.YtidpmlifodpjlaaSumE
import Derived.Laws.IdiomStrings
import Derived.Deep.RegionWith
import Derived.Deep.RegionHeld3
import Derived.Deep.QuietTactic
import Derived.BigQuiet
namespace Go.Proofs.Ytidpmlifodpjlaa.Sm
open Go.RowKit
set_option linter.unusedVariables false

/-- A row of bytes that may be written. -/
def Buf (W : World) (B : Nat) (l : List UInt8) : Prop :=
  B < W.heap.size ∧ ∀ j, (h : j < l.length) → W.cell? ⟨B, j, none⟩ = some (.int .u8 (l[j].toNat : Int)) ∧ W.frozen? ⟨B, j, none⟩ = false
theorem Buf.gw {W W' : World} {B : Nat} {l : List UInt8} (h : Buf W B l) (hg : Gw W W') : Buf W' B l :=
  ⟨Nat.lt_of_lt_of_le h.1 hg.size, fun j hj => ⟨(Below.cell hg (p := ⟨B, j, none⟩) h.1).trans (h.2 j hj).1, (Below.frozen hg (p := ⟨B, j, none⟩) h.1).trans (h.2 j hj).2⟩⟩
theorem Buf.set {W : World} {B : Nat} {l : List UInt8} (h : Buf W B l) {k : Nat} (hk : k < l.length) (c : UInt8) : Buf (W.setCell ⟨B, k, none⟩ (.int .u8 (c.toNat : Int))) B (l.set k c) := by
  refine ⟨by simp [World.setCell]; exact h.1, fun j hj => ?_⟩
  have hj' : j < l.length := by simpa using hj
  refine ⟨?_, by rw [World.frozen?_setCell]; exact (h.2 j hj').2⟩
  by_cases e : j = k
  · subst e
    rw [World.cell?_setCell_same' _ _ _ (by rw [(h.2 j hj').1]; rfl)]; simp
  · have e2 : (l.set k c)[j] = l[j] := by rw [List.getElem_set_ne (Ne.symm e)]
    rw [e2]
    have := (h.2 j hj').1
    refine (World.cell?_setCell_other W ⟨B, k, none⟩ ⟨B, j, none⟩ _ ?_).trans this
    intro h; injection h with _ h2; exact e h2.symm

/-- What '[]byte(s)' lays is a row of bytes. -/
theorem buf_new (w : World) (s : ByteArray) (cap : Nat) : Buf (w.drew.alloc (.cells (bytesRow s cap) 5 ((bytesRow s cap).size, (bytesRow s cap).size + 1))) w.heap.size s.data.toList := by
  refine ⟨by simp, fun j hj => ⟨?_, ?_⟩⟩
  · have := World.cell?_alloc_mark w.drew (bytesRow s cap) 5 ((bytesRow s cap).size, (bytesRow s cap).size + 1) j
    refine this.trans ?_
    have hj2 : j < s.data.size := by simpa using hj
    unfold bytesRow
    rw [Array.getElem?_append_left (by simpa using hj2)]
    rw [Array.getElem?_eq_getElem (by simpa using hj2)]; simp
  · have hj2 : j < s.data.size := by simpa using hj
    have hz : j < (bytesRow s cap).size := by
      have : s.data.size ≤ (bytesRow s cap).size := by unfold bytesRow; simp
      omega
    have : (w.drew.alloc (.cells (bytesRow s cap) 5 ((bytesRow s cap).size, (bytesRow s cap).size + 1))).heap[w.heap.size]? = some (.cells (bytesRow s cap) 5 ((bytesRow s cap).size, (bytesRow s cap).size + 1)) := by
      show (w.heap.push _)[w.heap.size]? = _
      simp
    unfold World.frozen?
    rw [this]
    simp; omega

/-- A row of bytes taken as a string. -/
theorem buf_string {W : World} {B : Nat} {l : List UInt8} (h : Buf W B l) (c : Nat) : (convert 38 9 (.slice (some ⟨B, 0, none⟩) l.length c)).run Try.prog W = .ok (.string ⟨l.toArray⟩) W :=
  run_convert_bytes_back W 38 9 5 ⟨B, 0, none⟩ c l Try.underlying38 Try.underlying5 Try.underlying9 (fun j hj => by
    have := (h.2 j hj).1
    have e : (⟨B, 0, none⟩ : Addr).add j = ⟨B, j, none⟩ := by
      unfold Addr.add; split
      · rename_i h; subst h; rfl
      · simp
    rw [e]; exact this)


theorem buf_str {W : World} {B n : Nat} {l : List UInt8} (h : Buf W B l) (hn : l.length = n) (c : Nat) : (convert 38 9 (.slice (some ⟨B, 0, none⟩) n c)).run Try.prog W = .ok (.string ⟨l.toArray⟩) W := by
  subst hn; exact buf_string h c

theorem cell_gw {W W' : World} {p : Addr} {v : Value} (hb : Gw W W') (h : W.cell? p = some v) : W'.cell? p = some v := Below.cell_old hb h
theorem cell_drew {W : World} {p : Addr} {v : Value} (h : W.cell? p = some v) : W.drew.cell? p = some v := h
theorem cell_new_at {W : World} {b : Nat} {v : Value} {t : TypeId} (h : W.heap.size = b) : (W.alloc (.cells #[v] t)).cell? ⟨b, 0, none⟩ = some v := by
  subst h; exact (cell_new_l W v t).1
theorem gw_size {W W' : World} {b : Nat} (hb : Gw W W') (h : b < W.heap.size) : b < W'.heap.size := Nat.lt_of_lt_of_le h hb.size
theorem gw_drew_iff {a b : World} : Gw a b.drew ↔ Gw a b := ⟨fun h => ⟨h.os, h.tape, h.output, h.size, h.block⟩, Gw.drew⟩
theorem gw_alloc1 (a : World) (o : Obj) : Gw a (a.alloc o) := (Gw.refl a).alloc o
theorem gw_alloc2 (a : World) (o o' : Obj) : Gw a ((a.alloc o).alloc o') := (gw_alloc1 a o).alloc o'
theorem gw_alloc2d (a : World) (o o' : Obj) : Gw a ((a.alloc o).drew.alloc o') := (gw_alloc1 a o).drew.alloc o'
theorem gw_alloc1d (a : World) (o : Obj) : Gw a (a.drew.alloc o) := (Gw.refl a).drew.alloc o

theorem wsum_range (l : List UInt8) : 0 ≤ wsum l ∧ wsum l ≤ 65536 * l.length := by
  match l with
  | [] => simp [wsum]
  | [a] => have := a.toNat_lt; simp [wsum]; omega
  | a :: b :: r =>
    have := a.toNat_lt; have := b.toNat_lt
    have := wsum_range r
    simp only [wsum, List.length_cons]; omega
theorem Fo_mod {n : Int} : Fo n % 65535 = n % 65535 := by unfold Fo; split <;> omega
theorem wsum_set (l : List UInt8) (k : Nat) (h : k < l.length) (c : UInt8) : wsum (l.set k c) = wsum l + ((c.toNat : Int) - l[k].toNat) * (if k % 2 = 0 then 256 else 1) := by
  match l, k with
  | [], _ => simp at h
  | [a], 0 => simp [wsum]; omega
  | [a], k + 1 => simp at h
  | a :: b :: r, 0 => simp [wsum]; omega
  | a :: b :: r, 1 => simp [wsum]; omega
  | a :: b :: r, k + 2 =>
    have := wsum_set r k (by simpa using h) c
    have e : (k + 2) % 2 = k % 2 := by omega
    simp only [List.set_cons_succ, wsum, this, List.getElem_cons_succ, e]; omega
theorem sm_mod (l : List UInt8) (hl : l.length ≤ 100000000) : Sm l % 65535 = wsum l % 65535 := by
  have := wsum_range l
  unfold Sm; rw [Fo_mod]; omega
/-- Who turns one byte has another sum. -/
theorem sm_ne (l : List UInt8) (k : Nat) (h : k < l.length) (c : UInt8) (hc : c ≠ l[k]) (hl : l.length ≤ 100000000) : (Sm l % 65535 == Sm (l.set k c) % 65535) = false := by
  rw [sm_mod l hl, sm_mod _ (by simpa using hl), wsum_set l k h c]
  have h1 := c.toNat_lt
  have h2 := l[k].toNat_lt
  have h3 : c.toNat ≠ l[k].toNat := fun e => hc (UInt8.toNat_inj.1 e)
  rw [beq_eq_false_iff_ne]
  split <;> omega
theorem xor_byte (a : UInt8) (b : Int) (h0 : 1 ≤ b) (h1 : b ≤ 255) : ∃ c : UInt8, bits .xor .u8 (a.toNat : Int) b = (c.toNat : Int) ∧ c ≠ a := by
  obtain ⟨n, rfl⟩ := Int.eq_ofNat_of_zero_le (a := b) (by omega)
  have ha := a.toNat_lt
  have hx : a.toNat ^^^ n < 2 ^ 8 := Nat.xor_lt_two_pow ha (by omega)
  refine ⟨UInt8.ofNat (a.toNat ^^^ n), ?_, ?_⟩
  · show bits .xor .u8 (a.toNat : Int) (n : Int) = _
    rw [u8_xor_nat _ _ (by omega) (by omega), UInt8.toNat_ofNat']; omega
  · intro e
    have e2 := congrArg UInt8.toNat e
    rw [UInt8.toNat_ofNat', Nat.mod_eq_of_lt (by omega)] at e2
    have : n = 0 := by
      have := congrArg (a.toNat ^^^ ·) e2
      simpa [← Nat.xor_assoc] using this
    omega
end Go.Proofs.Ytidpmlifodpjlaa.Sm
