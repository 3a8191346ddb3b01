/- cut; parts of a stream that lie in memory; seg. -/
import Derived.Test.YtmjajepdlopkiaaShI
namespace Go.Proofs.Ytmjajepdlopkiaa.Sh
open Go.RowKit
set_option linter.unusedVariables false
set_option linter.unusedSimpArgs false

/-- A part of a stream. -/
structure Pt where
  fr : Nat
  lg : Nat
  wh : Nat
  by' : Nat
structure Pt.Ok (p : Pt) : Prop where
  fr : p.fr < 65536
  lg : p.lg < 65536
  wh : p.wh < 256
  by' : p.by' < 256
def PartAt (w : World) (g o : Nat) (p : Pt) : Prop :=
  w.cell? ⟨g, o, none⟩ = some (.int .u16 p.fr) ∧ w.cell? ⟨g, o + 1, none⟩ = some (.int .u16 p.lg) ∧ w.cell? ⟨g, o + 2, none⟩ = some (.int .u8 p.wh) ∧ w.cell? ⟨g, o + 3, none⟩ = some (.int .u8 p.by')
/-- Parts that lie in memory. -/
def Parts (w : World) (A : Option Addr) (n C : Nat) (l : List Pt) : Prop :=
  l.length = n ∧ n ≤ C ∧ C ≤ 9223372036854775807 ∧ (A = none → n = 0 ∧ C = 0) ∧ (n = 0 ∨ ∃ g off, A = some ⟨g, off, none⟩ ∧ g < w.heap.size ∧ ∀ i, (h : i < l.length) → PartAt w g (off + i * 4) l[i] ∧ l[i].Ok)
theorem PartAt.blk {w w' : World} {g o : Nat} {p : Pt} (hb : w'.heap[g]? = w.heap[g]?) (h : PartAt w g o p) : PartAt w' g o p :=
  ⟨cell_blk (p := ⟨g, o, none⟩) hb h.1, cell_blk (p := ⟨g, o + 1, none⟩) hb h.2.1, cell_blk (p := ⟨g, o + 2, none⟩) hb h.2.2.1, cell_blk (p := ⟨g, o + 3, none⟩) hb h.2.2.2⟩
theorem Parts.gw {w w' : World} {A : Option Addr} {n C : Nat} {l : List Pt} (hg : Gw w w') (h : Parts w A n C l) : Parts w' A n C l :=
  ⟨h.1, h.2.1, h.2.2.1, h.2.2.2.1, h.2.2.2.2.imp id fun ⟨g, off, e, hl, hc⟩ => ⟨g, off, e, Nat.lt_of_lt_of_le hl hg.size, fun i hi => ⟨(hc i hi).1.blk (hg.block g hl (fun h => h)), (hc i hi).2⟩⟩⟩
theorem Parts.take {w : World} {A : Option Addr} {n C : Nat} {l : List Pt} (h : Parts w A n C l) (m : Nat) (hm : m ≤ n) : Parts w A m C (l.take m) :=
  ⟨by rw [List.length_take, h.1]; omega, by have := h.2.1; omega, h.2.2.1, fun e => ⟨by have := (h.2.2.2.1 e).1; omega, (h.2.2.2.1 e).2⟩, h.2.2.2.2.imp (fun e => by omega) fun ⟨g, off, e, hl, hc⟩ => ⟨g, off, e, hl, fun i hi => by
    rw [List.getElem_take]; exact hc i (by rw [List.length_take] at hi; omega)⟩⟩
def CutP (A : Option Addr) (n C : Nat) (w : World) (e : Ending) (w' : World) : Prop :=
  ∃ (s : ByteArray) (m : Nat), e = .returned (.tuple #[.string s, .slice A m C]) ∧ s.size ≤ 300 ∧ m ≤ 40 ∧ m ≤ n ∧ Gw w w'
theorem slice40 (A : Option Addr) (n C m : Nat) (hm : m ≤ n) (hn : n ≤ C) (hC : C ≤ 9223372036854775807) (hA : A = none → n = 0 ∧ C = 0) (V : World) :
    (Instr.slice 40 (.slice A n C) none (some (.int .i64 m)) none).run Try.prog V = .ok (.slice A m C) V := by
  cases A with
  | none =>
    obtain ⟨rfl, rfl⟩ := hA rfl
    obtain rfl : m = 0 := by omega
    kernel_rfl
  | some a =>
    have g1 : (0 : Int) ≤ (m : Int) := by omega
    have g2 : ¬ (C : Int) < m := by omega
    have g3 : (m : Int) ≤ C := by omega
    go_simp
set_option maxHeartbeats 1000000 in
theorem cut_ (s : ByteArray) (A : Option Addr) (n C : Nat) (hs : s.size ≤ 9223372036854775807) (hn : n ≤ C) (hC : C ≤ 9223372036854775807) (hA : A = none → n = 0 ∧ C = 0) (w : World) :
    Calls Try.prog 27 #[.string s, .slice A n C] w (CutP A n C w) := by
  have hmn : ∃ m : Nat, (if 40 < (n : Int) then (40 : Int) else n) = m ∧ m ≤ 40 ∧ m ≤ n := by
    by_cases h : 40 < (n : Int)
    · exact ⟨40, by rw [if_pos h]; rfl, by omega, by omega⟩
    · exact ⟨n, by rw [if_neg h], by omega, by omega⟩
  have hmk : ∃ k : Nat, (if 300 < (s.size : Int) then (300 : Int) else s.size) = k ∧ k ≤ 300 ∧ k ≤ s.size := by
    by_cases h : 300 < (s.size : Int)
    · exact ⟨300, by rw [if_pos h]; rfl, by omega, by omega⟩
    · exact ⟨s.size, by rw [if_neg h], by omega, by omega⟩
  obtain ⟨m, hm, hm1, hm2⟩ := hmn
  obtain ⟨k, hk, hk1, hk2⟩ := hmk
  have hsl := slice40 A n C m hm2 hn hC hA
  have z1 : (k : Int) ≤ s.size := by omega
  have z2 : ¬ (s.size : Int) < k := by omega
  have HA := Lib.hid hA
  clear hA
  go_enter Try.func27, Try.ntmps27
  go_wp2_with fail
  go_quiet (fail)
  go_wp2_with fail
  go_ret2
  refine ⟨s.extract 0 k, m, ?_, by rw [ByteArray.size_extract]; omega, hm1, hm2, gw_drewN (Fr.refl _ _) _⟩
  rfl
end Go.Proofs.Ytmjajepdlopkiaa.Sh
