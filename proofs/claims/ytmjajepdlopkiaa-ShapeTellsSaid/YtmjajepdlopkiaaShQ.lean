/- cut, with what is left; a text copied into a row of bytes. -/
import Derived.Test.YtmjajepdlopkiaaShO
import Derived.Laws.IdiomCopy
import Derived.Lib.AppendStr
import Derived.Deep.RegionLaw
namespace Go.Proofs.Ytmjajepdlopkiaa.Sh
open Go.RowKit
set_option linter.unusedVariables false
set_option linter.unusedSimpArgs false

def CutS (b : Nat) (A : Option Addr) (n C : Nat) (w : World) (e : Ending) (w' : World) : Prop :=
  ∃ (s : ByteArray) (m : Nat), e = .returned (.tuple #[.string s, .slice A m C]) ∧ s.size ≤ 300 ∧ (1 ≤ b → 1 ≤ s.size) ∧ m ≤ 40 ∧ m ≤ n ∧ Gw w w'
set_option maxHeartbeats 1000000 in
theorem cutS (s : ByteArray) (A : Option Addr) (n C : Nat) (hs : s.size ≤ 9223372036854775807) (hn : n ≤ C) (hC : C ≤ 9223372036854775807) (hA : A = none → n = 0 ∧ C = 0) (w : World) :
    Calls Try.prog 27 #[.string s, .slice A n C] w (CutS s.size A n C w) := by
  have hmn : ∃ m : Nat, (if 40 < (n : Int) then (40 : Int) else n) = m ∧ m ≤ 40 ∧ m ≤ n := by
    by_cases h : 40 < (n : Int)
    · exact ⟨40, by rw [if_pos h]; rfl, by omega, by omega⟩
    · exact ⟨n, by rw [if_neg h], by omega, by omega⟩
  have hmk : ∃ k : Nat, (if 300 < (s.size : Int) then (300 : Int) else s.size) = k ∧ k ≤ 300 ∧ k ≤ s.size ∧ (1 ≤ s.size → 1 ≤ k) := by
    by_cases h : 300 < (s.size : Int)
    · exact ⟨300, by rw [if_pos h]; rfl, by omega, by omega, by omega⟩
    · exact ⟨s.size, by rw [if_neg h], by omega, by omega, by omega⟩
  obtain ⟨m, hm, hm1, hm2⟩ := hmn
  obtain ⟨k, hk, hk1, hk2, hk3⟩ := hmk
  have hsl := slice40 A n C m hm2 hn hC hA
  have z1 : (k : Int) ≤ s.size := by omega
  have z2 : ¬ (s.size : Int) < k := by omega
  have HA := Lib.hid hA
  have HK := Lib.hid hk3
  clear hA hk3
  go_enter Try.func27, Try.ntmps27
  go_wp2_with fail
  go_quiet (fail)
  go_wp2_with fail
  go_ret2
  refine ⟨s.extract 0 k, m, ?_, by rw [ByteArray.size_extract]; omega, fun h => by have := HK.out h; rw [ByteArray.size_extract]; omega, hm1, hm2, gw_drewN (Fr.refl _ _) _⟩
  rfl
theorem buf_lay (d : List UInt8) : ∀ {W : World} {B : Nat} {l : List UInt8} (o : Nat), Buf W B l → o + d.length ≤ l.length → Buf (W.setCells B o (d.map fun c => Value.int .u8 (c.toNat : Int))) B (lay l o d) := by
  induction d with
  | nil => intro W B l o h _; exact h
  | cons c r ih =>
    intro W B l o h ho
    simp only [List.length_cons] at ho
    exact ih (o + 1) (h.set (by omega) c) (by rw [List.length_set]; omega)
theorem run_copy_str {W : World} {B o n cap : Nat} {l : List UInt8} (hb : Buf W B l) (d : ByteArray) (hd : d.size ≤ n) (ho : o + d.size ≤ l.length) (ty : TypeId) :
    (Builtin.copy_ #[53, 9] ty #[.slice (some ⟨B, o, none⟩) n cap, .string d]).run Try.prog W = .ok (.int .i64 d.size) (W.setCells B o (d.data.toList.map fun c => Value.int .u8 (c.toNat : Int))) := by
  have h1 : (Builtin.firstCells 1 d.size (.string d)).run Try.prog W = .ok (d.data.map fun c => Value.int .u8 (c.toNat : Int)) W := by
    simp [Builtin.firstCells]
  have h2 : Nat.min d.size n = d.size := Nat.min_eq_left hd
  have hl : d.data.toList.length = d.size := Array.length_toList
  have h3 := run_storeCells_cells (P := Try.prog) B o (d.data.toList.map fun c => Value.int .u8 (c.toNat : Int)) 0 W
    (fun j hj => by rw [List.length_map, hl] at hj; rw [Nat.add_zero, (hb.2 (o + j) (by omega)).1]; rfl) (fun j hj => by rw [List.length_map, hl] at hj; rw [Nat.add_zero]; exact (hb.2 (o + j) (by omega)).2)
    (fun v hv => by obtain ⟨c, _, rfl⟩ := List.mem_map.1 hv; rfl)
  have h4 : (sizeOf 5).run Try.prog W = .ok 1 W := by kernel_rfl
  have h5 : (Builtin.lenOf (.string d)).run Try.prog W = .ok d.size W := rfl
  have h6 : (underlying 53).run Try.prog W = .ok (.slice 5) W := run_underlying (P := Try.prog) Try.underlying53 W
  unfold Builtin.copy_
  simp only [List.getElem?_toArray, List.getElem?_cons_zero, List.getElem?_cons_succ, Sem.run_bind, h6, Result.andThen_ok, h5, h4, h2, h1, Array.toList_map, h3, Sem.run_pure, Nat.add_zero]
  rfl
/-- A copy of a text, at a step of a region that draws its order. -/
theorem step_copy {ops : Array Oper} {o : Oper} {a : Act} {K : Act → World → Prop} {Q : Exit → Act → World → Prop} {E : Prop} {w : World} (hgd : o.guard = none) (s x : Operand)
    (ho : o.op = .call { callee := .builtin .copy, args := #[s, x], argTypes := #[53, 9] }) (v y : Value) (hs : a.eval s = v) (hx : a.eval x = y) (R : Value → World → Prop)
    (hr : ∃ v' w', (Builtin.copy_ #[53, 9] o.type #[v, y]).run Try.prog w = .ok v' w' ∧ R v' w') (h : ∀ v' w', R v' w' → K (a.put o.dst v') w') :
    if Region.wanted o (yielded ops a.tmps) = true then Oper.wp Try.prog o a w K Q else E := by
  have hw : Region.wanted o (yielded ops a.tmps) = true := by simp [Region.wanted, hgd]
  rw [if_pos hw]
  obtain ⟨v', w', hr, hR⟩ := hr
  unfold Oper.wp execOp
  simp only [ho, resolve, invoke, builtin, Sem.run_bind, Sem.run_pure, Result.andThen_ok, List.map_toArray, List.map_cons, List.map_nil, hs, hx, hr]
  exact h v' w' hR
end Go.Proofs.Ytmjajepdlopkiaa.Sh
