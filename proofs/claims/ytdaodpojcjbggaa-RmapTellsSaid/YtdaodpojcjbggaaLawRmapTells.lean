/- RmapTells holds: of all rooms and acts the law returns true and its arguments read as they did. -/
import Derived.Test.YtdaodpojcjbggaaRows
import Derived.WalkKit
import Derived.ProofKit
import Derived.OpenShut
import Derived.ShutString
import Derived.ChangeOld
import Derived.Below
import Derived.Deep.Slices
import Derived.Deep.Fields
import Derived.ChangeSame
import Derived.Test.YtdaodpojcjbggaaRmAA
namespace Go.Proofs.Ytdaodpojcjbggaa.rmapTells
open Go.ChangeShapes Go.WideShapes Go.ChangeAt Go.RowKit
open Go.ChangeMaps (open_string shut_string)
set_option linter.unusedVariables false

theorem toBelow {f : Nat} {args : Array Value} {w : World} (h : Calls Try.prog f args w fun e w' => e = .returned (.bool true) ∧ Ln.Gw w w') : Calls Try.prog f args w fun e w' => e = .returned (.bool true) ∧ Below w.heap.size w w' :=
  h.mono fun e w' h => ⟨h.1, Ln.Fr.below h.2 (fun _ h => h.elim) (Nat.le_refl _)⟩
theorem rng8 {x : Int} (h : (Lit.int .u8 x).wf = true) : 0 ≤ x ∧ x < 256 := by
  have : 0 ≤ x ∧ x ≤ 255 := by simpa [Lit.wf, IntKind.min, IntKind.max, IntKind.signed, IntKind.bits] using h
  omega
theorem rng16 {x : Int} (h : (Lit.int .u16 x).wf = true) : 0 ≤ x ∧ x ≤ 65535 := by
  simpa [Lit.wf, IntKind.min, IntKind.max, IntKind.signed, IntKind.bits] using h
theorem rngi {x : Int} (h : (Lit.int .i64 x).wf = true) : -9223372036854775808 ≤ x ∧ x < 9223372036854775808 := by
  have : -9223372036854775808 ≤ x ∧ x ≤ 9223372036854775807 := by simpa [Lit.wf, IntKind.min, IntKind.max, IntKind.signed, IntKind.bits] using h
  omega

theorem struct_cells {H : Type} {enc : TypeId × Value → H} {P : Program} {w : World} {base : Nat} {spare : Nat → Bool} {held : Bool} {e : TypeId} {fs : Array Field} {cs : List Value} {n : Nat} {y : DataW H × List MemPlace} {a : Addr}
    (he : P.underlying e = some (.struct fs)) (hone : Go.Deep.oneCellFields P fs = true) (hC : P.cellsOf e = fs.size) (hc : w.cells? base a (P.cellsOf e) = some cs) (h : DataW.trod enc P w base spare held n e cs = some y) :
    ∀ (j : Nat) (f : Field), fs[j]? = some f → ∃ (v : Value) (m : Nat) (z : DataW H × List MemPlace), w.cell? (a.add j) = some v ∧ DataW.trod enc P w base spare held m f.type [v] = some z := by
  intro j f hj
  rw [hC] at hc
  obtain ⟨zs, m, _, _, _, hzl, hf⟩ := DataW.trod_struct he h
  obtain ⟨_, hcl, hat⟩ := World.cells?_some hc
  obtain ⟨ho, hk⟩ := Go.Deep.hone_of hone j f hj
  have hlt : j < fs.size := (Array.getElem?_eq_some_iff.1 hj).1
  have h1 := hf j f hj
  rw [ho, hk, List.drop_eq_getElem_cons (by omega), List.take_succ_cons, List.take_zero, List.getElem?_eq_getElem (by omega)] at h1
  exact ⟨_, m, _, (hat j hlt).trans (List.getElem?_eq_getElem (by omega)), h1⟩
theorem spot_none {w : World} {a : Addr} {v : Value} (h : w.cell? (a.add 0) = some v) : a.spot = none := by
  have := World.cell?_spot h
  simpa [Addr.add] using this
theorem add_none (b o j : Nat) : (⟨b, o, none⟩ : Addr).add j = ⟨b, o + j, none⟩ := by unfold Addr.add; split <;> simp_all
theorem rngc {x : Int} (h : (Lit.int .i8 x).wf = true) : -128 ≤ x ∧ x < 128 := by
  have : -128 ≤ x ∧ x ≤ 127 := by simpa [Lit.wf, IntKind.min, IntKind.max, IntKind.signed, IntKind.bits] using h
  omega
theorem int_of {H : Type} {enc : TypeId × Value → H} {P : Program} {w : World} {base fuel : Nat} {spare : Nat → Bool} {held : Bool} {v : Value} {t : TypeId} {k : IntKind} {z : DataW H × List MemPlace}
    (ht : P.underlying t = some (.int k)) (h : DataW.trod enc P w base spare held fuel t [v] = some z) : ∃ a, v = .int k a ∧ (Lit.int k a).wf = true := by
  obtain ⟨a, ha, _, hw⟩ := DataW.trod_int ht h
  simp at ha
  exact ⟨a, ha, hw⟩

theorem struct_part {H : Type} {enc : TypeId × Value → H} {P : Program} {w : World} {base : Nat} {spare : Nat → Bool} {held : Bool} {e : TypeId} {fs : Array Field} {cs : List Value} {n : Nat} {y : DataW H × List MemPlace}
    (he : P.underlying e = some (.struct fs)) (h : DataW.trod enc P w base spare held n e cs = some y) :
    ∀ (j : Nat) (f : Field), fs[j]? = some f → ∃ (m : Nat) (z : DataW H × List MemPlace), DataW.trod enc P w base spare held m f.type ((cs.drop f.offset).take (P.cellsOf f.type)) = some z := by
  intro j f hj
  obtain ⟨xs, m, _, _, _, hl, hf⟩ := DataW.trod_struct he h
  have hlt : j < fs.size := (Array.getElem?_eq_some_iff.1 hj).1
  exact ⟨m, xs[j], (hf j f hj).trans (List.getElem?_eq_getElem (by omega))⟩
theorem map_part {H : Type} {enc : TypeId × Value → H} {w : World} {base n : Nat} {x0 x1 x2 x3 : Value} {z : DataW H × List MemPlace} (h : DataW.trod enc Try.prog w base (fun _ => true) true n 60 [x0, x1, x2, x3] = some z) :
    ∃ m : Rm.M, x0 = .int .i64 m.at' ∧ x1 = .int .i64 m.off ∧ x2 = .int .i64 m.len ∧ x3 = .int .u16 m.sum ∧ Rm.Wf m := by
  have fld := struct_part Try.underlying60 h
  obtain ⟨n0, z0, t0⟩ := fld 0 _ rfl
  obtain ⟨n1, z1, t1⟩ := fld 1 _ rfl
  obtain ⟨n2, z2, t2⟩ := fld 2 _ rfl
  obtain ⟨n3, z3, t3⟩ := fld 3 _ rfl
  have c3 : Try.prog.cellsOf 3 = 1 := by kernel_rfl
  have c58 : Try.prog.cellsOf 58 = 1 := by kernel_rfl
  replace t0 : DataW.trod enc Try.prog w base (fun _ => true) true n0 3 (([x0, x1, x2, x3].drop 0).take (Try.prog.cellsOf 3)) = some z0 := t0
  rw [c3] at t0
  replace t0 : DataW.trod enc Try.prog w base (fun _ => true) true n0 3 [x0] = some z0 := t0
  replace t1 : DataW.trod enc Try.prog w base (fun _ => true) true n1 3 (([x0, x1, x2, x3].drop 1).take (Try.prog.cellsOf 3)) = some z1 := t1
  rw [c3] at t1
  replace t1 : DataW.trod enc Try.prog w base (fun _ => true) true n1 3 [x1] = some z1 := t1
  replace t2 : DataW.trod enc Try.prog w base (fun _ => true) true n2 3 (([x0, x1, x2, x3].drop 2).take (Try.prog.cellsOf 3)) = some z2 := t2
  rw [c3] at t2
  replace t2 : DataW.trod enc Try.prog w base (fun _ => true) true n2 3 [x2] = some z2 := t2
  replace t3 : DataW.trod enc Try.prog w base (fun _ => true) true n3 58 (([x0, x1, x2, x3].drop 3).take (Try.prog.cellsOf 58)) = some z3 := t3
  rw [c58] at t3
  replace t3 : DataW.trod enc Try.prog w base (fun _ => true) true n3 58 [x3] = some z3 := t3
  obtain ⟨a0, rfl, w0⟩ := int_of Try.underlying3 t0
  obtain ⟨a1, rfl, w1⟩ := int_of Try.underlying3 t1
  obtain ⟨a2, rfl, w2⟩ := int_of Try.underlying3 t2
  obtain ⟨a3, rfl, w3⟩ := int_of Try.underlying58 t3
  have r0 := rngi w0
  have r1 := rngi w1
  have r3 := rng16 w3
  exact ⟨⟨a0, a1, a2, a3⟩, rfl, rfl, rfl, rfl, by unfold Rm.Wf; simp only; omega⟩
set_option maxRecDepth 100000 in
theorem open_acts {H : Type} {enc : TypeId × Value → H} {w : World} {base : Nat} {A : Option Addr} {n c : Nat} {d : DataW H} {ps : List MemPlace}
    (h : DataW.Trod enc Try.prog w base (fun _ => true) true 51 (.slice A n c) d ps) : Rm.ActsIn w A n := by
  obtain ⟨fuel, hf⟩ := h
  rcases Go.Deep.open_slice Try.underlying51 hf with ⟨hcs, _⟩ | ⟨x, l, c', m, q, D, Pl, hcs, _, hl, hm, hmm, _, hel⟩
  · simp [Value.cells] at hcs
    obtain ⟨rfl, rfl, rfl⟩ := hcs
    exact ⟨by omega, .inl rfl⟩
  · simp [Value.cells] at hcs
    obtain ⟨rfl, rfl, rfl⟩ := hcs
    have hm' : c ≤ 9223372036854775807 := hm
    simp at hmm
    refine ⟨by omega, ?_⟩
    rcases Nat.eq_zero_or_pos n with h0 | h0
    · exact .inl h0
    · right
      obtain ⟨b, o, spot⟩ := x
      have key : ∀ i, i < n → ∃ cs q' y, w.cells? base ((⟨b, o, spot⟩ : Addr).add (i * 6)) 6 = some cs ∧ DataW.trod enc Try.prog w base (fun _ => true) true q' 62 cs = some y := fun i hi => by
        obtain ⟨cs', h1, h2⟩ := hel i (by omega)
        exact ⟨cs', q, _, h1, h2⟩
      have hsp : spot = none := by
        obtain ⟨cs, q', y, h1, h2⟩ := key 0 h0
        obtain ⟨_, hcl, hat⟩ := World.cells?_some h1
        have hc := (hat 0 (by omega)).trans (List.getElem?_eq_getElem (by omega))
        rw [Go.Deep.add_add] at hc
        exact spot_none hc
      subst hsp
      refine ⟨b, o, rfl, fun i hi => ?_⟩
      obtain ⟨cs, q', y, h1, h2⟩ := key i hi
      obtain ⟨_, hcl, hat⟩ := World.cells?_some h1
      have fld := struct_part Try.underlying62 h2
      rw [add_none] at hat
      obtain ⟨n0, z0, t0⟩ := fld 0 _ rfl
      obtain ⟨n1, z1, t1⟩ := fld 1 _ rfl
      obtain ⟨n2, z2, t2⟩ := fld 2 _ rfl
      match cs, hcl with
      | [x0, x1, x2, x3, x4, x5], _ =>
        have c5 : Try.prog.cellsOf 5 = 1 := by kernel_rfl
        have c60 : Try.prog.cellsOf 60 = 4 := by kernel_rfl
        have c3 : Try.prog.cellsOf 3 = 1 := by kernel_rfl
        replace t0 : DataW.trod enc Try.prog w base (fun _ => true) true n0 5 (([x0, x1, x2, x3, x4, x5].drop 0).take (Try.prog.cellsOf 5)) = some z0 := t0
        rw [c5] at t0
        replace t0 : DataW.trod enc Try.prog w base (fun _ => true) true n0 5 [x0] = some z0 := t0
        replace t1 : DataW.trod enc Try.prog w base (fun _ => true) true n1 60 (([x0, x1, x2, x3, x4, x5].drop 1).take (Try.prog.cellsOf 60)) = some z1 := t1
        rw [c60] at t1
        replace t1 : DataW.trod enc Try.prog w base (fun _ => true) true n1 60 [x1, x2, x3, x4] = some z1 := t1
        replace t2 : DataW.trod enc Try.prog w base (fun _ => true) true n2 3 (([x0, x1, x2, x3, x4, x5].drop 5).take (Try.prog.cellsOf 3)) = some z2 := t2
        rw [c3] at t2
        replace t2 : DataW.trod enc Try.prog w base (fun _ => true) true n2 3 [x5] = some z2 := t2
        have k0 := hat 0 (by omega)
        have k1 := hat 1 (by omega)
        have k2 := hat 2 (by omega)
        have k3 := hat 3 (by omega)
        have k4 := hat 4 (by omega)
        have k5 := hat 5 (by omega)
        rw [add_none] at k0 k1 k2 k3 k4 k5
        simp only [List.getElem?_cons_zero, List.getElem?_cons_succ, Nat.add_zero] at k0 k1 k2 k3 k4 k5
        obtain ⟨a0, rfl, w0⟩ := int_of Try.underlying5 t0
        obtain ⟨mm, rfl, rfl, rfl, rfl, wm⟩ := map_part t1
        obtain ⟨a5, rfl, w5⟩ := int_of Try.underlying3 t2
        exact ⟨a0, a5, mm, ⟨k0, k1, k2, k3, k4, k5⟩, rng8 w0, rngi w5, wm⟩

theorem own : ownKnob Try.prog.godebug = none := by kernel_rfl
theorem laidOut : laidOutB Try.prog = true := by kernel_rfl

set_option maxRecDepth 100000 in
set_option maxHeartbeats 1000000 in
theorem lifted (os : Os) (started : os.Started) (H : Type) (enc : TypeId × Value → H) :
    ReturnsInHanded {} Try.checked os 7 .any (Rows.rmapTellsSpec.pre6 enc Try.prog Try.f7 Rows.rmapTellsRow.domain false) (Rows.rmapTellsSpec.post enc Try.prog Try.f7 false true false false) := by
  refine returnsInHanded_of_change (C := Try.checked) own started (by kernel_rfl) Try.func7
    (ChangeSpec.witness6 (enc := enc) (C := Try.checked) false ⟨#[], #[.int .i64 0, .slice none 0 0], []⟩ 8 (by kernel_rfl) (by kernel_rfl) (by kernel_rfl) (by kernel_rfl)) ?_
  intro W base args ds gs before hval0 hW hcnd hsz
  have hval : ∀ (j : Nat) t v, Try.f7.params[j]? = some t → args[j]? = some v → Value.okWide Try.prog W .any base t v := hval0
  have hW' := hW
  obtain ⟨p, q, hA0, hV, rfl, hfz, hnd⟩ := hW
  have hA : DataW.TrodAll enc Try.prog W 0 (fun _ => true) true Try.f7.params.toList args.toList ds p := hA0
  rw [Try.params7] at hA hval
  obtain ⟨v0, vs0, d0, ds0, p0, q0, hargs, rfl, rfl, h0, r0⟩ := trodAll_cons hA
  obtain ⟨v1, vs1, d1, ds1, p1, q1, rfl, rfl, rfl, h1, r1⟩ := trodAll_cons r0
  obtain ⟨rfl, rfl, rfl⟩ := trodAll_nil r1
  obtain rfl : args = #[v0, v1] := by cases args; simp_all
  obtain ⟨rfl, rfl⟩ := trodVars_none hV
  have k0 := h0
  have lt0 : ∀ x ∈ p0, x.block < W.heap.size := by obtain ⟨m, hm⟩ := k0; exact DataW.trod_lt m _ _ _ hm
  have k1 := h1
  have lt1 : ∀ x ∈ p1, x.block < W.heap.size := by obtain ⟨m, hm⟩ := k1; exact DataW.trod_lt m _ _ _ hm
  obtain ⟨a0, rfl, rfl, rfl, w0⟩ := open_int Try.underlying3 (hval 0 3 v0 rfl rfl) h0
  obtain ⟨A0, n0, c0, rfl⟩ := okWide_slice Try.underlying51 (hval 1 51 v1 rfl rfl)
  have hs0 := open_acts h1
  clear hA0 hval0
  refine (toBelow (Rm.rmapTells a0 A0 n0 c0 W hs0)).mono fun e W' ⟨he, bel⟩ => ?_
  subst he
  exact ⟨_, rfl, _, _, _, [], _, [], hW', trodAll_mk1 (shut_bool Try.underlying4 _), (trodAll_cons_mk (Below.trod laidOut (by kernel_rfl) (of_decide_eq_true (by kernel_rfl)) k0 bel lt0) (trodAll_cons_mk (Below.trod laidOut (by kernel_rfl) (of_decide_eq_true (by kernel_rfl)) k1 bel lt1) trodAll_mk0)), rfl, bel.frame _, fun h => by cases h⟩

theorem over : Rows.rmapTellsRow.holds Try.pinned (OpenSpec.ofChange Rows.rmapTellsSpec) :=
  OpenClaim.holds_of_wide 7 Try.f7 rfl rfl rfl rfl rfl rfl rfl ⟨rfl, rfl, rfl, rfl, rfl⟩ rfl rfl rfl rfl rfl (by kernel_rfl) Try.func7 (by kernel_rfl)
    (of_decide_eq_true (by kernel_rfl)) (by unfold Func.isWrapper; first | (rw [if_pos (by decide +kernel)]; kernel_rfl) | (rw [if_neg (by decide +kernel)]; exact ⟨rfl, rfl⟩))
    (fun os started H enc _ => lifted os started H enc)

theorem proved : Rows.RmapTellsSaid := over
#print axioms proved
end Go.Proofs.Ytdaodpojcjbggaa.rmapTells
