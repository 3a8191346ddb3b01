/- ShapeTells holds: for all asks, segments and texts the law returns true and its arguments read as they did. -/
import Derived.Test.YtmjajepdlopkiaaRows
import Derived.WalkKit
import Derived.ProofKit
import Derived.OpenShut
import Derived.ShutString
import Derived.ChangeOld
import Derived.Below
import Derived.Deep.Slices
import Derived.Deep.Fields
import Derived.ChangeSame
import Derived.Lib.SmallJoins
import Derived.Test.YtmjajepdlopkiaaShZ
namespace Go.Proofs.Ytmjajepdlopkiaa.shapeTells
open Go.ChangeShapes Go.WideShapes Go.ChangeAt Go.RowKit
open Go.ChangeMaps (open_string shut_string)
set_option linter.unusedVariables false

theorem toBelow {f : Nat} {args : Array Value} {w : World} (h : Calls Try.prog f args w fun e w' => e = .returned (.bool true) ∧ Sh.Gw w w') : Calls Try.prog f args w fun e w' => e = .returned (.bool true) ∧ Below w.heap.size w w' :=
  h.mono fun e w' h => ⟨h.1, Sh.Fr.below h.2 (fun _ h => h.elim) (Nat.le_refl _)⟩
theorem rng8 {x : Int} (h : (Lit.int .u8 x).wf = true) : 0 ≤ x ∧ x < 256 := by
  have : 0 ≤ x ∧ x ≤ 255 := by simpa [Lit.wf, IntKind.min, IntKind.max, IntKind.signed, IntKind.bits] using h
  omega
theorem rng16 {x : Int} (h : (Lit.int .u16 x).wf = true) : 0 ≤ x ∧ x ≤ 65535 := by
  simpa [Lit.wf, IntKind.min, IntKind.max, IntKind.signed, IntKind.bits] using h
theorem rngi {x : Int} (h : (Lit.int .i64 x).wf = true) : -9223372036854775808 ≤ x ∧ x < 9223372036854775808 := by
  have : -9223372036854775808 ≤ x ∧ x ≤ 9223372036854775807 := by simpa [Lit.wf, IntKind.min, IntKind.max, IntKind.signed, IntKind.bits] using h
  omega
theorem rng32 {x : Int} (h : (Lit.int .u32 x).wf = true) : 0 ≤ x ∧ x < 4294967296 := by
  have : 0 ≤ x ∧ x ≤ 4294967295 := by simpa [Lit.wf, IntKind.min, IntKind.max, IntKind.signed, IntKind.bits] using h
  omega
theorem natOf {x : Int} {n : Nat} (h : 0 ≤ x ∧ x < n) : ∃ k : Nat, x = k ∧ k < n := ⟨x.toNat, by omega, by omega⟩

theorem struct_cells {H : Type} {enc : TypeId × Value → H} {P : Program} {w : World} {base : Nat} {spare : Nat → Bool} {held : Bool} {e : TypeId} {fs : Array Field} {cs : List Value} {n : Nat} {y : DataW H × List MemPlace} {a : Addr}
    (he : P.underlying e = some (.struct fs)) (hone : Go.Deep.oneCellFields P fs = true) (hC : P.cellsOf e = fs.size) (hc : w.cells? base a (P.cellsOf e) = some cs) (h : DataW.trod enc P w base spare held n e cs = some y) :
    ∀ (j : Nat) (f : Field), fs[j]? = some f → ∃ (v : Value) (m : Nat) (z : DataW H × List MemPlace), w.cell? (a.add j) = some v ∧ DataW.trod enc P w base spare held m f.type [v] = some z := by
  intro j f hj
  rw [hC] at hc
  obtain ⟨zs, m, _, _, _, hzl, hf⟩ := DataW.trod_struct he h
  obtain ⟨_, hcl, hat⟩ := World.cells?_some hc
  obtain ⟨ho, hk⟩ := Go.Deep.hone_of hone j f hj
  have hlt : j < fs.size := (Array.getElem?_eq_some_iff.1 hj).1
  have h1 := hf j f hj
  rw [ho, hk, List.drop_eq_getElem_cons (by omega), List.take_succ_cons, List.take_zero, List.getElem?_eq_getElem (by omega)] at h1
  exact ⟨_, m, _, (hat j hlt).trans (List.getElem?_eq_getElem (by omega)), h1⟩
theorem spot_none {w : World} {a : Addr} {v : Value} (h : w.cell? (a.add 0) = some v) : a.spot = none := by
  have := World.cell?_spot h
  simpa [Addr.add] using this
theorem add_none (b o j : Nat) : (⟨b, o, none⟩ : Addr).add j = ⟨b, o + j, none⟩ := by unfold Addr.add; split <;> simp_all
theorem rngc {x : Int} (h : (Lit.int .i8 x).wf = true) : -128 ≤ x ∧ x < 128 := by
  have : -128 ≤ x ∧ x ≤ 127 := by simpa [Lit.wf, IntKind.min, IntKind.max, IntKind.signed, IntKind.bits] using h
  omega
theorem int_of {H : Type} {enc : TypeId × Value → H} {P : Program} {w : World} {base fuel : Nat} {spare : Nat → Bool} {held : Bool} {v : Value} {t : TypeId} {k : IntKind} {z : DataW H × List MemPlace}
    (ht : P.underlying t = some (.int k)) (h : DataW.trod enc P w base spare held fuel t [v] = some z) : ∃ a, v = .int k a ∧ (Lit.int k a).wf = true := by
  obtain ⟨a, ha, _, hw⟩ := DataW.trod_int ht h
  simp at ha
  exact ⟨a, ha, hw⟩
theorem bool_of {H : Type} {enc : TypeId × Value → H} {P : Program} {w : World} {base fuel : Nat} {spare : Nat → Bool} {held : Bool} {v : Value} {t : TypeId} {z : DataW H × List MemPlace}
    (ht : P.underlying t = some .bool) (h : DataW.trod enc P w base spare held fuel t [v] = some z) : ∃ a, v = .bool a := by
  obtain ⟨a, ha, _⟩ := DataW.trod_bool ht h
  simp at ha
  exact ⟨a, ha⟩
theorem str_of {H : Type} {enc : TypeId × Value → H} {P : Program} {w : World} {base fuel : Nat} {spare : Nat → Bool} {held : Bool} {v : Value} {t : TypeId} {z : DataW H × List MemPlace}
    (ht : P.underlying t = some .string) (h : DataW.trod enc P w base spare held fuel t [v] = some z) : ∃ a : ByteArray, v = .string a ∧ a.size ≤ maxLen := by
  obtain ⟨a, ha, _, hw⟩ := DataW.trod_string ht h
  simp at ha
  exact ⟨a, ha, hw⟩
theorem open_strs2 {H : Type} {enc : TypeId × Value → H} {P : Program} {w : World} {base b0 : Nat} {spare : Nat → Bool} {held : Bool} {r : Reach} {t e : TypeId} {v : Value} {d : DataW H} {ps : List MemPlace}
    (ht : P.underlying t = some (.array 2 e)) (he : P.underlying e = some .string) (hce : P.cellsOf e = 1) (hc : P.cellsOf t = 2) (hv : Value.okWide P w r b0 t v) (h : DataW.Trod enc P w base spare held t v d ps) :
    ∃ a b : ByteArray, v = .agg #[.string a, .string b] ∧ a.size ≤ maxLen ∧ b.size ≤ maxLen := by
  unfold Value.okWide at hv
  rw [ht] at hv
  obtain ⟨cs, rfl, hs, _⟩ := hv
  obtain ⟨fuel, hf⟩ := h
  obtain ⟨xs, m, _, _, hl, hx, hall⟩ := DataW.trod_array ht hf
  obtain ⟨c0, c1, rfl⟩ : ∃ c0 c1, cs = #[c0, c1] := by
    obtain ⟨l⟩ := cs
    match l, hs.trans hc with
    | [c0, c1], _ => exact ⟨c0, c1, rfl⟩
  have key : ∀ i (hi : i < 2), ∃ y, DataW.trod enc P w base spare held m e ((((Value.agg #[c0, c1]).cells.toList).drop (i * P.cellsOf e)).take (P.cellsOf e)) = some y := fun i hi => by
    have h1 := hall i hi
    have hx1 : ∃ y, xs[i]? = some y := ⟨xs[i]'(by omega), List.getElem?_eq_getElem (by omega)⟩
    obtain ⟨y, hy⟩ := hx1
    rw [hy] at h1
    exact ⟨y, h1⟩
  rw [hce] at key
  obtain ⟨y0, h0⟩ := key 0 (by omega)
  obtain ⟨y1, h1⟩ := key 1 (by omega)
  have e0 : (((Value.agg #[c0, c1]).cells.toList).drop (0 * 1)).take 1 = [c0] := rfl
  have e1 : (((Value.agg #[c0, c1]).cells.toList).drop (1 * 1)).take 1 = [c1] := rfl
  rw [e0] at h0
  rw [e1] at h1
  obtain ⟨a, rfl, wa⟩ := str_of he h0
  obtain ⟨b, rfl, wb⟩ := str_of he h1
  exact ⟨a, b, rfl, wa, wb⟩
set_option maxRecDepth 100000 in
theorem open_segs {H : Type} {enc : TypeId × Value → H} {w : World} {base : Nat} {A : Option Addr} {n c : Nat} {d : DataW H} {ps : List MemPlace}
    (h : DataW.Trod enc Try.prog w base (fun _ => true) true 60 (.slice A n c) d ps) : ∃ l, Sh.SegsIn w A n c l := by
  obtain ⟨fuel, hf⟩ := h
  rcases Go.Deep.open_slice Try.underlying60 hf with ⟨hcs, _⟩ | ⟨x, l, c', m, q, D, Pl, hcs, _, hl, hm, hmm, _, hel⟩
  · simp [Value.cells] at hcs
    obtain ⟨rfl, rfl, rfl⟩ := hcs
    exact ⟨[], ⟨rfl, by omega, by omega, .inl rfl⟩, by simp⟩
  · simp [Value.cells] at hcs
    obtain ⟨rfl, rfl, rfl⟩ := hcs
    have hm' : c ≤ 9223372036854775807 := hm
    simp at hmm
    obtain ⟨b, o, spot⟩ := x
    have key : ∀ i, i < n → ∃ cs q' y, w.cells? base ((⟨b, o, spot⟩ : Addr).add (i * 12)) 12 = some cs ∧ DataW.trod enc Try.prog w base (fun _ => true) true q' 48 cs = some y := fun i hi => by
      obtain ⟨cs', h1, h2⟩ := hel i (by omega)
      exact ⟨cs', q, _, h1, h2⟩
    rcases Nat.eq_zero_or_pos n with h0 | h0
    · exact ⟨[], ⟨by rw [h0]; rfl, hl, hm', .inl h0⟩, by simp⟩
    · have hsp : spot = none := by
        obtain ⟨cs, q', y, h1, h2⟩ := key 0 h0
        obtain ⟨v, _, _, hc, _⟩ := struct_cells Try.underlying48 (by kernel_rfl) (by kernel_rfl) h1 h2 0 _ rfl
        rw [Go.Deep.add_add] at hc
        exact spot_none hc
      subst hsp
      have all : ∀ i, ∃ p : Sh.Sg, i < n → Sh.SegAt w b (o + i * 12) p ∧ p.Ok := by
        intro i
        by_cases hi : i < n
        · obtain ⟨cs, q', y, h1, h2⟩ := key i hi
          have fld := struct_cells Try.underlying48 (by kernel_rfl) (by kernel_rfl) h1 h2
          rw [add_none] at fld
          obtain ⟨v0, _, _, k0, t0⟩ := fld 0 _ rfl
          obtain ⟨v1, _, _, k1, t1⟩ := fld 1 _ rfl
          obtain ⟨v2, _, _, k2, t2⟩ := fld 2 _ rfl
          obtain ⟨v3, _, _, k3, t3⟩ := fld 3 _ rfl
          obtain ⟨v4, _, _, k4, t4⟩ := fld 4 _ rfl
          obtain ⟨v5, _, _, k5, t5⟩ := fld 5 _ rfl
          obtain ⟨v6, _, _, k6, t6⟩ := fld 6 _ rfl
          obtain ⟨v7, _, _, k7, t7⟩ := fld 7 _ rfl
          obtain ⟨v8, _, _, k8, t8⟩ := fld 8 _ rfl
          obtain ⟨v9, _, _, k9, t9⟩ := fld 9 _ rfl
          obtain ⟨v10, _, _, k10, t10⟩ := fld 10 _ rfl
          obtain ⟨v11, _, _, k11, t11⟩ := fld 11 _ rfl
          rw [add_none] at k0 k1 k2 k3 k4 k5 k6 k7 k8 k9 k10 k11
          obtain ⟨a0, rfl, w0⟩ := int_of Try.underlying3 t0
          obtain ⟨a1, rfl, w1⟩ := int_of Try.underlying46 t1
          obtain ⟨a2, rfl, w2⟩ := int_of Try.underlying46 t2
          obtain ⟨a3, rfl, w3⟩ := int_of Try.underlying22 t3
          obtain ⟨a4, rfl, w4⟩ := int_of Try.underlying22 t4
          obtain ⟨a5, rfl⟩ := bool_of Try.underlying4 t5
          obtain ⟨a6, rfl⟩ := bool_of Try.underlying4 t6
          obtain ⟨a7, rfl⟩ := bool_of Try.underlying4 t7
          obtain ⟨a8, rfl⟩ := bool_of Try.underlying4 t8
          obtain ⟨a9, rfl, w9⟩ := int_of Try.underlying46 t9
          obtain ⟨a10, rfl, w10⟩ := str_of Try.underlying9 t10
          obtain ⟨a11, rfl, w11⟩ := str_of Try.underlying9 t11
          refine ⟨⟨a0, a1, a2, a3, a4, a5, a6, a7, a8, a9, a10, a11⟩, fun _ => ⟨fun j u hu => ?_, ⟨rng32 w3, w11⟩⟩⟩
          have hj : j < 12 := (List.getElem?_eq_some_iff.1 hu).1
          have : j = 0 ∨ j = 1 ∨ j = 2 ∨ j = 3 ∨ j = 4 ∨ j = 5 ∨ j = 6 ∨ j = 7 ∨ j = 8 ∨ j = 9 ∨ j = 10 ∨ j = 11 := by omega
          rcases this with rfl | rfl | rfl | rfl | rfl | rfl | rfl | rfl | rfl | rfl | rfl | rfl <;> (obtain rfl := Option.some.inj hu; assumption)
        · exact ⟨⟨0, 0, 0, 0, 0, false, false, false, false, 0, ⟨#[]⟩, ⟨#[]⟩⟩, fun h => absurd h hi⟩
      have hb : b < w.heap.size := World.block_lt_of_cell? _ _ ((all 0).choose_spec h0 |>.1 0 _ rfl)
      refine ⟨(List.range n).map fun i => (all i).choose, ⟨by simp, hl, hm', .inr ⟨b, o, rfl, hb, fun i hi => ?_⟩⟩, fun x hx => ?_⟩
      · simp only [List.getElem_map, List.getElem_range]
        exact ((all i).choose_spec (by simpa using hi)).1
      · simp only [List.mem_map, List.mem_range] at hx
        obtain ⟨i, hi, rfl⟩ := hx
        exact ((all i).choose_spec hi).2

theorem own : ownKnob Try.prog.godebug = none := by kernel_rfl
theorem laidOut : laidOutB Try.prog = true := by kernel_rfl

set_option maxRecDepth 100000 in
set_option maxHeartbeats 1000000 in
theorem lifted (os : Os) (started : os.Started) (H : Type) (enc : TypeId × Value → H) :
    ReturnsInHanded {} Try.checked os 11 .any (Rows.shapeTellsSpec.pre6 enc Try.prog Try.f11 Rows.shapeTellsRow.domain false) (Rows.shapeTellsSpec.post enc Try.prog Try.f11 false true false false) := by
  refine returnsInHanded_of_change (C := Try.checked) own started (by kernel_rfl) Try.func11
    (ChangeSpec.witness6 (enc := enc) (C := Try.checked) false ⟨#[], #[.agg #[.int .u32 0, .int .i64 0, .int .i64 0, .int .u8 0], .slice none 0 0, .agg #[.string ⟨#[]⟩, .string ⟨#[]⟩]], []⟩ 8 (by kernel_rfl) (by kernel_rfl) (by kernel_rfl) (by kernel_rfl)) ?_
  intro W base args ds gs before hval0 hW hcnd hsz
  have hval : ∀ (j : Nat) t v, Try.f11.params[j]? = some t → args[j]? = some v → Value.okWide Try.prog W .any base t v := hval0
  have hW' := hW
  obtain ⟨p, q, hA0, hV, rfl, hfz, hnd⟩ := hW
  have hA : DataW.TrodAll enc Try.prog W 0 (fun _ => true) true Try.f11.params.toList args.toList ds p := hA0
  rw [Try.params11] at hA hval
  obtain ⟨v0, vs0, d0, ds0, p0, q0, hargs, rfl, rfl, h0, r0⟩ := trodAll_cons hA
  obtain ⟨v1, vs1, d1, ds1, p1, q1, rfl, rfl, rfl, h1, r1⟩ := trodAll_cons r0
  obtain ⟨v2, vs2, d2, ds2, p2, q2, rfl, rfl, rfl, h2, r2⟩ := trodAll_cons r1
  obtain ⟨rfl, rfl, rfl⟩ := trodAll_nil r2
  obtain rfl : args = #[v0, v1, v2] := by cases args; simp_all
  obtain ⟨rfl, rfl⟩ := trodVars_none hV
  have k0 := h0
  have lt0 : ∀ x ∈ p0, x.block < W.heap.size := by obtain ⟨m, hm⟩ := k0; exact DataW.trod_lt m _ _ _ hm
  have k1 := h1
  have lt1 : ∀ x ∈ p1, x.block < W.heap.size := by obtain ⟨m, hm⟩ := k1; exact DataW.trod_lt m _ _ _ hm
  have k2 := h2
  have lt2 : ∀ x ∈ p2, x.block < W.heap.size := by obtain ⟨m, hm⟩ := k2; exact DataW.trod_lt m _ _ _ hm
  obtain ⟨A1, n1, c1, rfl⟩ := okWide_slice Try.underlying60 (hval 1 60 v1 rfl rfl)
  obtain ⟨l1, hs1⟩ := open_segs h1
  obtain ⟨x0, x1, x2, x3, y0, y1, y2, y3, nn, rfl, _, _, t0, t1, t2, t3⟩ := Joins.open_agg4 Try.underlying59 (by kernel_rfl) (by kernel_rfl) (hval 0 59 v0 rfl rfl) h0
  obtain ⟨b0, rfl, wb0⟩ := int_of Try.underlying22 t0
  obtain ⟨b1, rfl, wb1⟩ := int_of Try.underlying3 t1
  obtain ⟨b2, rfl, wb2⟩ := int_of Try.underlying3 t2
  obtain ⟨b3, rfl, wb3⟩ := int_of Try.underlying5 t3
  obtain ⟨p3, rfl, u3⟩ := natOf (x := b3) (n := 256) (by have := rng8 wb3; omega)
  obtain ⟨s0, s1, rfl, z0, z1⟩ := open_strs2 Try.underlying61 Try.underlying9 (by kernel_rfl) (by kernel_rfl) (hval 2 61 v2 rfl rfl) h2
  clear hA0 hval0
  refine (toBelow (Sh.shapeTells b0 b1 b2 p3 (rng32 wb0) (rngi wb1) (rngi wb2) u3 A1 n1 c1 l1 s0 s1 z0 z1 W hs1)).mono fun e W' ⟨he, bel⟩ => ?_
  subst he
  exact ⟨_, rfl, _, _, _, [], _, [], hW', trodAll_mk1 (shut_bool Try.underlying4 _), (trodAll_cons_mk (Below.trod laidOut (by kernel_rfl) (of_decide_eq_true (by kernel_rfl)) k0 bel lt0) (trodAll_cons_mk (Below.trod laidOut (by kernel_rfl) (of_decide_eq_true (by kernel_rfl)) k1 bel lt1) (trodAll_cons_mk (Below.trod laidOut (by kernel_rfl) (of_decide_eq_true (by kernel_rfl)) k2 bel lt2) trodAll_mk0))), rfl, bel.frame _, fun h => by cases h⟩

theorem over : Rows.shapeTellsRow.holds Try.pinned (OpenSpec.ofChange Rows.shapeTellsSpec) :=
  OpenClaim.holds_of_wide 11 Try.f11 rfl rfl rfl rfl rfl rfl rfl ⟨rfl, rfl, rfl, rfl, rfl⟩ rfl rfl rfl rfl rfl (by kernel_rfl) Try.func11 (by kernel_rfl)
    (of_decide_eq_true (by kernel_rfl)) (by unfold Func.isWrapper; first | (rw [if_pos (by decide +kernel)]; kernel_rfl) | (rw [if_neg (by decide +kernel)]; exact ⟨rfl, rfl⟩))
    (fun os started H enc _ => lifted os started H enc)

theorem proved : Rows.ShapeTellsSaid := over
#print axioms proved
end Go.Proofs.Ytmjajepdlopkiaa.shapeTells
