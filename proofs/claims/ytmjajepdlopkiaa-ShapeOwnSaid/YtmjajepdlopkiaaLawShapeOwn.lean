/- ShapeOwn holds: for all first numbers, streams, parts, reads and offsets the law returns true and its arguments read as they did. -/
import Derived.Test.YtmjajepdlopkiaaRows
import Derived.WalkKit
import Derived.ProofKit
import Derived.OpenShut
import Derived.ShutString
import Derived.ChangeOld
import Derived.Below
import Derived.Deep.Slices
import Derived.Deep.Fields
import Derived.ChangeSame
import Derived.Test.YtmjajepdlopkiaaShU
namespace Go.Proofs.Ytmjajepdlopkiaa.shapeOwn
open Go.ChangeShapes Go.WideShapes Go.ChangeAt Go.RowKit
open Go.ChangeMaps (open_string shut_string)
set_option linter.unusedVariables false

theorem toBelow {f : Nat} {args : Array Value} {w : World} (h : Calls Try.prog f args w fun e w' => e = .returned (.bool true) ∧ Sh.Gw w w') : Calls Try.prog f args w fun e w' => e = .returned (.bool true) ∧ Below w.heap.size w w' :=
  h.mono fun e w' h => ⟨h.1, Sh.Fr.below h.2 (fun _ h => h.elim) (Nat.le_refl _)⟩
theorem rng8 {x : Int} (h : (Lit.int .u8 x).wf = true) : 0 ≤ x ∧ x < 256 := by
  have : 0 ≤ x ∧ x ≤ 255 := by simpa [Lit.wf, IntKind.min, IntKind.max, IntKind.signed, IntKind.bits] using h
  omega
theorem rng16 {x : Int} (h : (Lit.int .u16 x).wf = true) : 0 ≤ x ∧ x ≤ 65535 := by
  simpa [Lit.wf, IntKind.min, IntKind.max, IntKind.signed, IntKind.bits] using h
theorem rngi {x : Int} (h : (Lit.int .i64 x).wf = true) : -9223372036854775808 ≤ x ∧ x < 9223372036854775808 := by
  have : -9223372036854775808 ≤ x ∧ x ≤ 9223372036854775807 := by simpa [Lit.wf, IntKind.min, IntKind.max, IntKind.signed, IntKind.bits] using h
  omega
theorem rng32 {x : Int} (h : (Lit.int .u32 x).wf = true) : 0 ≤ x ∧ x < 4294967296 := by
  have : 0 ≤ x ∧ x ≤ 4294967295 := by simpa [Lit.wf, IntKind.min, IntKind.max, IntKind.signed, IntKind.bits] using h
  omega
theorem natOf {x : Int} {n : Nat} (h : 0 ≤ x ∧ x < n) : ∃ k : Nat, x = k ∧ k < n := ⟨x.toNat, by omega, by omega⟩

theorem struct_cells {H : Type} {enc : TypeId × Value → H} {P : Program} {w : World} {base : Nat} {spare : Nat → Bool} {held : Bool} {e : TypeId} {fs : Array Field} {cs : List Value} {n : Nat} {y : DataW H × List MemPlace} {a : Addr}
    (he : P.underlying e = some (.struct fs)) (hone : Go.Deep.oneCellFields P fs = true) (hC : P.cellsOf e = fs.size) (hc : w.cells? base a (P.cellsOf e) = some cs) (h : DataW.trod enc P w base spare held n e cs = some y) :
    ∀ (j : Nat) (f : Field), fs[j]? = some f → ∃ (v : Value) (m : Nat) (z : DataW H × List MemPlace), w.cell? (a.add j) = some v ∧ DataW.trod enc P w base spare held m f.type [v] = some z := by
  intro j f hj
  rw [hC] at hc
  obtain ⟨zs, m, _, _, _, hzl, hf⟩ := DataW.trod_struct he h
  obtain ⟨_, hcl, hat⟩ := World.cells?_some hc
  obtain ⟨ho, hk⟩ := Go.Deep.hone_of hone j f hj
  have hlt : j < fs.size := (Array.getElem?_eq_some_iff.1 hj).1
  have h1 := hf j f hj
  rw [ho, hk, List.drop_eq_getElem_cons (by omega), List.take_succ_cons, List.take_zero, List.getElem?_eq_getElem (by omega)] at h1
  exact ⟨_, m, _, (hat j hlt).trans (List.getElem?_eq_getElem (by omega)), h1⟩
theorem spot_none {w : World} {a : Addr} {v : Value} (h : w.cell? (a.add 0) = some v) : a.spot = none := by
  have := World.cell?_spot h
  simpa [Addr.add] using this
theorem add_none (b o j : Nat) : (⟨b, o, none⟩ : Addr).add j = ⟨b, o + j, none⟩ := by unfold Addr.add; split <;> simp_all
theorem rngc {x : Int} (h : (Lit.int .i8 x).wf = true) : -128 ≤ x ∧ x < 128 := by
  have : -128 ≤ x ∧ x ≤ 127 := by simpa [Lit.wf, IntKind.min, IntKind.max, IntKind.signed, IntKind.bits] using h
  omega
theorem int_of {H : Type} {enc : TypeId × Value → H} {P : Program} {w : World} {base fuel : Nat} {spare : Nat → Bool} {held : Bool} {v : Value} {t : TypeId} {k : IntKind} {z : DataW H × List MemPlace}
    (ht : P.underlying t = some (.int k)) (h : DataW.trod enc P w base spare held fuel t [v] = some z) : ∃ a, v = .int k a ∧ (Lit.int k a).wf = true := by
  obtain ⟨a, ha, _, hw⟩ := DataW.trod_int ht h
  simp at ha
  exact ⟨a, ha, hw⟩

set_option maxRecDepth 100000 in
theorem open_parts {H : Type} {enc : TypeId × Value → H} {w : World} {base : Nat} {A : Option Addr} {n c : Nat} {d : DataW H} {ps : List MemPlace}
    (h : DataW.Trod enc Try.prog w base (fun _ => true) true 40 (.slice A n c) d ps) : ∃ l, Sh.Parts w A n c l := by
  obtain ⟨fuel, hf⟩ := h
  rcases Go.Deep.open_slice Try.underlying40 hf with ⟨hcs, _⟩ | ⟨x, l, c', m, q, D, Pl, hcs, _, hl, hm, hmm, _, hel⟩
  · simp [Value.cells] at hcs
    obtain ⟨rfl, rfl, rfl⟩ := hcs
    exact ⟨[], rfl, by omega, by omega, fun _ => ⟨rfl, rfl⟩, .inl rfl⟩
  · simp [Value.cells] at hcs
    obtain ⟨rfl, rfl, rfl⟩ := hcs
    have hm' : c ≤ 9223372036854775807 := hm
    simp at hmm
    obtain ⟨b, o, spot⟩ := x
    have key : ∀ i, i < n → ∃ cs q' y, w.cells? base ((⟨b, o, spot⟩ : Addr).add (i * 4)) 4 = some cs ∧ DataW.trod enc Try.prog w base (fun _ => true) true q' 50 cs = some y := fun i hi => by
      obtain ⟨cs', h1, h2⟩ := hel i (by omega)
      exact ⟨cs', q, _, h1, h2⟩
    rcases Nat.eq_zero_or_pos n with h0 | h0
    · exact ⟨[], by rw [h0]; rfl, hl, hm', (fun e => by cases e), .inl h0⟩
    · have hsp : spot = none := by
        obtain ⟨cs, q', y, h1, h2⟩ := key 0 h0
        obtain ⟨v, _, _, hc, _⟩ := struct_cells Try.underlying50 (by kernel_rfl) (by kernel_rfl) h1 h2 0 _ rfl
        rw [Go.Deep.add_add] at hc
        exact spot_none hc
      subst hsp
      have all : ∀ i, ∃ p : Sh.Pt, i < n → Sh.PartAt w b (o + i * 4) p ∧ p.Ok := by
        intro i
        by_cases hi : i < n
        · obtain ⟨cs, q', y, h1, h2⟩ := key i hi
          have fld := struct_cells Try.underlying50 (by kernel_rfl) (by kernel_rfl) h1 h2
          rw [add_none] at fld
          obtain ⟨v0, _, _, k0, t0⟩ := fld 0 _ rfl
          obtain ⟨v1, _, _, k1, t1⟩ := fld 1 _ rfl
          obtain ⟨v2, _, _, k2, t2⟩ := fld 2 _ rfl
          obtain ⟨v3, _, _, k3, t3⟩ := fld 3 _ rfl
          rw [add_none] at k0 k1 k2 k3
          obtain ⟨a0, rfl, w0⟩ := int_of Try.underlying46 t0
          obtain ⟨a1, rfl, w1⟩ := int_of Try.underlying46 t1
          obtain ⟨a2, rfl, w2⟩ := int_of Try.underlying5 t2
          obtain ⟨a3, rfl, w3⟩ := int_of Try.underlying5 t3
          obtain ⟨n0, rfl, u0⟩ := natOf (x := a0) (n := 65536) (by have := rng16 w0; omega)
          obtain ⟨n1, rfl, u1⟩ := natOf (x := a1) (n := 65536) (by have := rng16 w1; omega)
          obtain ⟨n2, rfl, u2⟩ := natOf (n := 256) (rng8 w2)
          obtain ⟨n3, rfl, u3⟩ := natOf (n := 256) (rng8 w3)
          exact ⟨⟨n0, n1, n2, n3⟩, fun _ => ⟨⟨k0, k1, k2, k3⟩, ⟨u0, u1, u2, u3⟩⟩⟩
        · exact ⟨⟨0, 0, 0, 0⟩, fun h => absurd h hi⟩
      have hb : b < w.heap.size := World.block_lt_of_cell? _ _ ((all 0).choose_spec h0).1.1
      refine ⟨(List.range n).map fun i => (all i).choose, by simp, hl, hm', (fun e => by cases e), .inr ⟨b, o, rfl, hb, fun i hi => ?_⟩⟩
      simp only [List.getElem_map, List.getElem_range]
      exact (all i).choose_spec (by simpa using hi)

theorem open_arr {H : Type} {enc : TypeId × Value → H} {P : Program} {w : World} {base b0 n : Nat} {spare : Nat → Bool} {held : Bool} {r : Reach} {t e : TypeId} {k : IntKind} {v : Value} {d : DataW H} {ps : List MemPlace}
    (ht : P.underlying t = some (.array n e)) (he : P.underlying e = some (.int k)) (hce : P.cellsOf e = 1) (hc : P.cellsOf t = n) (hv : Value.okWide P w r b0 t v) (h : DataW.Trod enc P w base spare held t v d ps) :
    ∃ cs : Array Value, v = .agg cs ∧ cs.size = n ∧ ∀ i, i < n → ∃ a, cs[i]? = some (.int k a) ∧ (Lit.int k a).wf = true := by
  unfold Value.okWide at hv
  rw [ht] at hv
  obtain ⟨cs, rfl, hs, _⟩ := hv
  refine ⟨cs, rfl, hs.trans hc, fun i hi => ?_⟩
  obtain ⟨fuel, hf⟩ := h
  obtain ⟨xs, m, _, _, hl, hx, hall⟩ := DataW.trod_array ht hf
  have h1 := hall i hi
  have hx1 : ∃ y, xs[i]? = some y := ⟨xs[i]'(by omega), List.getElem?_eq_getElem (by omega)⟩
  obtain ⟨y, hy⟩ := hx1
  rw [hy] at h1
  obtain ⟨a, ha, _, hw⟩ := DataW.trod_int he h1
  refine ⟨a, ?_, hw⟩
  rw [hce] at ha
  have : ((cs.toList.drop (i * 1)).take 1)[0]? = some (.int k a) := by
    have hh : (Value.agg cs).cells.toList = cs.toList := rfl
    rw [hh] at ha
    rw [ha]; rfl
  simpa using this
theorem open_arr2 {H : Type} {enc : TypeId × Value → H} {P : Program} {w : World} {base b0 : Nat} {spare : Nat → Bool} {held : Bool} {r : Reach} {t e : TypeId} {k : IntKind} {v : Value} {d : DataW H} {ps : List MemPlace}
    (ht : P.underlying t = some (.array 2 e)) (he : P.underlying e = some (.int k)) (hce : P.cellsOf e = 1) (hc : P.cellsOf t = 2) (hv : Value.okWide P w r b0 t v) (h : DataW.Trod enc P w base spare held t v d ps) :
    ∃ a b, v = .agg #[.int k a, .int k b] ∧ (Lit.int k a).wf = true ∧ (Lit.int k b).wf = true := by
  obtain ⟨cs, rfl, hs, hall⟩ := open_arr ht he hce hc hv h
  obtain ⟨c0, c1, rfl⟩ : ∃ c0 c1, cs = #[c0, c1] := by
    obtain ⟨l⟩ := cs
    match l, hs with
    | [c0, c1], _ => exact ⟨c0, c1, rfl⟩
  obtain ⟨a, ha, wa⟩ := hall 0 (by omega)
  obtain ⟨b, hb, wb⟩ := hall 1 (by omega)
  simp at ha hb
  subst ha hb
  exact ⟨a, b, rfl, wa, wb⟩

theorem own : ownKnob Try.prog.godebug = none := by kernel_rfl
theorem laidOut : laidOutB Try.prog = true := by kernel_rfl

set_option maxRecDepth 100000 in
set_option maxHeartbeats 1000000 in
theorem lifted (os : Os) (started : os.Started) (H : Type) (enc : TypeId × Value → H) :
    ReturnsInHanded {} Try.checked os 12 .any (Rows.shapeOwnSpec.pre6 enc Try.prog Try.f12 Rows.shapeOwnRow.domain false) (Rows.shapeOwnSpec.post enc Try.prog Try.f12 false true false false) := by
  refine returnsInHanded_of_change (C := Try.checked) own started (by kernel_rfl) Try.func12
    (ChangeSpec.witness6 (enc := enc) (C := Try.checked) false ⟨#[], #[.int .u32 0, .string ⟨#[]⟩, .slice none 0 0, .agg #[.int .u16 0, .int .u16 0], .int .u8 0], []⟩ 8 (by kernel_rfl) (by kernel_rfl) (by kernel_rfl) (by kernel_rfl)) ?_
  intro W base args ds gs before hval0 hW hcnd hsz
  have hval : ∀ (j : Nat) t v, Try.f12.params[j]? = some t → args[j]? = some v → Value.okWide Try.prog W .any base t v := hval0
  have hW' := hW
  obtain ⟨p, q, hA0, hV, rfl, hfz, hnd⟩ := hW
  have hA : DataW.TrodAll enc Try.prog W 0 (fun _ => true) true Try.f12.params.toList args.toList ds p := hA0
  rw [Try.params12] at hA hval
  obtain ⟨v0, vs0, d0, ds0, p0, q0, hargs, rfl, rfl, h0, r0⟩ := trodAll_cons hA
  obtain ⟨v1, vs1, d1, ds1, p1, q1, rfl, rfl, rfl, h1, r1⟩ := trodAll_cons r0
  obtain ⟨v2, vs2, d2, ds2, p2, q2, rfl, rfl, rfl, h2, r2⟩ := trodAll_cons r1
  obtain ⟨v3, vs3, d3, ds3, p3, q3, rfl, rfl, rfl, h3, r3⟩ := trodAll_cons r2
  obtain ⟨v4, vs4, d4, ds4, p4, q4, rfl, rfl, rfl, h4, r4⟩ := trodAll_cons r3
  obtain ⟨rfl, rfl, rfl⟩ := trodAll_nil r4
  obtain rfl : args = #[v0, v1, v2, v3, v4] := by cases args; simp_all
  obtain ⟨rfl, rfl⟩ := trodVars_none hV
  have k0 := h0
  have lt0 : ∀ x ∈ p0, x.block < W.heap.size := by obtain ⟨m, hm⟩ := k0; exact DataW.trod_lt m _ _ _ hm
  have k1 := h1
  have lt1 : ∀ x ∈ p1, x.block < W.heap.size := by obtain ⟨m, hm⟩ := k1; exact DataW.trod_lt m _ _ _ hm
  have k2 := h2
  have lt2 : ∀ x ∈ p2, x.block < W.heap.size := by obtain ⟨m, hm⟩ := k2; exact DataW.trod_lt m _ _ _ hm
  have k3 := h3
  have lt3 : ∀ x ∈ p3, x.block < W.heap.size := by obtain ⟨m, hm⟩ := k3; exact DataW.trod_lt m _ _ _ hm
  have k4 := h4
  have lt4 : ∀ x ∈ p4, x.block < W.heap.size := by obtain ⟨m, hm⟩ := k4; exact DataW.trod_lt m _ _ _ hm
  obtain ⟨a0, rfl, rfl, rfl, w0⟩ := open_int Try.underlying22 (hval 0 22 v0 rfl rfl) h0
  obtain ⟨a1, rfl, rfl, rfl, w1⟩ := open_string Try.underlying9 (hval 1 9 v1 rfl rfl) h1
  obtain ⟨a4, rfl, rfl, rfl, w4⟩ := open_int Try.underlying5 (hval 4 5 v4 rfl rfl) h4
  obtain ⟨A2, n2, c2, rfl⟩ := okWide_slice Try.underlying40 (hval 2 40 v2 rfl rfl)
  obtain ⟨l2, hs2⟩ := open_parts h2
  obtain ⟨b0, b1, rfl, wb0, wb1⟩ := open_arr2 Try.underlying70 Try.underlying46 (by kernel_rfl) (by kernel_rfl) (hval 3 70 v3 rfl rfl) h3
  obtain ⟨m0, rfl, z0⟩ := natOf (x := b0) (n := 65536) (by have := rng16 wb0; omega)
  obtain ⟨m1, rfl, z1⟩ := natOf (x := b1) (n := 65536) (by have := rng16 wb1; omega)
  obtain ⟨n4, rfl, u4⟩ := natOf (x := a4) (n := 256) (by have := rng8 w4; omega)
  clear hA0 hval0
  refine (toBelow (Sh.shapeOwn a0 (rng32 w0) a1 w1 A2 n2 c2 l2 m0 m1 z0 z1 n4 u4 W hs2)).mono fun e W' ⟨he, bel⟩ => ?_
  subst he
  exact ⟨_, rfl, _, _, _, [], _, [], hW', trodAll_mk1 (shut_bool Try.underlying4 _), (trodAll_cons_mk (Below.trod laidOut (by kernel_rfl) (of_decide_eq_true (by kernel_rfl)) k0 bel lt0) (trodAll_cons_mk (Below.trod laidOut (by kernel_rfl) (of_decide_eq_true (by kernel_rfl)) k1 bel lt1) (trodAll_cons_mk (Below.trod laidOut (by kernel_rfl) (of_decide_eq_true (by kernel_rfl)) k2 bel lt2) (trodAll_cons_mk (Below.trod laidOut (by kernel_rfl) (of_decide_eq_true (by kernel_rfl)) k3 bel lt3) (trodAll_cons_mk (Below.trod laidOut (by kernel_rfl) (of_decide_eq_true (by kernel_rfl)) k4 bel lt4) trodAll_mk0))))), rfl, bel.frame _, fun h => by cases h⟩

theorem over : Rows.shapeOwnRow.holds Try.pinned (OpenSpec.ofChange Rows.shapeOwnSpec) :=
  OpenClaim.holds_of_wide 12 Try.f12 rfl rfl rfl rfl rfl rfl rfl ⟨rfl, rfl, rfl, rfl, rfl⟩ rfl rfl rfl rfl rfl (by kernel_rfl) Try.func12 (by kernel_rfl)
    (of_decide_eq_true (by kernel_rfl)) (by unfold Func.isWrapper; first | (rw [if_pos (by decide +kernel)]; kernel_rfl) | (rw [if_neg (by decide +kernel)]; exact ⟨rfl, rfl⟩))
    (fun os started H enc _ => lifted os started H enc)

theorem proved : Rows.ShapeOwnSaid := over
#print axioms proved
end Go.Proofs.Ytmjajepdlopkiaa.shapeOwn
