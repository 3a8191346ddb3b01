/- The walk of ShapeOwn. -/
import Derived.Test.YtmjajepdlopkiaaShS
namespace Go.Proofs.Ytmjajepdlopkiaa.Sh
open Go.RowKit
set_option linter.unusedVariables false
set_option linter.unusedSimpArgs false

/-- A row of truths that may be written. -/
def Bl (W : World) (B N : Nat) (M : Nat → Bool) : Prop := B < W.heap.size ∧ ∀ i, i < N → W.cell? ⟨B, i, none⟩ = some (.bool (M i)) ∧ W.frozen? ⟨B, i, none⟩ = false
theorem Bl.keep {W W' : World} {B N : Nat} {M : Nat → Bool} (h : Bl W B N M) (hs : W.heap.size ≤ W'.heap.size) (hb : W'.heap[B]? = W.heap[B]?) : Bl W' B N M :=
  ⟨Nat.lt_of_lt_of_le h.1 hs, fun j hj => ⟨cell_blk (p := ⟨B, j, none⟩) hb (h.2 j hj).1, frozen_blk (p := ⟨B, j, none⟩) hb (h.2 j hj).2⟩⟩
theorem Bl.gw {W W' : World} {B N : Nat} {M : Nat → Bool} (h : Bl W B N M) (hg : Gw W W') : Bl W' B N M := h.keep hg.size (hg.block B h.1 (fun h => h))
theorem Bl.set {W : World} {B N : Nat} {M : Nat → Bool} (h : Bl W B N M) {k : Nat} (hk : k < N) (c : Bool) (M' : Nat → Bool) (hM : ∀ i, i < N → M' i = if i = k then c else M i) : Bl (W.setCell ⟨B, k, none⟩ (.bool c)) B N M' := by
  refine ⟨by simp [World.setCell]; exact h.1, fun j hj => ⟨?_, by rw [World.frozen?_setCell]; exact (h.2 j hj).2⟩⟩
  rw [hM j hj]
  by_cases e : j = k
  · subst e
    rw [setCell_cell_same _ (h.2 j hj).1, if_pos rfl]
  · rw [if_neg e]
    refine (World.cell?_setCell_other W ⟨B, k, none⟩ ⟨B, j, none⟩ _ ?_).trans (h.2 j hj).1
    intro h; injection h with _ h2; exact e h2.symm
theorem data_fits (p : Pt) (s : List UInt8) : p.f s.length + (p.data s).length ≤ s.length := by
  have h1 := Pt.f_le p s.length
  have h2 := Pt.data_len p s
  have h3 : (p.raw s).length ≤ min s.length (p.f s.length + p.lg % 40) - p.f s.length := by unfold Pt.raw; rw [List.length_take]; omega
  omega
theorem CameAt.fro {w w' X g cp isn n C} {k : Nat} (h : CameAt w X g cp isn n C) (hf : Fr (fun j => j = k) w w') (h1 : X ≠ k) (h2 : g ≠ k) : CameAt w' X g cp isn n C := h.keep (hf.block X h.ltX h1) (hf.block g h.ltg h2)
/-- Three hundred that are not. -/
def fals : Array Value := Array.replicate 300 (.bool false)
theorem zero71 (w : World) : (zeroValue 71).run Try.prog w = .ok (.agg fals) w := by kernel_rfl
theorem bl_new (w : World) (t : TypeId) : Bl (w.alloc (.cells fals t)) w.heap.size 300 (fun _ => false) := by
  refine ⟨by rw [World.size_alloc]; omega, fun i hi => ⟨?_, free12 (heap_alloc_new w _) i⟩⟩
  rw [World.cell?_alloc_new]
  unfold fals
  rw [Array.getElem?_replicate, if_pos hi]
theorem xor_byte (a : UInt8) (b : Int) (h0 : 1 ≤ b) (h1 : b ≤ 255) : ∃ c : UInt8, bits .xor .u8 (a.toNat : Int) b = (c.toNat : Int) ∧ c ≠ a := by
  obtain ⟨n, rfl⟩ := Int.eq_ofNat_of_zero_le (a := b) (by omega)
  have ha := a.toNat_lt
  have hx : a.toNat ^^^ n < 2 ^ 8 := Nat.xor_lt_two_pow ha (by omega)
  refine ⟨UInt8.ofNat (a.toNat ^^^ n), ?_, ?_⟩
  · show bits .xor .u8 (a.toNat : Int) (n : Int) = _
    rw [u8_xor_nat _ _ (by omega) (by omega), UInt8.toNat_ofNat']; omega
  · intro e
    have e2 := congrArg UInt8.toNat e
    rw [UInt8.toNat_ofNat', Nat.mod_eq_of_lt (by omega)] at e2
    have : n = 0 := by
      have := congrArg (a.toNat ^^^ ·) e2
      simpa [← Nat.xor_assoc] using this
    omega
set_option maxRecDepth 100000 in
set_option maxHeartbeats 8000000 in
theorem shapeOwn (isn : Int) (hi : 0 ≤ isn ∧ isn < 4294967296) (s0 : ByteArray) (hs0 : s0.size ≤ 9223372036854775807) (A : Option Addr) (n C : Nat) (ps0 : List Pt) (lo at' : Nat) (hlo : lo < 65536) (hat : at' < 65536) (oth : Nat) (ho : oth < 256) (w : World) (hP : Parts w A n C ps0) :
    Calls Try.prog 12 #[.int .u32 isn, .string s0, .slice A n C, .agg #[.int .u16 lo, .int .u16 at'], .int .u8 oth] w fun e w' => e = .returned (.bool true) ∧ Gw w w' := by
  have hsp := hP.2.2.2.1
  have hC := hP.2.1
  have hCm := hP.2.2.1
  have HP := Lib.hid hP
  clear hP
  have e0 := cell12 (heap_alloc_new w (.cells #[.int .u16 lo, .int .u16 at'] 70)) 0 _ rfl
  have e1 := cell12 (heap_alloc_new w (.cells #[.int .u16 lo, .int .u16 at'] 70)) 1 _ rfl
  have hg0 := gw_alloc1 w (.cells #[.int .u16 lo, .int .u16 at'] 70)
  go_enter Try.func12, Try.ntmps12
  go_wp2_with fail
  go_quiet (fail)
  have hg1 := gw_drewN hg0 nq
  generalize (w.alloc (.cells #[.int .u16 lo, .int .u16 at'] 70)).drewN nq = wa at *
  clear e0 e1 hg0
  go_wp2_with fail
  refine (cut_ s0 A n C hs0 hC hCm hsp _).mono ?_
  rintro e w1 ⟨s, m, rfl, hs, hm, hmn, hg⟩
  have HP1 := Lib.hid (HP.out.take m hmn)
  have HG := Lib.hid (gw_trans hg1 hg)
  generalize ps0.take m = ps at *
  clear HP hsp hg hmn hC hs0 hg1
  go_wp2_with fail
  refine (new_ isn 300 (by omega) hi _).mono ?_
  rintro e w2 ⟨X, g, rfl, hc, hX, hgg, hg⟩
  have HX : Hid (w.heap.size ≤ X ∧ w.heap.size ≤ g ∧ g ≠ X) := Lib.hid ⟨by have := HG.out.size; omega, by have := HG.out.size; omega, hc.ne⟩
  have HG2 := Lib.hid (gw_trans HG.out hg)
  have HC := Lib.hid hc
  clear HG hg hX hgg hc
  go_wp2_with fail
  refine (works _).mono ?_
  rintro e w3 ⟨rfl, hg⟩
  have HG3 := Lib.hid (gw_trans HG2.out hg)
  have HC' := Lib.hid (HC.out.gw hg)
  clear HG2 hg HC
  have hz71 := zero71
  go_wp2_with fail
  have hbl := bl_new w3 71
  have hg3 := gw_alloc1 w3 (.cells fals 71)
  generalize w3.alloc (.cells fals 71) = w4 at *
  obtain ⟨bc, hbc⟩ : ∃ bc, w3.heap.size = bc := ⟨_, rfl⟩
  rw [hbc] at hbl ⊢
  have HBC : Hid (g ≠ bc ∧ X ≠ bc ∧ w.heap.size ≤ bc) := Lib.hid ⟨by have := HC'.out.ltg; omega, by have := HC'.out.ltX; omega, by have := HG3.out.size; omega⟩
  have HC4 := Lib.hid (HC'.out.gw hg3)
  have HG4 := Lib.hid (gw_trans HG3.out hg3)
  have HBL := Lib.hid hbl
  clear HC' HG3 hbc hbl hg3 hz71
  have hsl : s.data.toList.length = s.size := Array.length_toList
  have HSL := Lib.hid hsl
  clear hsl
  go_loopw [15] (fun v15 wr => ∃ k : Nat, k ≤ m ∧ v15 = .int .i64 k ∧ Hid (∃ M, CameAt wr X g 300 isn 300 (ownC s.data.toList M) ∧ Bl wr bc 300 M ∧ Gw w wr)) (fun v15 _ => m - (intOf v15).toNat)
  case atStart => exact ⟨0, Nat.zero_le _, rfl, Lib.hid ⟨fun _ => false, HC4.out.like (fun _ _ _ _ => by unfold ownC; rfl), HBL.out, HG4.out⟩⟩
  case round =>
    obtain ⟨k, hk, rfl, HI⟩ := hrel
    clear HC4 HG4 HBL
    obtain ⟨M, hck, hbk, hgk⟩ := HI.out
    clear HI
    have HCK := Lib.hid hck
    have HGK := Lib.hid hgk
    have HBK := Lib.hid hbk
    clear hck hgk hbk
    by_cases hkm : k < m
    · have z0 : (k : Int) < m := by omega
      have hpl : ps.length = m := HP1.out.1
      obtain ⟨gp, off, rfl, hgp, hatp⟩ := HP1.out.2.2.2.2.resolve_left (by omega)
      obtain ⟨⟨d0, d1, d2, d3⟩, hokp⟩ := hatp k (by omega)
      have d0 := cell_gw HGK.out d0
      have d1 := cell_gw HGK.out d1
      have d2 := cell_gw HGK.out d2
      have d3 := cell_gw HGK.out d3
      have hok2 : (Pt.mk ps[k].fr ps[k].lg ps[k].wh 0).Ok := ⟨hokp.fr, hokp.lg, hokp.wh, by show 0 < 256; omega⟩
      obtain ⟨f, d, hf, hd, hfd, hhit, hseg⟩ := seg_any (Pt.mk ps[k].fr ps[k].lg ps[k].wh 0) hok2 isn hi s (by omega)
      have hfit := data_fits (Pt.mk ps[k].fr ps[k].lg ps[k].wh 0) s.data.toList
      have hdl : d.data.toList.length = d.size := Array.length_toList
      rw [← hfd.out.1, ← hfd.out.2, hdl, HSL.out] at hfit
      have hfe : (ps[k].fr : Int) % ((s.size : Int) + 1) = f := by rw [hfd.out.1, HSL.out]; unfold Pt.f; rfl
      have HMORE : Hid (∀ a b, und (ownC s.data.toList M) (brings isn ((isn + 1 + f) % 4294967296) d) a b = ownC s.data.toList (more M f d.size) a b) := Lib.hid (fun a b => by
        have h1 := own_more (Pt.mk ps[k].fr ps[k].lg ps[k].wh 0) rfl s.data.toList M a b
        rw [← hfd.out.1, ← hfd.out.2, hdl] at h1
        rw [← h1]
        have h2 := brings_at isn hi f (by omega) d
        unfold und
        rw [h2, hhit])
      have HSEG : Hid (∀ W, Calls Try.prog 31 #[.agg #[.int .u16 ps[k].fr, .int .u16 ps[k].lg, .int .u8 ps[k].wh, .int .u8 0], .int .u32 isn, .string s] W fun e w' => e = .returned (segV ((isn + 1 + f) % 4294967296) d) ∧ Gw W w') := Lib.hid hseg
      have hfr : ps[k].fr < 65536 := hokp.fr
      clear hatp hgp hokp hok2 hhit hseg hfd
      generalize ps[k] = pk at *
      clear hpl hdl
      go_wp2_with fail
      have hga := gw_alloc1 wr (.cells #[.int .u16 pk.fr, .int .u16 pk.lg, .int .u8 pk.wh, .int .u8 0] 50)
      have hha := heap_alloc_new wr (.cells #[.int .u16 pk.fr, .int .u16 pk.lg, .int .u8 pk.wh, .int .u8 0] 50)
      generalize wr.alloc (.cells #[.int .u16 pk.fr, .int .u16 pk.lg, .int .u8 pk.wh, .int .u8 0] 50) = wp at *
      refine (HSEG.out _).mono ?_
      rintro e w5 ⟨rfl, hg5⟩
      have HC5 := Lib.hid (HCK.out.gw (gw_trans hga hg5))
      have HG5 := Lib.hid (gw_trans HGK.out (gw_trans hga hg5))
      have HB5 := Lib.hid (HBK.out.gw (gw_trans hga hg5))
      have HH5 := Lib.hid ((hg5.block _ (Array.getElem?_eq_some_iff.1 hha).1 (fun h => h)).trans hha)
      obtain ⟨bp, hbp⟩ : ∃ bp, wr.heap.size = bp := ⟨_, rfl⟩
      rw [hbp] at HH5 ⊢
      have HBP : Hid (g ≠ bp ∧ bc ≠ bp ∧ bp < w5.heap.size) := Lib.hid ⟨by have := HCK.out.ltg; omega, by have := HBK.out.1; omega, (Array.getElem?_eq_some_iff.1 HH5.out).1⟩
      clear HCK HGK HBK hga hha hg5 d0 d1 d2 d3 hbp
      go_wp2_with fail
      have hz6 := heap_alloc_new w5 (.cells #[.int .i64 0, .int .u16 0, .int .u16 0, .int .u32 ((isn + 1 + (f : Int)) % 4294967296), .int .u32 0, .bool false, .bool false, .bool false, .bool false, .int .u16 0, .string ⟨#[]⟩, .string d] 48)
      have hg6 := gw_alloc1 w5 (.cells #[.int .i64 0, .int .u16 0, .int .u16 0, .int .u32 ((isn + 1 + (f : Int)) % 4294967296), .int .u32 0, .bool false, .bool false, .bool false, .bool false, .int .u16 0, .string ⟨#[]⟩, .string d] 48)
      generalize w5.alloc (.cells #[.int .i64 0, .int .u16 0, .int .u16 0, .int .u32 ((isn + 1 + (f : Int)) % 4294967296), .int .u32 0, .bool false, .bool false, .bool false, .bool false, .int .u16 0, .string ⟨#[]⟩, .string d] 48) = w6 at *
      obtain ⟨Z, hZ⟩ : ∃ Z, w5.heap.size = Z := ⟨_, rfl⟩
      rw [hZ] at hz6 ⊢
      have HZZ : Hid (g ≠ Z ∧ bc ≠ Z ∧ w.heap.size ≤ Z) := Lib.hid ⟨by have := HC5.out.ltg; omega, by have := HB5.out.1; omega, by have := HG5.out.size; omega⟩
      have HC6 := Lib.hid (HC5.out.gw hg6)
      have HG6 := Lib.hid (gw_trans HG5.out hg6)
      have HB6 := Lib.hid (HB5.out.gw hg6)
      have HH6 := Lib.hid ((hg6.block _ HBP.out.2.2 (fun h => h)).trans HH5.out)
      have HZ6 := Lib.hid hz6
      clear HC5 HG5 HB5 HH5 hz6 hg6 hZ
      refine (add_ HC6.out _ _ _ _ _ _ _ _ _ _ d (by omega)).mono ?_
      rintro e w7 ⟨rfl, hc, hfx⟩
      have hc : CameAt w7 X g 300 isn 300 (ownC s.data.toList (more M f d.size)) := hc.like (fun a b _ _ => HMORE.out a b)
      have HC7 := Lib.hid hc
      have HG7 := Lib.hid (gw_fr HG6.out HX.out.2.1 hfx)
      have HB7 := Lib.hid (HB6.out.keep hfx.size (hfx.block _ HB6.out.1 HBC.out.1.symm))
      have HH7 := Lib.hid ((hfx.block _ (Array.getElem?_eq_some_iff.1 HH6.out).1 HBP.out.1.symm).trans HH6.out)
      have HZ7 := Lib.hid ((hfx.block _ (Array.getElem?_eq_some_iff.1 HZ6.out).1 HZZ.out.1.symm).trans HZ6.out)
      clear HC6 HG6 HB6 HH6 HZ6 hc hfx HMORE
      have q0 := cell12 HH7.out 0 _ rfl
      obtain ⟨wo, hwo⟩ : ∃ wo : World, wo = wr := ⟨_, rfl⟩
      subst hwo
      go_wp2_with fail
      go_loopw [19] (fun v19 wr => ∃ j : Nat, j ≤ d.size ∧ v19 = .int .i64 j ∧ Hid (CameAt wr X g 300 isn 300 (ownC s.data.toList (more M f d.size)) ∧ Bl wr bc 300 (more M f j) ∧ Gw w wr ∧ wr.cell? ⟨Z, 11, none⟩ = some (.string d))) (fun v19 _ => d.size - (intOf v19).toNat)
      case atStart => exact ⟨0, Nat.zero_le _, rfl, Lib.hid ⟨HC7.out, ⟨HB7.out.1, fun i hi => ⟨by rw [(HB7.out.2 i hi).1]; congr 2; unfold more; rw [decide_eq_false (by omega), Bool.or_false], (HB7.out.2 i hi).2⟩⟩, HG7.out, cell12 HZ7.out 11 _ rfl⟩⟩
      case round =>
        obtain ⟨j, hj, rfl, HJ⟩ := hrel
        clear HC7 HG7 HB7 HH7 HZ7 q0
        by_cases hjd : j < d.size
        · have z1 : (j : Int) < d.size := by omega
          have r11 := HJ.out.2.2.2
          have c1 := (HJ.out.2.1.2 (f + j) (by omega)).1
          have c2 := (HJ.out.2.1.2 (f + j) (by omega)).2
          have z2 : (f : Int) + j < 300 := by omega
          have z3 : (0 : Int) ≤ (f : Int) + j := by omega
          have z4 : ((f : Int) + j).toNat = f + j := by omega
          have HSET := Lib.hid (HJ.out.2.1.set (k := f + j) (by omega) true (more M f (j + 1)) (fun i hi => by
            unfold more
            by_cases e : i = f + j
            · rw [if_pos e, decide_eq_true (by omega), Bool.or_true]
            · rw [if_neg e]; congr 1; rw [Bool.eq_iff_iff]; simp; omega))
          have HCN := Lib.hid (HJ.out.1.fro (Fr.setCell (S := fun k => k = bc) (Fr.refl _ wr) ⟨bc, f + j, none⟩ (.bool true) rfl) HBC.out.2.1 HBC.out.1)
          have HGN := Lib.hid (gw_set HJ.out.2.2.1 ⟨bc, f + j, none⟩ HBC.out.2.2 (.bool true))
          have HRN := Lib.hid ((World.cell?_setCell_other wr ⟨bc, f + j, none⟩ ⟨Z, 11, none⟩ (.bool true) (by intro e; injection e with e1; exact HZZ.out.2.1 e1)).trans r11)
          go_wp2_with fail
          go_roundw
          case rel => exact ⟨j + 1, by omega, by go_num, Lib.hid ⟨HCN.out, HSET.out, HGN.out, HRN.out⟩⟩
          case measure => simp [intOf]; omega
        · obtain rfl : j = d.size := by omega
          have r11 := HJ.out.2.2.2
          go_wp2_with fail
          go_roundw
          case rel => exact ⟨k + 1, by omega, by go_num, Lib.hid ⟨more M f d.size, HJ.out.1, HJ.out.2.1, HJ.out.2.2.1⟩⟩
          case measure => simp [intOf]; omega
    · obtain rfl : k = m := by omega
      obtain ⟨L, hL⟩ : ∃ L : Nat, (lo : Int) % ((s.size : Int) + 1) = L := ⟨lo % (s.size + 1), rfl⟩
      obtain ⟨fe, hfe⟩ : ∃ fe : Nat, (at' : Int) % ((s.size : Int) + 2) = fe := ⟨at' % (s.size + 2), rfl⟩
      have hLs : L ≤ s.size := by
        have := Int.emod_lt_of_pos (lo : Int) (b := (s.size : Int) + 1) (by omega); omega
      have hfs : fe ≤ s.size + 1 := by
        have := Int.emod_lt_of_pos (at' : Int) (b := (s.size : Int) + 2) (by omega); omega
      have zL : (L : Int) ≤ s.size := by omega
      have hrs : (s.extract 0 L).size = L := by rw [ByteArray.size_extract]; omega
      have hrl : (s.extract 0 L).data.toList = s.data.toList.take L := by simp [ByteArray.data_extract]
      go_wp2_with fail
      rw [hfe]
      generalize s.extract 0 L = r at *
      have HRL := Lib.hid hrl
      have hss2 : s.size ≤ 9223372036854775807 := by omega
      have hrs2 : r.size ≤ 9223372036854775807 := by omega
      clear hrl hL hfe
      go_loop [22, 23] (fun v22 v23 => ∃ i : Nat, fe ≤ i ∧ i ≤ s.size + 1 ∧ (i = fe ∨ i ≤ L) ∧ v23 = .int .i64 i ∧ v22 = .bool (allF M fe i)) (fun _ v23 => (s.size + 1) - (intOf v23).toNat)
      case atStart => exact ⟨fe, Nat.le_refl _, hfs, .inl rfl, rfl, by rw [allF_at M fe fe (Nat.le_refl _)]⟩
      case round =>
        obtain ⟨i, hi1, hi2, hi3, rfl, rfl⟩ := hrel
        by_cases hiL : i < L
        · have z1 : (i : Int) < L := by omega
          have c1 := (HBK.out.2 i (by omega)).1
          have z2 : (i : Int) < 300 := by omega
          have hsucc := allF_succ M fe i hi1
          obtain ⟨ai, hai⟩ : ∃ ai, allF M fe i = ai := ⟨_, rfl⟩
          obtain ⟨mi, hmi⟩ : ∃ mi, M i = mi := ⟨_, rfl⟩
          rw [hmi] at c1 hsucc
          rw [hai] at hsucc ⊢
          have HS := Lib.hid hsucc
          clear hsucc hai hmi
          cases ai with
          | true =>
            go_wp2_with fail
            go_round
            case rel => exact ⟨i + 1, by omega, by omega, .inr (by omega), by go_num, by rw [HS.out]; rfl⟩
            case measure => simp [intOf]; omega
          | false =>
            go_wp2_with fail
            go_round
            case rel => exact ⟨i + 1, by omega, by omega, .inr (by omega), by go_num, by rw [HS.out]; rfl⟩
            case measure => simp [intOf]; omega
        · have hal : allF M fe i = allF M fe L := by
            rcases hi3 with e | e
            · subst e; rw [allF_at M _ _ (Nat.le_refl _), allF_at M _ _ (by omega)]
            · have : i = L := by omega
              rw [this]
          rw [hal]
          obtain ⟨al, hala⟩ : ∃ al, allF M fe L = al := ⟨_, rfl⟩
          rw [hala]
          have O1 := Lib.hid (show fitsF (fun off b => row 300 (ownC s.data.toList M) off b) r.data.toList s.data.toList fe = al by rw [HRL.out, own_fits (by rw [HSL.out]; exact hLs) (by rw [HSL.out]; exact hs), hala])
          have O2 := Lib.hid (show fitsF (fun off b => row 300 (ownC s.data.toList M) off b) r.data.toList s.data.toList (-1) = true by rw [HRL.out]; exact own_all (by rw [HSL.out]; exact hLs))
          have O3 := Lib.hid (show fitsF (fun off b => row 300 (ownC s.data.toList M) off b) r.data.toList s.data.toList (L : Nat) = true by rw [HRL.out, own_fits (by rw [HSL.out]; exact hLs) (by rw [HSL.out]; exact hs), allF_at M L L (Nat.le_refl _)])
          have HRS := Lib.hid hrs
          clear hal hala
          go_wp2_with fail
          refine (fits_eq HCK.out r s fe hrs2 hss2 al O1.out).mono ?_
          rintro e x1 ⟨rfl, hc, hg⟩
          have HC1 := Lib.hid hc
          have HG1 := Lib.hid (gw_trans HGK.out hg)
          clear hc hg HCK HGK HBK O1
          go_wp2_with fail
          refine (fits_eq HC1.out r s (-1) hrs2 hss2 true O2.out).mono ?_
          rintro e x2 ⟨rfl, hc, hg⟩
          have HC2 := Lib.hid hc
          have HG2 := Lib.hid (gw_trans HG1.out hg)
          clear hc hg HC1 HG1 O2
          go_wp2_with fail
          refine (fits_eq HC2.out r s (L : Nat) hrs2 hss2 true O3.out).mono ?_
          rintro e x3 ⟨rfl, hc, hg⟩
          have HC3 := Lib.hid hc
          have HG3 := Lib.hid (gw_trans HG2.out hg)
          clear hc hg HC2 HG2 O3
          by_cases hL0 : L = 0
          · subst hL0
            go_wp2_with fail
            go_ret
            exact ⟨rfl, HG3.out⟩
          · have z5 : ((L : Int) == 0) = false := by rw [beq_eq_false_iff_ne]; omega
            go_wp2_with fail
            clear hrs
            rw [run_bytes_of_string x3 9 53 5 r Try.underlying9 Try.underlying53 Try.underlying5]
            have hbuf := buf_new x3 r (grownCap x3 r.size 0 5)
            rw [HRS.out] at hbuf ⊢
            have hgc : Gw x3 (x3.drew.alloc (.cells (bytesRow r (grownCap x3 L 0 5)) 5 ((bytesRow r (grownCap x3 L 0 5)).size, (bytesRow r (grownCap x3 L 0 5)).size + 1))) := ((Fr.refl _ x3).drew).alloc _
            obtain ⟨B, hB⟩ : ∃ B, x3.heap.size = B := ⟨_, rfl⟩
            have HBB : Hid (g ≠ B ∧ X ≠ B ∧ w.heap.size ≤ B) := Lib.hid ⟨by have := HC3.out.ltg; omega, by have := HC3.out.ltX; omega, by have := HG3.out.size; omega⟩
            rw [hB] at hbuf ⊢
            have HC4 := Lib.hid (HC3.out.gw hgc)
            have HG4 := Lib.hid (gw_trans HG3.out hgc)
            generalize x3.drew.alloc (.cells (bytesRow r (grownCap x3 L 0 5)) 5 ((bytesRow r (grownCap x3 L 0 5)).size, (bytesRow r (grownCap x3 L 0 5)).size + 1)) = x4 at *
            generalize grownCap x3 L 0 5 = cap at *
            clear HC3 HG3 hgc hB
            obtain ⟨kk, hkk⟩ : ∃ kk : Nat, (oth : Int) % (L : Int) = kk := ⟨oth % L, rfl⟩
            have hkn : kk < L := by
              have := Int.emod_lt_of_pos (oth : Int) (b := (L : Int)) (by omega); omega
            have hrll : r.data.toList.length = L := by rw [← HRS.out]; exact Array.length_toList
            have hkl : kk < r.data.toList.length := by rw [hrll]; exact hkn
            obtain ⟨c, hx, hne⟩ := xor_byte r.data.toList[kk] (1 + (oth : Int) % 255) (by omega) (by omega)
            have e5 := (hbuf.2 kk hkl).1
            have f5 := (hbuf.2 kk hkl).2
            have hset := hbuf.set hkl c
            have hlen : (r.data.toList.set kk c).length = L := by rw [List.length_set]; exact hrll
            have hned : (r.data.toList.set kk c)[kk]? ≠ s.data.toList[kk]? := by
              rw [List.getElem?_set_self hkl]
              have : s.data.toList[kk]? = some r.data.toList[kk] := by
                have h1 : r.data.toList[kk]? = s.data.toList[kk]? := by rw [HRL.out, List.getElem?_take_of_lt hkn]
                rw [← h1, List.getElem?_eq_getElem hkl]
              rw [this]
              intro e
              exact hne (Option.some.inj e)
            obtain ⟨od, hod⟩ : ∃ od : ByteArray, (⟨(r.data.toList.set kk c).toArray⟩ : ByteArray) = od := ⟨_, rfl⟩
            have hodl : od.data.toList = r.data.toList.set kk c := by rw [← hod]
            have hods : od.size ≤ 9223372036854775807 := by rw [← hod]; show Array.size _ ≤ _; rw [List.size_toArray, hlen]; omega
            have P1 := Lib.hid (show fitsF (fun off b => row 300 (ownC s.data.toList M) off b) od.data.toList s.data.toList fe = false from odd_no (L := L) (k := kk) (by rw [HSL.out]; exact hLs) (by rw [HSL.out]; exact hs) hkn (by rw [hodl]; exact hlen) (by rw [hodl]; exact hned) _ (.inl (by omega)))
            have P2 := Lib.hid (show fitsF (fun off b => row 300 (ownC s.data.toList M) off b) od.data.toList s.data.toList (-1) = false from odd_no (L := L) (k := kk) (by rw [HSL.out]; exact hLs) (by rw [HSL.out]; exact hs) hkn (by rw [hodl]; exact hlen) (by rw [hodl]; exact hned) _ (.inr rfl))
            have HCV : Hid (∀ W, Buf W B (r.data.toList.set kk c) → (convert 53 9 (.slice (some ⟨B, 0, none⟩) L cap)).run Try.prog W = .ok (.string od) W) := Lib.hid (fun W h => by rw [← hod]; exact buf_str h hlen cap)
            generalize r.data.toList.set kk c = ol at *
            generalize (r.data.toList[kk].toNat : Int) = x at *
            have HSET := Lib.hid hset
            clear hrll hkl hne hset hlen hned hod hodl hbuf
            have z6 : (kk : Int) < L := by omega
            have HC5 := Lib.hid (HC4.out.fro (Fr.setCell (S := fun k => k = B) (Fr.refl _ x4) ⟨B, kk, none⟩ (.int .u8 (c.toNat : Int)) rfl) HBB.out.2.1 HBB.out.1)
            have HG5 := Lib.hid (gw_set HG4.out ⟨B, kk, none⟩ HBB.out.2.2 (.int .u8 (c.toNat : Int)))
            have hcv := HCV.out _ HSET.out
            go_wp2_with fail
            refine (fits_eq HC5.out od s fe hods hss2 false P1.out).mono ?_
            rintro e x6 ⟨rfl, hc, hg⟩
            have HC6 := Lib.hid hc
            have HG6 := Lib.hid (gw_trans HG5.out hg)
            have HB6 := Lib.hid (HSET.out.gw hg)
            clear hc hg HC4 HG4 HC5 HG5 HSET hcv P1 e5 f5
            have hcv := HCV.out _ HB6.out
            go_wp2_with fail
            refine (fits_eq HC6.out od s (-1) hods hss2 false P2.out).mono ?_
            rintro e x7 ⟨rfl, hc, hg⟩
            have HG7 := Lib.hid (gw_trans HG6.out hg)
            clear hc hg HC6 HG6 HB6 hcv P2
            go_wp2_with fail
            go_ret
            exact ⟨rfl, HG7.out⟩
end Go.Proofs.Ytmjajepdlopkiaa.Sh
