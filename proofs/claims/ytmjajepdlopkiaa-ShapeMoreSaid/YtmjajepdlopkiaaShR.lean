/- The walk of ShapeMore. -/
import Derived.Test.YtmjajepdlopkiaaShQ
namespace Go.Proofs.Ytmjajepdlopkiaa.Sh
open Go.RowKit
set_option linter.unusedVariables false
set_option linter.unusedSimpArgs false

theorem CameAt.fro {w w' X g cp isn n C} {k : Nat} (h : CameAt w X g cp isn n C) (hf : Fr (fun j => j = k) w w') (h1 : X ≠ k) (h2 : g ≠ k) : CameAt w' X g cp isn n C := h.keep (hf.block X h.ltX h1) (hf.block g h.ltg h2)
theorem cell_fo {W W' : World} {p : Addr} {v : Value} {k : Nat} (hf : Fr (fun j => j = k) W W') (hn : p.block ≠ k) (h : W.cell? p = some v) : W'.cell? p = some v := cell_fr hf hn h
theorem fr_sets {w W : World} {Z : Nat} (h : Fr (fun k => k = Z) w W) (vs : List Value) : ∀ o, Fr (fun k => k = Z) w (W.setCells Z o vs) := by
  induction vs generalizing W with
  | nil => intro o; exact h
  | cons v r ih => intro o; exact ih (h.setCell ⟨Z, o, none⟩ v rfl) _
set_option maxRecDepth 100000 in
set_option maxHeartbeats 8000000 in
theorem shapeMore (isn : Int) (hi : 0 ≤ isn ∧ isn < 4294967296) (s0 : ByteArray) (hs0 : s0.size ≤ 9223372036854775806) (A : Option Addr) (n C : Nat) (ps0 : List Pt) (p : Pt) (hp : p.Ok) (at' : Nat) (hat : at' < 65536) (w : World) (hP : Parts w A n C ps0) :
    Calls Try.prog 13 #[.int .u32 isn, .string s0, .slice A n C, .agg #[.int .u16 p.fr, .int .u16 p.lg, .int .u8 p.wh, .int .u8 p.by'], .int .u16 at'] w fun e w' => e = .returned (.bool true) ∧ Gw w w' := by
  have hsp := hP.2.2.2.1
  have hC := hP.2.1
  have hCm := hP.2.2.1
  have HP := Lib.hid hP
  obtain ⟨fr, lg, wh, bb⟩ := p
  obtain ⟨h1, h2, h3, h4⟩ := hp
  simp only at h1 h2 h3 h4 ⊢
  clear hP
  obtain ⟨s1, hs1⟩ : ∃ s1 : ByteArray, s0 ++ (⟨#[101]⟩ : ByteArray) = s1 := ⟨_, rfl⟩
  have hz1 : s1.size ≤ 9223372036854775807 ∧ 1 ≤ s1.size := by rw [← hs1, ByteArray.size_append]; show s0.size + 1 ≤ _ ∧ 1 ≤ s0.size + 1; omega
  have HS1 := Lib.hid hs1
  clear hs1
  have e0 := cell12 (heap_alloc_new w (.cells #[.int .u16 fr, .int .u16 lg, .int .u8 wh, .int .u8 bb] 50)) 0 _ rfl
  have e1 := cell12 (heap_alloc_new w (.cells #[.int .u16 fr, .int .u16 lg, .int .u8 wh, .int .u8 bb] 50)) 1 _ rfl
  have e2 := cell12 (heap_alloc_new w (.cells #[.int .u16 fr, .int .u16 lg, .int .u8 wh, .int .u8 bb] 50)) 2 _ rfl
  have e3 := cell12 (heap_alloc_new w (.cells #[.int .u16 fr, .int .u16 lg, .int .u8 wh, .int .u8 bb] 50)) 3 _ rfl
  have hg0 := gw_alloc1 w (.cells #[.int .u16 fr, .int .u16 lg, .int .u8 wh, .int .u8 bb] 50)
  have hz0 := World.size_alloc w (.cells #[.int .u16 fr, .int .u16 lg, .int .u8 wh, .int .u8 bb] 50)
  have hh0 := heap_alloc_new w (.cells #[.int .u16 fr, .int .u16 lg, .int .u8 wh, .int .u8 bb] 50)
  have HH0 := Lib.hid hh0
  have HZ0 := Lib.hid hz0
  clear hz0 hh0
  go_enter Try.func13, Try.ntmps13
  go_wp2_with fail
  generalize w.alloc (.cells #[.int .u16 fr, .int .u16 lg, .int .u8 wh, .int .u8 bb] 50) = wa at *
  obtain ⟨bx, hbx⟩ : ∃ bx, w.heap.size = bx := ⟨_, rfl⟩
  rw [hbx] at HH0 HZ0 e0 e1 e2 e3 ⊢
  have HBX := Lib.hid hbx
  clear hbx
  rw [HS1.out]
  refine (cutS s1 A n C hz1.1 hC hCm hsp _).mono ?_
  rintro e w1 ⟨s, m, rfl, hs, hs2, hm, hmn, hg⟩
  have hsn := hs2 hz1.2
  have HP1 := Lib.hid (HP.out.take m hmn)
  have HG := Lib.hid (gw_trans hg0 hg)
  have HB1 := Lib.hid ((hg.block _ (by rw [HZ0.out]; omega) (fun h => h)).trans HH0.out)
  have HZ1 : Hid (bx < w1.heap.size) := Lib.hid (by have := hg.size; have := HZ0.out; omega)
  generalize ps0.take m = ps at *
  clear HP hsp hg hmn hC hs0 hs2 hz1 HS1 hg0 HH0 HZ0 e0 e1 e2 e3
  go_wp2_with fail
  refine (new_ isn 300 (by omega) hi _).mono ?_
  rintro e w2 ⟨X, g, rfl, hc, hX, hgg, hg⟩
  have HX : Hid (w.heap.size ≤ X ∧ w.heap.size ≤ g ∧ g ≠ X ∧ bx ≠ X ∧ bx ≠ g) := Lib.hid ⟨by have := HG.out.size; omega, by have := HG.out.size; omega, hc.ne, by have := HZ1.out; omega, by have := HZ1.out; omega⟩
  have HG2 := Lib.hid (gw_trans HG.out hg)
  have HC := Lib.hid hc
  have HB2 := Lib.hid ((hg.block _ HZ1.out (fun h => h)).trans HB1.out)
  clear HG hg hX hgg hc HB1 HZ1
  go_wp2_with fail
  refine (works _).mono ?_
  rintro e w3 ⟨rfl, hg⟩
  have HG3 := Lib.hid (gw_trans HG2.out hg)
  have HC' := Lib.hid (HC.out.gw hg)
  have HB3 := Lib.hid ((hg.block _ (Array.getElem?_eq_some_iff.1 HB2.out).1 (fun h => h)).trans HB2.out)
  clear HG2 hg HC HB2
  go_wp2_with fail
  refine (add_ HC'.out _ _ _ _ _ _ _ _ _ _ s (by omega)).mono ?_
  rintro e w4 ⟨rfl, hc, hf⟩
  have hc : CameAt w4 X g 300 isn 300 (hit 0 s.data.toList) := hc.like (fun a b _ _ => by
    have := brings_at isn hi 0 (by omega) s
    rw [show isn + 1 + ((0 : Nat) : Int) = isn + 1 by omega] at this
    unfold und; rw [this]; rfl)
  have HG4 := Lib.hid (gw_fr HG3.out HX.out.2.1 hf)
  have HC := Lib.hid hc
  have HB4 := Lib.hid ((hf.block _ (Array.getElem?_eq_some_iff.1 HB3.out).1 HX.out.2.2.2.2).trans HB3.out)
  clear HG3 HC' HB3 hc hf
  have e0 := cell12 HB4.out 0 _ rfl
  have e1 := cell12 HB4.out 1 _ rfl
  have e2 := cell12 HB4.out 2 _ rfl
  have e3 := cell12 HB4.out 3 _ rfl
  have fz := free12 HB4.out
  obtain ⟨fell, hfell⟩ : ∃ fell : Nat, (at' : Int) % ((s.size : Int) + 1) = fell := ⟨at' % (s.size + 1), rfl⟩
  have hfl : fell ≤ s.size := by
    have := Int.emod_lt_of_pos (at' : Int) (b := (s.size : Int) + 1) (by omega); omega
  obtain ⟨b2, hb2⟩ : ∃ b2 : Nat, 1 + (bb : Int) % 255 = b2 := ⟨1 + bb % 255, rfl⟩
  obtain ⟨l2, hl2⟩ : ∃ l2 : Nat, 1 + (lg : Int) % 39 = l2 := ⟨1 + lg % 39, rfl⟩
  obtain ⟨f2, hf2⟩ : ∃ f2 : Nat, (fr : Int) % (s.size : Int) = f2 := ⟨fr % s.size, rfl⟩
  have hb2b : 1 ≤ b2 ∧ b2 ≤ 255 := by omega
  have hl2b : 1 ≤ l2 ∧ l2 ≤ 39 := by omega
  have hf2b : f2 < s.size := by
    have := Int.emod_lt_of_pos (fr : Int) (b := (s.size : Int)) (by omega); omega
  go_upto_region 10 with fail
  have hok2 : (Pt.mk f2 l2 wh b2).Ok := ⟨by show f2 < 65536; omega, by show l2 < 65536; omega, h3, by show b2 < 256; omega⟩
  have hsl : s.data.toList.length = s.size := Array.length_toList
  obtain ⟨f, d, hf, hd, hfd, _, hseg⟩ := seg_any (Pt.mk f2 l2 wh b2) hok2 isn hi s (by omega)
  obtain ⟨q1, q2, q3, hE⟩ := edit_of s.data.toList (Pt.mk f2 l2 wh b2) (by show f2 < _; omega) hl2b hb2b
  have hff : f = f2 := by rw [hfd.out.1, q1]
  have hdl : d.data.toList.length = d.size := Array.length_toList
  have hdd := hfd.out.2
  rw [← hdd] at q2 q3 hE
  rw [hdl] at q2 q3
  have q3 : f2 + d.size ≤ s.size := by rw [hsl] at q3; exact q3
  obtain ⟨whr, hwhr⟩ : ∃ whr, f2 + wh % d.data.toList.length = whr := ⟨_, rfl⟩
  have hE : Edit s.data.toList (Pt.mk f2 l2 wh b2) (lay s.data.toList f2 d.data.toList) whr := by rw [← hwhr]; exact hE
  rw [hdl] at hwhr
  have HHIT : Hid (∀ a b, hit f2 d.data.toList a b = hit f2 ((Pt.mk f2 l2 wh b2).data s.data.toList) a b) := Lib.hid (fun a b => by rw [hdd])
  subst hff
  have HSEG : Hid (∀ W, Calls Try.prog 31 #[.agg #[.int .u16 f, .int .u16 l2, .int .u8 wh, .int .u8 b2], .int .u32 isn, .string s] W fun e w' => e = .returned (segV ((isn + 1 + f) % 4294967296) d) ∧ Gw W w') := Lib.hid hseg
  have HED := Lib.hid hE
  have HSL := Lib.hid hsl
  have HDL := Lib.hid hdl
  have HWH := Lib.hid hwhr
  have HHB : Hid (s.data.toList.length = s.size) := Lib.hid hsl
  clear hok2 hfd hseg q1 hE hdd hsl hdl hwhr e0 e1 e2 e3 fz
  have hb5 : (((w4.setCell ⟨bx, 3, none⟩ (.int .u8 b2)).setCell ⟨bx, 1, none⟩ (.int .u16 l2)).setCell ⟨bx, 0, none⟩ (.int .u16 f)).heap[bx]? = some (.cells #[.int .u16 f, .int .u16 l2, .int .u8 wh, .int .u8 b2] 50) :=
    heap_setCell_at (heap_setCell_at (heap_setCell_at HB4.out _) _) _
  have hf5 : Fr (fun j => j = bx) w4 (((w4.setCell ⟨bx, 3, none⟩ (.int .u8 b2)).setCell ⟨bx, 1, none⟩ (.int .u16 l2)).setCell ⟨bx, 0, none⟩ (.int .u16 f)) := (((Fr.refl (fun j => j = bx) w4).setCell ⟨bx, 3, none⟩ _ rfl).setCell ⟨bx, 1, none⟩ _ rfl).setCell ⟨bx, 0, none⟩ _ rfl
  generalize ((w4.setCell ⟨bx, 3, none⟩ (.int .u8 b2)).setCell ⟨bx, 1, none⟩ (.int .u16 l2)).setCell ⟨bx, 0, none⟩ (.int .u16 f) = w5 at *
  have HB5 := Lib.hid hb5
  have HC5 := Lib.hid (HC.out.fro hf5 HX.out.2.2.2.1.symm HX.out.2.2.2.2.symm)
  have HG5 := Lib.hid (gw_fr HG4.out (by rw [HBX.out]; exact Nat.le_refl _) hf5)
  clear hb5 hf5 HB4 HC HG4
  have e0 := cell12 HB5.out 0 _ rfl
  have e1 := cell12 HB5.out 1 _ rfl
  have e2 := cell12 HB5.out 2 _ rfl
  have e3 := cell12 HB5.out 3 _ rfl
  go_wp2_with fail
  refine (HSEG.out _).mono ?_
  rintro e w6 ⟨rfl, hg6⟩
  have HC6 := Lib.hid (HC5.out.gw hg6)
  have HG6 := Lib.hid (gw_trans HG5.out hg6)
  have HB6 := Lib.hid ((hg6.block _ (Array.getElem?_eq_some_iff.1 HB5.out).1 (fun h => h)).trans HB5.out)
  clear HC5 HG5 HB5 hg6 e0 e1 e2 e3
  go_wp2_with fail
  have hz7 := heap_alloc_new w6 (.cells #[.int .i64 0, .int .u16 0, .int .u16 0, .int .u32 ((isn + 1 + (f : Int)) % 4294967296), .int .u32 0, .bool false, .bool false, .bool false, .bool false, .int .u16 0, .string ⟨#[]⟩, .string d] 48)
  have hg7 := gw_alloc1 w6 (.cells #[.int .i64 0, .int .u16 0, .int .u16 0, .int .u32 ((isn + 1 + (f : Int)) % 4294967296), .int .u32 0, .bool false, .bool false, .bool false, .bool false, .int .u16 0, .string ⟨#[]⟩, .string d] 48)
  have hs7 := World.size_alloc w6 (.cells #[.int .i64 0, .int .u16 0, .int .u16 0, .int .u32 ((isn + 1 + (f : Int)) % 4294967296), .int .u32 0, .bool false, .bool false, .bool false, .bool false, .int .u16 0, .string ⟨#[]⟩, .string d] 48)
  generalize w6.alloc (.cells #[.int .i64 0, .int .u16 0, .int .u16 0, .int .u32 ((isn + 1 + (f : Int)) % 4294967296), .int .u32 0, .bool false, .bool false, .bool false, .bool false, .int .u16 0, .string ⟨#[]⟩, .string d] 48) = w7 at *
  obtain ⟨Z, hZ⟩ : ∃ Z, w6.heap.size = Z := ⟨_, rfl⟩
  rw [hZ] at hz7 hs7 ⊢
  have HZ : Hid (g ≠ Z ∧ X ≠ Z ∧ bx ≠ Z ∧ w.heap.size ≤ Z) := Lib.hid ⟨by have := HC6.out.ltg; omega, by have := HC6.out.ltX; omega, by have := (Array.getElem?_eq_some_iff.1 HB6.out).1; omega, by have := HG6.out.size; omega⟩
  have HC7 := Lib.hid (HC6.out.gw hg7)
  have HG7 := Lib.hid (gw_trans HG6.out hg7)
  have HB7 := Lib.hid ((hg7.block _ (Array.getElem?_eq_some_iff.1 HB6.out).1 (fun h => h)).trans HB6.out)
  have HZ7 := Lib.hid hz7
  have hs7' : w7.heap.size = Z + 1 := hs7
  clear HC6 HG6 HB6 hz7 hZ hg7 hs7
  rw [run_bytes_of_string w7 9 53 5 s Try.underlying9 Try.underlying53 Try.underlying5]
  have hbuf := buf_new w7 s (grownCap w7 s.size 0 5)
  have hcap := grownCap_ge w7 s.size 0 5
  have hgc : Gw w7 (w7.drew.alloc (.cells (bytesRow s (grownCap w7 s.size 0 5)) 5 ((bytesRow s (grownCap w7 s.size 0 5)).size, (bytesRow s (grownCap w7 s.size 0 5)).size + 1))) := ((Fr.refl _ w7).drew).alloc _
  obtain ⟨B, hB⟩ : ∃ B, w7.heap.size = B := ⟨_, rfl⟩
  rw [hB] at hbuf hs7' ⊢
  have HBB : Hid (g ≠ B ∧ X ≠ B ∧ bx ≠ B ∧ Z ≠ B ∧ w.heap.size ≤ B) := Lib.hid ⟨by have := HC7.out.ltg; omega, by have := HC7.out.ltX; omega, by have := (Array.getElem?_eq_some_iff.1 HB7.out).1; omega, by omega, by have := HZ.out.2.2.2; omega⟩
  have HC8 := Lib.hid (HC7.out.gw hgc)
  have HG8 := Lib.hid (gw_trans HG7.out hgc)
  have HB8 := Lib.hid ((hgc.block _ (Array.getElem?_eq_some_iff.1 HB7.out).1 (fun h => h)).trans HB7.out)
  have HZ8 := Lib.hid ((hgc.block _ (Array.getElem?_eq_some_iff.1 HZ7.out).1 (fun h => h)).trans HZ7.out)
  generalize w7.drew.alloc (.cells (bytesRow s (grownCap w7 s.size 0 5)) 5 ((bytesRow s (grownCap w7 s.size 0 5)).size, (bytesRow s (grownCap w7 s.size 0 5)).size + 1)) = w8 at *
  generalize grownCap w7 s.size 0 5 = cap at *
  have HBUF := Lib.hid hbuf
  clear HC7 HG7 HB7 HZ7 hgc hB hs7' hbuf
  have e0 := cell12 HB8.out 0 _ rfl
  have z11 := cell12 HZ8.out 11 _ rfl
  have hslc : ∀ V, (Instr.slice 53 (.slice (some ⟨B, 0, none⟩) s.size cap) (some (.int .u16 f)) none none).run Try.prog V = .ok (.slice (some ⟨B, f, none⟩) (s.size - f) (cap - f)) V := by
    intro V
    have g1 : (0 : Int) ≤ (f : Int) := by omega
    have g2 : (f : Int) ≤ s.size := by omega
    have g3 : ¬ (s.size : Int) < f := by omega
    have g4 : (s.size : Int) ≤ cap := by omega
    have g5 : ¬ (cap : Int) < s.size := by omega
    have g6 : ¬ cap = f := by omega
    have g7 : ¬ cap - f = 0 := by omega
    clear HC8 HG8 HB8 HZ8 HBUF HBB HZ HHIT HED HSEG HP1 HX HDL HSL HWH HHB e0 z11
    go_simp
  go_upto_region 12 with fail
  go_region_law (refine step_copy rfl (.tmp 73) (.tmp 75) rfl (.slice (some ⟨B, f, none⟩) (s.size - f) (cap - f)) (.string d) rfl rfl (fun v' w' => v' = .int .i64 d.size ∧ Hid (Buf w' B (lay s.data.toList f d.data.toList)) ∧ Hid (Fr (fun k => k = B) w8 w')) ⟨_, _, run_copy_str (HBUF.out.gw (gw_drew _)) d (by omega) (by rw [HSL.out]; omega) _, rfl, Lib.hid (buf_lay _ _ (HBUF.out.gw (gw_drew _)) (by rw [HSL.out, HDL.out]; omega)), Lib.hid (fr_sets ((Fr.refl _ _).drew) _ _)⟩ ?_; rintro v' w9 ⟨rfl, HBUF9, HF9⟩)
  all_goals
    have HC9 := Lib.hid (HC8.out.fro HF9.out HBB.out.2.1 HBB.out.1)
    have HG9 := Lib.hid (gw_fr HG8.out HBB.out.2.2.2.2 HF9.out)
    have HB9 := Lib.hid ((HF9.out.block _ (Array.getElem?_eq_some_iff.1 HB8.out).1 HBB.out.2.2.1).trans HB8.out)
    have HZ9 := Lib.hid ((HF9.out.block _ (Array.getElem?_eq_some_iff.1 HZ8.out).1 HBB.out.2.2.2.1).trans HZ8.out)
    clear HC8 HG8 HB8 HZ8 HF9 e0 z11 HBUF
    have e0 := cell12 HB9.out 0 _ rfl
    have e2 := cell12 HB9.out 2 _ rfl
    have z11 := cell12 HZ9.out 11 _ rfl
    obtain ⟨kk, hkk⟩ : ∃ kk : Nat, (wh : Int) % (d.size : Int) = kk := ⟨wh % d.size, rfl⟩
    have hkn : wh % d.size = kk := by
      have : ((wh % d.size : Nat) : Int) = kk := by rw [← hkk]; rfl
      omega
    have hkt : Int.tmod (wh : Int) (d.size : Int) = kk := by rw [Int.tmod_eq_emod_of_nonneg (by omega)]; exact hkk
    have hkl : kk < d.size := by rw [← hkn]; exact Nat.mod_lt _ (by omega)
    have hwk : f + kk = whr := by rw [← hkn]; exact HWH.out
    have hw1 : IntKind.i64.wrap (wh : Int) = wh := IntWalk.i64_in _ (by omega)
    have hw2 : IntKind.i64.wrap (f : Int) = f := IntWalk.i64_in _ (by omega)
    have hw3 : IntKind.i64.wrap ((f : Int) + kk) = whr := by rw [IntWalk.i64_in _ (by omega)]; omega
    have HWK := Lib.hid hwk
    have HKN := Lib.hid hkn
    have hwl : whr ≤ 400 := by omega
    clear hkn hwk
    go_wp2_with fail
    go_quiet (fail)
    have HC10 := Lib.hid (HC9.out.gw (gw_drewN (Fr.refl _ _) nq))
    have HG10 := Lib.hid (gw_drewN HG9.out nq)
    have HZ10 : Hid ((w9.drewN nq).heap[Z]? = _) := Lib.hid HZ9.out
    have HBUF10 := Lib.hid (HBUF9.out.gw (gw_drewN (Fr.refl _ _) nq))
    generalize w9.drewN nq = w10 at *
    clear HC9 HG9 HB9 HZ9 HBUF9 e0 e2 z11 hkk hkt hw1 hw2 hw3
    obtain ⟨ed, hed⟩ : ∃ ed : ByteArray, (⟨(lay s.data.toList f d.data.toList).toArray⟩ : ByteArray) = ed := ⟨_, rfl⟩
    have hedl : ed.data.toList = lay s.data.toList f d.data.toList := by rw [← hed]
    have hlen : (lay s.data.toList f d.data.toList).length = s.size := by rw [lay_len]; exact HSL.out
    have hes : ed.size = s.size := by rw [← hed]; show Array.size _ = _; rw [List.size_toArray, hlen]
    have hEd : Edit s.data.toList (Pt.mk f l2 wh b2) ed.data.toList whr := by rw [hedl]; exact HED.out
    have hfs : fell ≤ s.data.toList.length := by rw [HSL.out]; exact hfl
    have F1 := Lib.hid (edit_no (n := 300) hEd hfs)
    have HC1 : Hid (∀ a b, und (hit 0 s.data.toList) (brings isn ((isn + 1 + f) % 4294967296) d) a b = und (hit 0 s.data.toList) (hit f ((Pt.mk f l2 wh b2).data s.data.toList)) a b) := Lib.hid (fun a b => by
      have := brings_at isn hi f (by omega) d
      unfold und; rw [this, HHIT.out])
    have F2 : Hid (∀ C : Nat → Nat → Bool, (∀ a b, und (hit 0 s.data.toList) (hit f ((Pt.mk f l2 wh b2).data s.data.toList)) a b = true → C a b = true) → fitsF (fun off b => row 300 C off b) s.data.toList s.data.toList fell = true) := Lib.hid (fun C h => fits_self (by rw [HSL.out]; exact hs) (fun k b hb => h k b (by unfold und; rw [hb]; rfl)) fell)
    have F3 : Hid (fell ≤ whr → ∀ C : Nat → Nat → Bool, (∀ a b, und (hit 0 s.data.toList) (hit f ((Pt.mk f l2 wh b2).data s.data.toList)) a b = true → C a b = true) → fitsF (fun off b => row 300 C off b) ed.data.toList s.data.toList fell = true) := Lib.hid (fun hk C h => edit_yes hEd (by rw [HSL.out]; exact hs) hfs hk h)
    have F4 : Hid (¬ fell ≤ whr → ∀ C : Nat → Nat → Bool, fitsF (fun off b => row 300 C off b) ed.data.toList s.data.toList fell = false) := Lib.hid (fun hk C => edit_after hEd hfs hk)
    have HCV : Hid (∀ W, Buf W B (lay s.data.toList f d.data.toList) → (convert 53 9 (.slice (some ⟨B, 0, none⟩) s.size cap)).run Try.prog W = .ok (.string ed) W) := Lib.hid (fun W h => by rw [← hed]; exact buf_str h hlen cap)
    generalize lay s.data.toList f d.data.toList = el at *
    generalize und (hit 0 s.data.toList) (hit f ((Pt.mk f l2 wh b2).data s.data.toList)) = K1 at *
    have hes2 : ed.size ≤ 9223372036854775807 := by omega
    have hss2 : s.size ≤ 9223372036854775807 := by omega
    have HES := Lib.hid hes2
    have HSS := Lib.hid hss2
    clear hed hedl hlen hes hEd hfs HED HHIT HSEG hes2 hss2 HKN HWK HWH
    have hcv := HCV.out _ HBUF10.out
    go_wp2_with fail
    refine (fits_eq HC10.out ed s fell HES.out HSS.out false F1.out).mono ?_
    rintro e w11 ⟨rfl, hc, hg⟩
    have HC11 := Lib.hid hc
    have HG11 := Lib.hid (gw_trans HG10.out hg)
    have HZ11 := Lib.hid ((hg.block _ (Array.getElem?_eq_some_iff.1 HZ10.out).1 (fun h => h)).trans HZ10.out)
    have HBUF11 := Lib.hid (HBUF10.out.gw hg)
    clear hc hg HC10 HG10 HZ10 HBUF10 hcv F1
    have y0 := cell12 HZ11.out 0 _ rfl
    have y1 := cell12 HZ11.out 1 _ rfl
    have y2 := cell12 HZ11.out 2 _ rfl
    have y3 := cell12 HZ11.out 3 _ rfl
    have y4 := cell12 HZ11.out 4 _ rfl
    have y5 := cell12 HZ11.out 5 _ rfl
    have y6 := cell12 HZ11.out 6 _ rfl
    have y7 := cell12 HZ11.out 7 _ rfl
    have y8 := cell12 HZ11.out 8 _ rfl
    have y9 := cell12 HZ11.out 9 _ rfl
    have y10 := cell12 HZ11.out 10 _ rfl
    have y11 := cell12 HZ11.out 11 _ rfl
    go_wp2_with fail
    clear y0 y1 y2 y3 y4 y5 y6 y7 y8 y9 y10 y11
    refine (add_ HC11.out _ _ _ _ _ _ _ _ _ _ d (by omega)).mono ?_
    rintro e w12 ⟨rfl, hc, hf12⟩
    have hc : CameAt w12 X g 300 isn 300 K1 := hc.like (fun a b _ _ => HC1.out a b)
    have HC12 := Lib.hid hc
    have HG12 := Lib.hid (gw_fr HG11.out HX.out.2.1 hf12)
    have HBUF12 := Lib.hid (HBUF11.out.keep hf12.size (hf12.block _ HBUF11.out.1 HBB.out.1.symm))
    clear hc hf12 HC11 HG11 HZ11 HBUF11 HC1
    have hcv := HCV.out _ HBUF12.out
    by_cases hfw : fell ≤ whr
    · have hdec : decide (fell ≤ whr) = true := decide_eq_true hfw
      go_wp2_with fail
      refine (fits_eq HC12.out ed s fell HES.out HSS.out true (F3.out hfw K1 (fun _ _ h => h))).mono ?_
      rintro e w13 ⟨rfl, hc, hg⟩
      have HC13 := Lib.hid hc
      have HG13 := Lib.hid (gw_trans HG12.out hg)
      have HBUF13 := Lib.hid (HBUF12.out.gw hg)
      clear hc hg HC12 HG12 HBUF12 hcv
      go_wp2_with fail
      refine (fits_eq HC13.out s s fell HSS.out HSS.out true (F2.out K1 (fun _ _ h => h))).mono ?_
      rintro e w14 ⟨rfl, hc, hg⟩
      have HC14 := Lib.hid hc
      have HG14 := Lib.hid (gw_trans HG13.out hg)
      have HBUF14 := Lib.hid (HBUF13.out.gw hg)
      clear hc hg HC13 HG13 HBUF13
      go_wp2_with fail
      go_loopw [18] (fun v18 wr => ∃ k : Nat, k ≤ m ∧ v18 = .int .i64 k ∧ Hid (∃ CK, CameAt wr X g 300 isn 300 CK ∧ (∀ a b, K1 a b = true → CK a b = true) ∧ Gw w wr ∧ Buf wr B el)) (fun v18 _ => m - (intOf v18).toNat)
      case atStart => exact ⟨0, Nat.zero_le _, rfl, Lib.hid ⟨K1, HC14.out, fun _ _ h => h, HG14.out, HBUF14.out⟩⟩
      case round =>
        obtain ⟨k, hk, rfl, HI⟩ := hrel
        clear HC14 HG14 HBUF14
        obtain ⟨CK, hck, hsub, hgk, hbk⟩ := HI.out
        clear HI
        have HCK := Lib.hid hck
        have HSUB := Lib.hid hsub
        have HGK := Lib.hid hgk
        have HBK := Lib.hid hbk
        clear hck hsub hgk hbk
        by_cases hkm : k < m
        · have z0 : (k : Int) < m := by omega
          have hpl : ps.length = m := HP1.out.1
          obtain ⟨gp, off, rfl, hgp, hatp⟩ := HP1.out.2.2.2.2.resolve_left (by omega)
          obtain ⟨⟨d0, d1, d2, d3⟩, hokp⟩ := hatp k (by omega)
          have d0 := cell_gw HGK.out d0
          have d1 := cell_gw HGK.out d1
          have d2 := cell_gw HGK.out d2
          have d3 := cell_gw HGK.out d3
          obtain ⟨fp, dp, hfp, hdp, _, hfdp, hsegp⟩ := seg_any ps[k] hokp isn hi s (by omega)
          have HSP := Lib.hid hsegp
          clear hatp hgp hokp hfdp hsegp
          generalize ps[k] = pk at *
          clear hpl
          go_wp2_with fail
          refine (HSP.out _).mono ?_
          rintro e x1 ⟨rfl, hg⟩
          have HCK' := Lib.hid (HCK.out.gw hg)
          have HGK' := Lib.hid (gw_trans HGK.out hg)
          have HBK' := Lib.hid (HBK.out.gw hg)
          clear HCK HGK HBK hg d0 d1 d2 d3
          go_wp2_with fail
          refine (add_ HCK'.out _ _ _ _ _ _ _ _ _ _ dp (by omega)).mono ?_
          rintro e x2 ⟨rfl, hc, hfx⟩
          have HSUB2 := Lib.hid (fun a b (h : K1 a b = true) => (show und CK (brings isn ((isn + 1 + fp) % 4294967296) dp) a b = true by unfold und; rw [HSUB.out a b h]; rfl))
          have HCK := Lib.hid hc
          have HGK := Lib.hid (gw_fr HGK'.out HX.out.2.1 hfx)
          have HBK := Lib.hid (HBK'.out.keep hfx.size (hfx.block _ HBK'.out.1 HBB.out.1.symm))
          clear HCK' HGK' HBK' HSUB hc hfx
          generalize und CK (brings isn ((isn + 1 + fp) % 4294967296) dp) = CN at *
          go_wp2_with fail
          refine (fits_eq HCK.out s s fell HSS.out HSS.out true (F2.out CN HSUB2.out)).mono ?_
          rintro e x3 ⟨rfl, hc, hg⟩
          have HCK' := Lib.hid hc
          have HGK' := Lib.hid (gw_trans HGK.out hg)
          have HBK' := Lib.hid (HBK.out.gw hg)
          clear HCK HGK HBK hc hg
          have hcv := HCV.out _ HBK'.out
          go_wp2_with fail
          refine (fits_eq HCK'.out ed s fell HES.out HSS.out true (F3.out hfw CN HSUB2.out)).mono ?_
          rintro e x4 ⟨rfl, hc, hg⟩
          have HCK := Lib.hid hc
          have HGK := Lib.hid (gw_trans HGK'.out hg)
          have HBK := Lib.hid (HBK'.out.gw hg)
          clear HCK' HGK' HBK' hc hg hcv
          go_wp2_with fail
          go_roundw
          case rel => exact ⟨k + 1, by omega, by go_num, Lib.hid ⟨CN, HCK.out, HSUB2.out, HGK.out, HBK.out⟩⟩
          case measure => simp [intOf]; omega
        · obtain rfl : k = m := by omega
          go_wp2_with fail
          go_ret
          exact ⟨rfl, HGK.out⟩
    · have hdec : decide (fell ≤ whr) = false := decide_eq_false hfw
      go_wp2_with fail
      refine (fits_eq HC12.out ed s fell HES.out HSS.out false (F4.out hfw K1)).mono ?_
      rintro e w13 ⟨rfl, hc, hg⟩
      have HC13 := Lib.hid hc
      have HG13 := Lib.hid (gw_trans HG12.out hg)
      have HBUF13 := Lib.hid (HBUF12.out.gw hg)
      clear hc hg HC12 HG12 HBUF12 hcv
      go_wp2_with fail
      refine (fits_eq HC13.out s s fell HSS.out HSS.out true (F2.out K1 (fun _ _ h => h))).mono ?_
      rintro e w14 ⟨rfl, hc, hg⟩
      have HC14 := Lib.hid hc
      have HG14 := Lib.hid (gw_trans HG13.out hg)
      have HBUF14 := Lib.hid (HBUF13.out.gw hg)
      clear hc hg HC13 HG13 HBUF13
      go_wp2_with fail
      go_loopw [18] (fun v18 wr => ∃ k : Nat, k ≤ m ∧ v18 = .int .i64 k ∧ Hid (∃ CK, CameAt wr X g 300 isn 300 CK ∧ (∀ a b, K1 a b = true → CK a b = true) ∧ Gw w wr ∧ Buf wr B el)) (fun v18 _ => m - (intOf v18).toNat)
      case atStart => exact ⟨0, Nat.zero_le _, rfl, Lib.hid ⟨K1, HC14.out, fun _ _ h => h, HG14.out, HBUF14.out⟩⟩
      case round =>
        obtain ⟨k, hk, rfl, HI⟩ := hrel
        clear HC14 HG14 HBUF14
        obtain ⟨CK, hck, hsub, hgk, hbk⟩ := HI.out
        clear HI
        have HCK := Lib.hid hck
        have HSUB := Lib.hid hsub
        have HGK := Lib.hid hgk
        have HBK := Lib.hid hbk
        clear hck hsub hgk hbk
        by_cases hkm : k < m
        · have z0 : (k : Int) < m := by omega
          have hpl : ps.length = m := HP1.out.1
          obtain ⟨gp, off, rfl, hgp, hatp⟩ := HP1.out.2.2.2.2.resolve_left (by omega)
          obtain ⟨⟨d0, d1, d2, d3⟩, hokp⟩ := hatp k (by omega)
          have d0 := cell_gw HGK.out d0
          have d1 := cell_gw HGK.out d1
          have d2 := cell_gw HGK.out d2
          have d3 := cell_gw HGK.out d3
          obtain ⟨fp, dp, hfp, hdp, _, hfdp, hsegp⟩ := seg_any ps[k] hokp isn hi s (by omega)
          have HSP := Lib.hid hsegp
          clear hatp hgp hokp hfdp hsegp
          generalize ps[k] = pk at *
          clear hpl
          go_wp2_with fail
          refine (HSP.out _).mono ?_
          rintro e x1 ⟨rfl, hg⟩
          have HCK' := Lib.hid (HCK.out.gw hg)
          have HGK' := Lib.hid (gw_trans HGK.out hg)
          have HBK' := Lib.hid (HBK.out.gw hg)
          clear HCK HGK HBK hg d0 d1 d2 d3
          go_wp2_with fail
          refine (add_ HCK'.out _ _ _ _ _ _ _ _ _ _ dp (by omega)).mono ?_
          rintro e x2 ⟨rfl, hc, hfx⟩
          have HSUB2 := Lib.hid (fun a b (h : K1 a b = true) => (show und CK (brings isn ((isn + 1 + fp) % 4294967296) dp) a b = true by unfold und; rw [HSUB.out a b h]; rfl))
          have HCK := Lib.hid hc
          have HGK := Lib.hid (gw_fr HGK'.out HX.out.2.1 hfx)
          have HBK := Lib.hid (HBK'.out.keep hfx.size (hfx.block _ HBK'.out.1 HBB.out.1.symm))
          clear HCK' HGK' HBK' HSUB hc hfx
          generalize und CK (brings isn ((isn + 1 + fp) % 4294967296) dp) = CN at *
          go_wp2_with fail
          refine (fits_eq HCK.out s s fell HSS.out HSS.out true (F2.out CN HSUB2.out)).mono ?_
          rintro e x3 ⟨rfl, hc, hg⟩
          have HCK' := Lib.hid hc
          have HGK' := Lib.hid (gw_trans HGK.out hg)
          have HBK' := Lib.hid (HBK.out.gw hg)
          clear HCK HGK HBK hc hg
          go_wp2_with fail
          go_roundw
          case rel => exact ⟨k + 1, by omega, by go_num, Lib.hid ⟨CN, HCK'.out, HSUB2.out, HGK'.out, HBK'.out⟩⟩
          case measure => simp [intOf]; omega
        · obtain rfl : k = m := by omega
          go_wp2_with fail
          go_ret
          exact ⟨rfl, HGK.out⟩
end Go.Proofs.Ytmjajepdlopkiaa.Sh
