/- The walk of RmapOrder. -/
import Derived.Test.YtdaodpojcjbggaaRmR
namespace Go.Proofs.Ytdaodpojcjbggaa.Rm
open Go.RowKit Go.Proofs.Ytdaodpojcjbggaa.Ln
set_option linter.unusedVariables false
set_option linter.unusedSimpArgs false

/-- The array of what was seen. -/
def FB (w : World) (F : Nat) (f : Nat → Bool) : Prop := ∀ a, a < 30 → w.cell? ⟨F, a, none⟩ = some (.bool (f a)) ∧ w.frozen? ⟨F, a, none⟩ = false
theorem FB.blk {w w' : World} {F : Nat} {f : Nat → Bool} (h : FB w F f) (hb : w'.heap[F]? = w.heap[F]?) : FB w' F f :=
  fun a ha => ⟨cell_blk (p := ⟨F, a, none⟩) hb (h a ha).1, (World.frozen?_of_block (a := ⟨F, a, none⟩) hb).trans (h a ha).2⟩
theorem FB.lt {w : World} {F : Nat} {f : Nat → Bool} (h : FB w F f) : F < w.heap.size := World.block_lt_of_cell? _ _ (h 0 (by omega)).1
theorem FB.set {w : World} {F : Nat} {f g : Nat → Bool} (h : FB w F f) (a : Nat) (v : Bool) (hg : ∀ b, b < 30 → g b = if b = a then v else f b) : FB (w.setCell ⟨F, a, none⟩ (.bool v)) F g := by
  intro b hb
  refine ⟨?_, by rw [World.frozen?_setCell]; exact (h b hb).2⟩
  rw [hg b hb]
  by_cases e : b = a
  · subst e; rw [if_pos rfl]; exact setCell_cell_same _ (h b hb).1
  · rw [if_neg e]
    exact (World.cell?_setCell_other w ⟨F, a, none⟩ ⟨F, b, none⟩ _ (by first | (simp; done) | (simp; omega))).trans (h b hb).1
theorem fb_new (w : World) (d : Nat → Int × Int) : FB (w.alloc (.cells #[.bool false, .bool false, .bool false, .bool false, .bool false, .bool false, .bool false, .bool false, .bool false, .bool false, .bool false, .bool false, .bool false, .bool false, .bool false, .bool false, .bool false, .bool false, .bool false, .bool false, .bool false, .bool false, .bool false, .bool false, .bool false, .bool false, .bool false, .bool false, .bool false, .bool false] 76)) w.heap.size (fun a => decide (fs d 0 a ≠ 0)) := by
  have hz : (#[.bool false, .bool false, .bool false, .bool false, .bool false, .bool false, .bool false, .bool false, .bool false, .bool false, .bool false, .bool false, .bool false, .bool false, .bool false, .bool false, .bool false, .bool false, .bool false, .bool false, .bool false, .bool false, .bool false, .bool false, .bool false, .bool false, .bool false, .bool false, .bool false, .bool false] : Array Value) = Array.replicate 30 (.bool false) := rfl
  intro a ha
  refine ⟨?_, ?_⟩
  · rw [World.cell?_alloc_new, hz]
    simp [Array.getElem?_replicate, ha, fs]
  · have hb : (w.alloc (.cells #[.bool false, .bool false, .bool false, .bool false, .bool false, .bool false, .bool false, .bool false, .bool false, .bool false, .bool false, .bool false, .bool false, .bool false, .bool false, .bool false, .bool false, .bool false, .bool false, .bool false, .bool false, .bool false, .bool false, .bool false, .bool false, .bool false, .bool false, .bool false, .bool false, .bool false] 76)).heap[w.heap.size]? = some (.cells #[.bool false, .bool false, .bool false, .bool false, .bool false, .bool false, .bool false, .bool false, .bool false, .bool false, .bool false, .bool false, .bool false, .bool false, .bool false, .bool false, .bool false, .bool false, .bool false, .bool false, .bool false, .bool false, .bool false, .bool false, .bool false, .bool false, .bool false, .bool false, .bool false, .bool false] 76) := heap_alloc_new w _
    unfold World.frozen?; simp only [hb]; simp

theorem app_fx {w5 W1 : World} {F : Nat} {P : Option Addr} {n C : Nat} {k l : List M} (hg : Fx F w5 W1) (hs : Sn w5 P) (h : Own W1 60 4 (.slice P n C) n (flat k)) (t : TypeId) (x : Value) (m : Nat) (hx : Src Try.prog 4 66 x m (flat l) W1) (hn : n + m ≤ 100000) :
    ∃ v' w', (Builtin.append_ #[66, 66] t #[.slice P n C, x]).run Try.prog W1 = .ok v' w' ∧ ∃ P' C', v' = .slice P' (n + m) C' ∧ Own w' 60 4 (.slice P' (n + m) C') (n + m) (flat (k ++ l)) ∧ Sn w5 P' ∧ Fx F w5 w' ∧ Fr (fun k => blk P = some k) W1 w' := by
  obtain ⟨P', cap', w', h1, h2, h3, h4⟩ := app_more h t x m hx hn
  rw [ownBlock_blk] at h3
  have hfr := Fr.of_grown h3
  refine ⟨_, w', h1, P', cap', rfl, h2, fun j hj => ?_, Fr.trans hg hfr (fun x hx e => by have := hs x e; omega), hfr⟩
  rw [ownBlock_blk, ownBlock_blk, hj] at h4
  rcases h4 with e | e
  · exact hs j e.symm
  · have e := Option.some.inj e
    have := hg.size; omega
theorem fs_next {d : Nat → Int × Int} {k a : Nat} (ha : (draft d k).at' = a) (b : Nat) : decide (fs d (k + 1) b ≠ 0) = if b = a then true else decide (fs d k b ≠ 0) := by
  show decide ((if (draft d k).at' = b ∧ fs d k b = 0 then k + 1 else fs d k b) ≠ 0) = _
  rw [ha]
  by_cases e : b = a
  · subst e
    by_cases e0 : fs d k b = 0 <;> simp [e0]
  · have : ¬ ((a : Int) = (b : Int) ∧ fs d k b = 0) := by omega
    rw [if_neg this, if_neg e]
theorem frow_yes {d : Nat → Int × Int} {k a : Nat} (ha : (draft d k).at' = a) (h0 : fs d k a = 0) : frow d (k + 1) = frow d k ++ [draft d k] := by
  show (if (fs d k (draft d k).at'.toNat) = 0 then _ else _ : List M) = _
  rw [if_pos (by rw [ha]; simpa using h0)]
theorem frow_no {d : Nat → Int × Int} {k a : Nat} (ha : (draft d k).at' = a) (h0 : fs d k a ≠ 0) : frow d (k + 1) = frow d k := by
  show (if (fs d k (draft d k).at'.toNat) = 0 then _ else _ : List M) = _
  rw [if_neg (by rw [ha]; simpa using h0)]

set_option maxRecDepth 100000 in
set_option maxHeartbeats 8000000 in
theorem rmapOrder (P : Option Addr) (n c : Nat) (d : Nat → Int × Int) (by' : Int) (q0 q1 q2 : Int) (hby : 0 ≤ by' ∧ by' < 256) (hq0 : 0 ≤ q0 ∧ q0 < 256) (hq1 : 0 ≤ q1 ∧ q1 < 256) (hq2 : 0 ≤ q2 ∧ q2 < 256) (w : World) (h : Drafts w P n d) :
    Calls Try.prog 9 #[.slice P n c, .int .u8 by', .agg #[.int .u8 q0, .int .u8 q1, .int .u8 q2]] w fun e w' => e = .returned (.bool true) ∧ Gw w w' := by
  obtain ⟨q, hq⟩ : ∃ q, q ≤ 40 ∧ q ≤ n ∧ (q = 40 ∨ q = n) := by
    by_cases h : 40 ≤ n
    · exact ⟨40, by omega, h, .inl rfl⟩
    · exact ⟨n, by omega, by omega, .inr rfl⟩
  have H := Lib.hid h
  have HQ := Lib.hid hq
  have hq40 : q ≤ 40 := hq.1
  clear h hq
  obtain ⟨pn, rfl⟩ := Int.eq_ofNat_of_zero_le hby.1
  obtain ⟨W0, hW0⟩ : ∃ W0, w.alloc (.cells #[.int .u8 q0, .int .u8 q1, .int .u8 q2] 75) = W0 := ⟨_, rfl⟩
  have hg0 : Gw w W0 := by rw [← hW0]; exact gw_alloc1 _ _
  have c0 : W0.cell? ⟨w.heap.size, 0, none⟩ = some (.int .u8 q0) := by rw [← hW0, World.cell?_alloc_new]; rfl
  have c1 : W0.cell? ⟨w.heap.size, 1, none⟩ = some (.int .u8 q1) := by rw [← hW0, World.cell?_alloc_new]; rfl
  have c2 : W0.cell? ⟨w.heap.size, 2, none⟩ = some (.int .u8 q2) := by rw [← hW0, World.cell?_alloc_new]; rfl
  have HC0 := Lib.hid c0
  have HC1 := Lib.hid c1
  have HC2 := Lib.hid c2
  have HG0 := Lib.hid hg0
  have HW0 := Lib.hid hW0
  have hBX : w.heap.size < W0.heap.size := World.block_lt_of_cell? _ _ c0
  clear c0 c1 c2 hg0 hW0
  go_enter Try.func9, Try.ntmps9
  go_wp2_with fail
  rw [HW0.out]
  refine (new_ (w0 := w) (H := []) HG0.out (by simp) 30 (by omega)).mono ?_
  rintro e w1 ⟨X, rfl, hx1, hx2, hg, ht⟩
  have HT := Lib.hid ht
  have HG := Lib.hid (gw_trans HG0.out hg)
  have HGC := Lib.hid hg
  clear ht hg
  go_wp2_with fail
  refine (new_ (w0 := w) (H := [X]) HG.out HT.out.2.2.1 30 (by omega)).mono ?_
  rintro e w2 ⟨Y, rfl, hy1, hy2, hg, ht⟩
  have HU := Lib.hid ht
  have HN := Lib.hid (HT.out.more hg hy1 hy2); clear HT; have HT := HN; clear HN
  have HN := Lib.hid (gw_trans HG.out hg); clear HG; have HG := HN; clear HN
  have HN := Lib.hid (gw_trans HGC.out hg); clear HGC; have HGC := HN; clear HN
  have hXY : X < Y := by omega
  clear ht hg
  go_wp2_with fail
  refine (works _).mono ?_
  rintro e w3 ⟨rfl, hg⟩
  have HN := Lib.hid (HT.out.gw hg); clear HT; have HT := HN; clear HN
  have HN := Lib.hid (HU.out.gw hg); clear HU; have HU := HN; clear HN
  have HN := Lib.hid (gw_trans HG.out hg); clear HG; have HG := HN; clear HN
  have HN := Lib.hid (gw_trans HGC.out hg); clear HGC; have HGC := HN; clear HN
  clear hg
  have HFB := Lib.hid (fb_new w3 d)
  have hg4 := Lib.hid (gw_alloc1 w3 (.cells #[.bool false, .bool false, .bool false, .bool false, .bool false, .bool false, .bool false, .bool false, .bool false, .bool false, .bool false, .bool false, .bool false, .bool false, .bool false, .bool false, .bool false, .bool false, .bool false, .bool false, .bool false, .bool false, .bool false, .bool false, .bool false, .bool false, .bool false, .bool false, .bool false, .bool false] 76))
  have hF : w3.heap.size < (w3.alloc (.cells #[.bool false, .bool false, .bool false, .bool false, .bool false, .bool false, .bool false, .bool false, .bool false, .bool false, .bool false, .bool false, .bool false, .bool false, .bool false, .bool false, .bool false, .bool false, .bool false, .bool false, .bool false, .bool false, .bool false, .bool false, .bool false, .bool false, .bool false, .bool false, .bool false, .bool false] 76)).heap.size := by rw [World.size_alloc]; omega
  have HFF := Lib.hid hF
  have hYF : Y < w3.heap.size := HU.out.2.2.1 Y HU.out.1
  have HN := Lib.hid (HT.out.more hg4.out (Nat.le_refl _) HFF.out); clear HT; have HT := HN; clear HN
  have HN := Lib.hid (HU.out.more hg4.out (Nat.le_refl _) HFF.out); clear HU; have HU := HN; clear HN
  have HN := Lib.hid (gw_trans HG.out hg4.out); clear HG; have HG := HN; clear HN
  have HN := Lib.hid (gw_trans HGC.out hg4.out); clear HGC; have HGC := HN; clear HN
  go_wp2_with fail
  clear hF hg4
  generalize w3.alloc (.cells #[.bool false, .bool false, .bool false, .bool false, .bool false, .bool false, .bool false, .bool false, .bool false, .bool false, .bool false, .bool false, .bool false, .bool false, .bool false, .bool false, .bool false, .bool false, .bool false, .bool false, .bool false, .bool false, .bool false, .bool false, .bool false, .bool false, .bool false, .bool false, .bool false, .bool false] 76) = w4 at *
  generalize w3.heap.size = F at *
  refine (maps_ (H.out.gw HG.out) q HQ.out).mono ?_
  rintro e w5 ⟨R, E, rfl, hrow, hsn, hg⟩
  have HN := Lib.hid (HT.out.gw hg); clear HT; have HT := HN; clear HN
  have HN := Lib.hid (HU.out.gw hg); clear HU; have HU := HN; clear HN
  have HFB5 := Lib.hid (HFB.out.blk (hg.block F HFB.out.lt (fun h => h)))
  have HN := Lib.hid (gw_trans HG.out hg); clear HG; have HG := HN; clear HN
  have HN := Lib.hid (gw_trans HGC.out hg); clear HGC; have HGC := HN; clear HN
  have HR := Lib.hid hrow.maps
  have HRS := Lib.hid hsn
  have hFR : Hid (∀ j, blk R = some j → F < j) := Lib.hid (fun j hj => by have := hsn j hj; have := HFF.out; omega)
  clear hrow hsn hg H HFB
  have hF5 : F < w5.heap.size := HFB5.out.lt
  go_wp2_with fail
  go_loopw [12, 51] (fun v12 v51 wr => ∃ (k : Nat) (Q : Option Addr) (C2 : Nat), k ≤ q ∧ v12 = .slice Q (frow d k).length C2 ∧ v51 = .int .i64 k ∧ Hid (Own wr 60 4 (.slice Q (frow d k).length C2) (frow d k).length (flat (frow d k)) ∧ Sn w5 Q ∧ FB wr F (fun a => decide (fs d k a ≠ 0)) ∧ Fx F w5 wr)) (fun _ v51 _ => q - (intOf v51).toNat)
  case atStart => exact ⟨0, none, 0, by omega, rfl, rfl, Lib.hid ⟨World.ownsRow_nil _ _ _ _, (fun k hk => by simp [blk] at hk), HFB5.out, Fr.refl _ _⟩⟩
  case round =>
    obtain ⟨k, Q, C2, hk, rfl, rfl, HO⟩ := hrel
    by_cases hkq : k < q
    · have z0 : (k : Int) < q := by omega
      have hkl : k < (row d q).length := by rw [row_len]; exact hkq
      obtain ⟨g, o, rfl, m0, m1, m2, m3⟩ := (HR.out.fx HO.out.2.2.2 (fun e => by have := hFR.out F e; omega)).at' hkl
      rw [row_get] at m0 m1 m2 m3
      have hda := draft_at d k
      obtain ⟨a, ha⟩ : ∃ a : Nat, (draft d k).at' = a := ⟨(draft d k).at'.toNat, by omega⟩
      have ha30 : a < 30 := by omega
      have hat : (draft d k).at'.toNat = a := by omega
      have za : (a : Int) < 30 := by omega
      have hY0 := fun h0 => frow_yes (d := d) ha h0
      have hN0 := fun h0 => frow_no (d := d) ha h0
      have HNX := Lib.hid (fs_next (d := d) (k := k) ha)
      have HY0 := Lib.hid hY0
      have HN0 := Lib.hid hN0
      have HA := Lib.hid ha
      have hfl := frow_len d k
      have hmaps := own_maps HO.out.1 rfl
      have HQW : Hid (∀ j, blk Q = some j → w5.heap.size ≤ j ∧ j < wr.heap.size) := Lib.hid (fun j hj => ⟨HO.out.2.1 j hj, hmaps.lt hj⟩)
      have hFw : F < wr.heap.size := HO.out.2.2.1.lt
      obtain ⟨f0, f1⟩ := HO.out.2.2.1 a ha30
      clear hY0 hN0 ha hat hda hmaps
      generalize draft d k = m at *
      obtain ⟨ma, mo, ml, ms⟩ := m
      obtain rfl : ma = (a : Int) := HA.out
      dsimp only at m0 m1 m2 m3
      have xd : (wr.alloc (.cells #[.int .i64 (a : Int), .int .i64 mo, .int .i64 ml, .int .u16 ms] 60)).cell? ⟨F, a, none⟩ = some (.bool (decide (fs d k a ≠ 0))) := cell_alloc_old _ f0
      have x1 : (wr.alloc (.cells #[.int .i64 (a : Int), .int .i64 mo, .int .i64 ml, .int .u16 ms] 60)).frozen? ⟨F, a, none⟩ = false := (World.frozen?_of_block (a := ⟨F, a, none⟩) (heap_alloc_old wr _ hFw)).trans f1
      have b0 : (wr.alloc (.cells #[.int .i64 (a : Int), .int .i64 mo, .int .i64 ml, .int .u16 ms] 60)).cell? ⟨wr.heap.size, 0, none⟩ = some (.int .i64 (a : Int)) := by rw [World.cell?_alloc_new]; rfl
      have b1 : (wr.alloc (.cells #[.int .i64 (a : Int), .int .i64 mo, .int .i64 ml, .int .u16 ms] 60)).cell? ⟨wr.heap.size, 1, none⟩ = some (.int .i64 mo) := by rw [World.cell?_alloc_new]; rfl
      have b2 : (wr.alloc (.cells #[.int .i64 (a : Int), .int .i64 mo, .int .i64 ml, .int .u16 ms] 60)).cell? ⟨wr.heap.size, 2, none⟩ = some (.int .i64 ml) := by rw [World.cell?_alloc_new]; rfl
      have b3 : (wr.alloc (.cells #[.int .i64 (a : Int), .int .i64 mo, .int .i64 ml, .int .u16 ms] 60)).cell? ⟨wr.heap.size, 3, none⟩ = some (.int .u16 ms) := by rw [World.cell?_alloc_new]; rfl
      have HFB1 := Lib.hid (HO.out.2.2.1.blk (w' := wr.alloc (.cells #[.int .i64 (a : Int), .int .i64 mo, .int .i64 ml, .int .u16 ms] 60)) (heap_alloc_old wr _ hFw))
      have HFX1 : Hid (Fx F w5 (wr.alloc (.cells #[.int .i64 (a : Int), .int .i64 mo, .int .i64 ml, .int .u16 ms] 60))) := Lib.hid (HO.out.2.2.2.alloc _)
      have HOW1 := Lib.hid (own_gw HO.out.1 (gw_alloc1 wr (.cells #[.int .i64 (a : Int), .int .i64 mo, .int .i64 ml, .int .u16 ms] 60)))
      have HB0 := Lib.hid b0
      clear f0 f1
      by_cases h0 : fs d k a = 0
      · have x0 : (wr.alloc (.cells #[.int .i64 (a : Int), .int .i64 mo, .int .i64 ml, .int .u16 ms] 60)).cell? ⟨F, a, none⟩ = some (.bool false) := by rw [xd]; simp [h0]
        clear xd
        have HY1 := Lib.hid (HY0.out h0)
        clear h0 HY0 HN0
        generalize hu : (frow d k).length = u at *
        have HU1 := Lib.hid hu
        clear hu
        go_wp2_with (at_builtin; (refine wpList_app rfl (.tmp 60) (.tmp 62) rfl _ _ rfl rfl _ (app_fx (HFX1.out.alloc (.cells #[.int .i64 (a : Int), .int .i64 mo, .int .i64 ml, .int .u16 ms] 60)) HO.out.2.1 (own_gw HOW1.out (gw_alloc1 _ (.cells #[.int .i64 (a : Int), .int .i64 mo, .int .i64 ml, .int .u16 ms] 60))) 66 _ 1 (src_one' (m := ⟨(a : Int), mo, ml, ms⟩) (c := 1) (map_new (wr.alloc (.cells #[.int .i64 (a : Int), .int .i64 mo, .int .i64 ml, .int .u16 ms] 60)) ⟨(a : Int), mo, ml, ms⟩ (wr.heap.size + 1) (World.size_alloc _ _) 60) (by rw [World.size_alloc, World.size_alloc]; omega) (by omega)) (by omega)) ?_); rintro v6 w6 ⟨Q6, C6, rfl, ho6, hs6, hf6, hb6⟩; (have y0 : w6.cell? ⟨wr.heap.size, 0, none⟩ = some (.int .i64 (a : Int)) := cell_fr hb6 (fun e => by have := HQW.out _ e; simp at this) (cell_alloc_old _ HB0.out); have hfb6 := (HFB1.out.blk (w' := (wr.alloc (.cells #[.int .i64 (a : Int), .int .i64 mo, .int .i64 ml, .int .u16 ms] 60)).alloc (.cells #[.int .i64 (a : Int), .int .i64 mo, .int .i64 ml, .int .u16 ms] 60)) (heap_alloc_old _ _ HFB1.out.lt)); have hfb7 := hfb6.blk (hb6.block F hfb6.lt (fun e => by have := HQW.out _ e; omega)); obtain ⟨z0', z1'⟩ := hfb7 a ha30; have HO6 := Lib.hid ho6; have HS6 := Lib.hid hs6; have HF6 := Lib.hid hf6; have HFB7 := Lib.hid hfb7; clear ho6 hs6 hf6 hb6 hfb6 hfb7))
        go_roundw
        case rel =>
          have hset := HFB7.out.set (g := fun b => decide (fs d (k + 1) b ≠ 0)) a true (fun b hb => HNX.out b)
          have hsx : Fx F w6 (w6.setCell ⟨F, a, none⟩ (.bool true)) := Fr.setCell (Fr.refl _ _) _ _ rfl
          have hro := (Row.fx (l := frow d k ++ [⟨(a : Int), mo, ml, ms⟩]) ⟨HO6.out, by simp [HU1.out]⟩ hsx (fun e => by have := HS6.out F e; omega)).1
          exact ⟨k + 1, Q6, C6, by omega, by rw [HY1.out]; simp [HU1.out], by go_num, Lib.hid ⟨by rw [HY1.out, List.length_append, HU1.out]; exact hro, HS6.out, hset, Fr.trans HF6.out hsx (fun _ _ h => h)⟩⟩
        case measure => simp [intOf]; omega
      · have x0 : (wr.alloc (.cells #[.int .i64 (a : Int), .int .i64 mo, .int .i64 ml, .int .u16 ms] 60)).cell? ⟨F, a, none⟩ = some (.bool true) := by rw [xd]; simp [h0]
        clear xd
        have HN1 := Lib.hid (HN0.out h0)
        clear h0 HY0 HN0
        generalize hu : (frow d k).length = u at *
        have HU1 := Lib.hid hu
        clear hu
        go_wp2_with fail
        go_roundw
        case rel =>
          have hset0 := HO.out.2.2.1.set (g := fun b => decide (fs d (k + 1) b ≠ 0)) a true (fun b hb => HNX.out b)
          have hsx : Fx F wr (wr.setCell ⟨F, a, none⟩ (.bool true)) := Fr.setCell (Fr.refl _ _) _ _ rfl
          have hro := (Row.fx (l := frow d k) ⟨HO.out.1, HU1.out⟩ hsx (fun e => by have := HO.out.2.1 F e; omega)).1
          exact ⟨k + 1, Q, C2, by omega, by rw [HN1.out, HU1.out], by go_num, Lib.hid ⟨by rw [HN1.out, HU1.out]; exact own_gw hro (gw_alloc1 _ _), HO.out.2.1, hset0.blk (heap_alloc_old _ _ hset0.lt), (Fr.trans HO.out.2.2.2 hsx (fun _ _ h => h)).alloc _⟩⟩
        case measure => simp [intOf]; omega
    · obtain rfl : k = q := by omega
      have hwF : W0.heap.size ≤ F := by omega
      have HT6 := Lib.hid (HT.out.fx (X := F) (by simp) (by omega) HO.out.2.2.2)
      have HU6 := Lib.hid (HU.out.fx (X := F) (by simp) (by omega) HO.out.2.2.2)
      have HGC6 := Lib.hid (gw_fx HGC.out hwF HO.out.2.2.2)
      have HM6 := Lib.hid (own_maps HO.out.1 rfl)
      have HQ6 : Hid (∀ j, blk Q = some j → F < j ∧ j < wr.heap.size) := Lib.hid (fun j hj => ⟨by have := HO.out.2.1 j hj; omega, HM6.out.lt hj⟩)
      have hu40 := frow_len d k
      have HGD := fun p => Lib.hid (rot_gd (d := d) (q := k) (p := p) hq40)
      have HSAME := Lib.hid (rot_same (d := d) (q := k) pn hq40)
      have HFRE := Lib.hid (fun B hB => fresh_same (d := d) (q := k) hq40 (B := B) hB)
      generalize frow d k = r at *
      obtain ⟨u, hu⟩ : ∃ u, r.length = u := ⟨_, rfl⟩
      have HLU := Lib.hid hu
      rw [hu] at hu40 HM6 HSAME HFRE HGD ⊢
      have HGD0 := HGD 0
      have HGDp := HGD pn
      clear hu HT HU HG HGC HFB5 HR HRS hFR HO HGD
      go_wp2_with fail
      obtain ⟨wo, hwo⟩ : ∃ wo : World, wo = wr := ⟨_, rfl⟩
      subst hwo
      go_loopw [15] (fun v15 wx => ∃ i : Nat, i ≤ u ∧ v15 = .int .i64 i ∧ Hid (TS w wx [F, Y, X] X 30 0 (put30 0 (rot r 0) i) ∧ TS w wx [F, Y, X] Y 30 0 (put30 0 (rot r pn) i) ∧ Maps wx Q u C2 r ∧ Gw W0 wx)) (fun v15 _ => u - (intOf v15).toNat)
      case atStart => exact ⟨0, by omega, rfl, Lib.hid ⟨HT6.out, HU6.out, HM6.out, HGC6.out⟩⟩
      case round =>
        obtain ⟨i, hi, rfl, HI⟩ := hrel
        by_cases hin : i < u
        · have z2 : (i : Int) < u := by omega
          have hi0 : i < r.length := by rw [HLU.out]; exact hin
          have hip : (i + pn) % r.length < r.length := Nat.mod_lt _ (by omega)
          obtain ⟨g, o, rfl, m0, m1, m2, m3⟩ := HI.out.2.2.1.at' hi0
          obtain ⟨g', o', e', n0, n1, n2, n3⟩ := HI.out.2.2.1.at' hip
          cases e'
          rw [← rot_zero hi0] at m0 m1 m2 m3
          rw [← rot_get hip] at n0 n1 n2 n3
          rw [HLU.out] at n0 n1 n2 n3
          have wfa : Wf (rot r 0 i) := by obtain ⟨d', i', hi', e⟩ := HGD0.out.one i hin; rw [e]; unfold Wf draft; simp; omega
          have wfb : Wf (rot r pn i) := by obtain ⟨d', i', hi', e⟩ := HGDp.out.one i hin; rw [e]; unfold Wf draft; simp; omega
          have ha0 : 0 ≤ (rot r 0 i).at' := by obtain ⟨d', i', hi', e⟩ := HGD0.out.one i hin; rw [e]; exact (draft_at d' i').1
          have hb0 : 0 ≤ (rot r pn i).at' := by obtain ⟨d', i', hi', e⟩ := HGDp.out.one i hin; rw [e]; exact (draft_at d' i').1
          have HCA : Hid (∀ W, TS w W [F, Y, X] X 30 0 (put30 0 (rot r 0) i) → Calls Try.prog 31 #[.pointer (some ⟨X, 0, none⟩), agg (rot r 0 i)] W (TabP w W [F, Y, X] X 30 0 (put30 0 (rot r 0) (i + 1)) (.returned (.bool true)))) := Lib.hid (fun W hT => put_v hT _ wfa true _ (by rw [put30_b HGD0.out (Int.le_refl _) hin]; exact decide_eq_true ha0) rfl)
          have HCB : Hid (∀ W, TS w W [F, Y, X] Y 30 0 (put30 0 (rot r pn) i) → Calls Try.prog 31 #[.pointer (some ⟨Y, 0, none⟩), agg (rot r pn i)] W (TabP w W [F, Y, X] Y 30 0 (put30 0 (rot r pn) (i + 1)) (.returned (.bool true)))) := Lib.hid (fun W hT => put_v hT _ wfb true _ (by rw [put30_b HGDp.out (Int.le_refl _) hin]; exact decide_eq_true hb0) rfl)
          have hgF := (HQ6.out g rfl).1
          have t0 : (0 : Int) ≤ ((i : Int) + pn) % u := Int.emod_nonneg _ (by omega)
          have t1 : ((i : Int) + pn) % u < u := Int.emod_lt_of_pos _ (by omega)
          clear wfa wfb ha0 hb0 hip hi0
          generalize rot r 0 i = ma at *
          generalize rot r pn i = mb at *
          go_wp2_with fail
          refine (HCA.out _ HI.out.1).mono ?_
          rintro e w7 ⟨rfl, ht, hf⟩
          have HT7 := Lib.hid ht
          have HF7 := Lib.hid hf
          have n0 := cell_fx hf (by show g ≠ X; omega) n0
          have n1 := cell_fx hf (by show g ≠ X; omega) n1
          have n2 := cell_fx hf (by show g ≠ X; omega) n2
          have n3 := cell_fx hf (by show g ≠ X; omega) n3
          have HU7 := Lib.hid (HI.out.2.1.fx (X := X) (by simp) (by omega) hf)
          clear ht hf
          go_wp2_with fail
          refine (HCB.out _ HU7.out).mono ?_
          rintro e w8 ⟨rfl, ht, hf⟩
          have HU8 := Lib.hid ht
          have HT8 := Lib.hid (HT7.out.fx (X := Y) (by simp) (by omega) hf)
          have HM8 := Lib.hid ((HI.out.2.2.1.fx HF7.out (fun e => by have e : g = X := Option.some.inj e; omega)).fx hf (fun e => by have e : g = Y := Option.some.inj e; omega))
          have HG8 := Lib.hid (gw_fx (gw_fx HI.out.2.2.2 hx1 HF7.out) (by omega) hf)
          clear ht hf
          go_wp2_with fail
          go_roundw
          case rel => exact ⟨i + 1, by omega, by go_num, Lib.hid ⟨HT8.out, HU8.out, HM8.out, HG8.out⟩⟩
          case measure => simp [intOf]; omega
        · obtain rfl : i = u := by omega
          have hok := put30_ok HGD0.out (B := 0) (by omega) i (Nat.le_refl _)
          have hL := HSAME.out
          have HTa := Lib.hid HI.out.1
          have HTb : Hid (TS w wr [F, Y, X] Y 30 0 (put30 0 (rot r 0) i)) := Lib.hid (by rw [← hL]; exact HI.out.2.1)
          have HMr := Lib.hid HI.out.2.2.1
          have HGr := Lib.hid HI.out.2.2.2
          have HOK := Lib.hid hok
          have HFRE2 : Hid (∀ B : Int, 0 ≤ B ∧ B ≤ 1000 → put30 B (rot r 0) i = (put30 0 (rot r 0) i).filter (fun x => decide (B ≤ x.at'))) := Lib.hid (fun B hB => HFRE.out B hB)
          have hlen := hok.len
          clear hL HSAME HFRE HI hok HT6 HU6 HM6 HGC6
          obtain ⟨L, hLL⟩ : ∃ L, put30 0 (rot r 0) i = L := ⟨_, rfl⟩
          rw [hLL] at HTa HTb HOK HFRE2 hlen
          have HLL := Lib.hid hLL
          clear hLL
          go_wp2_with fail
          refine (all_ HTa.out).mono ?_
          rintro e w7 ⟨P7, n7, C7, rfl, hr7, hg, _⟩
          have HR7 := Lib.hid hr7
          have HN := Lib.hid (HTa.out.gw hg); clear HTa; have HTa := HN; clear HN
          have HN := Lib.hid (HTb.out.gw hg); clear HTb; have HTb := HN; clear HN
          have HN := Lib.hid (HMr.out.gw hg); clear HMr; have HMr := HN; clear HN
          have HN := Lib.hid (gw_trans HGr.out hg); clear HGr; have HGr := HN; clear HN
          clear hr7 hg
          go_wp2_with fail
          refine (all_ HTb.out).mono ?_
          rintro e w8 ⟨P8, n8, C8, rfl, hr8, hg, _⟩
          have e8 : n8 = n7 := by have h1 := hr8.2; have h2 := HR7.out.2; omega
          subst e8
          have hn8 : n8 ≤ 2048 := by have h2 := HR7.out.2; omega
          have HR8 := Lib.hid hr8
          have HN := Lib.hid (HR7.out.gw hg); clear HR7; have HR7 := HN; clear HN
          have HN := Lib.hid (HTa.out.gw hg); clear HTa; have HTa := HN; clear HN
          have HN := Lib.hid (HTb.out.gw hg); clear HTb; have HTb := HN; clear HN
          have HN := Lib.hid (HMr.out.gw hg); clear HMr; have HMr := HN; clear HN
          have HN := Lib.hid (gw_trans HGr.out hg); clear HGr; have HGr := HN; clear HN
          clear hr8 hg
          go_wp2_with fail
          refine (same _ _ _ _ _ L _ HR7.out.maps HR8.out.maps (by omega)).mono ?_
          rintro e w9 ⟨rfl, hg⟩
          have HN := Lib.hid (HTa.out.gw hg); clear HTa; have HTa := HN; clear HN
          have HN := Lib.hid (HTb.out.gw hg); clear HTb; have HTb := HN; clear HN
          have HN := Lib.hid (HMr.out.gw hg); clear HMr; have HMr := HN; clear HN
          have HN := Lib.hid (gw_trans HGr.out hg); clear HGr; have HGr := HN; clear HN
          clear hg HR7 HR8
          go_wp2_with fail
          obtain ⟨wo, hwo⟩ : ∃ wo : World, wo = wr := ⟨_, rfl⟩
          subst hwo
          have hF0 : Hid (L = L.filter (fun x => decide ((0 : Int) ≤ x.at'))) := Lib.hid (List.filter_eq_self.2 (fun x hx => by have := HOK.out.within x hx; simp; omega)).symm
          go_loopw [16, 17] (fun v16 v17 wx => ∃ (j : Nat) (B : Int), j ≤ 3 ∧ 0 ≤ B ∧ B ≤ 40 ∧ v16 = .int .i64 B ∧ v17 = .int .i64 j ∧ Hid (TS w wx [F, Y, X] X 30 B (L.filter (fun x => decide (B ≤ x.at'))) ∧ TS w wx [F, Y, X] Y 30 0 L ∧ Maps wx Q i C2 r ∧ Gw W0 wx)) (fun _ v17 _ => 3 - (intOf v17).toNat)
          case atStart => exact ⟨0, 0, by omega, by omega, by omega, rfl, rfl, Lib.hid ⟨by rw [← hF0.out]; exact HTa.out, HTb.out, HMr.out, HGr.out⟩⟩
          case round =>
            obtain ⟨j, B, hj, hB0, hB1, rfl, rfl, HJ⟩ := hrel
            by_cases hj3 : j < 3
            · have hz3 : (j : Int) < 3 := by omega
              obtain ⟨x, hx, hxc⟩ : ∃ x : Int, (0 ≤ x ∧ x < 256) ∧ wr.cell? ⟨w.heap.size, j, none⟩ = some (.int .u8 x) := by
                have hj012 : j = 0 ∨ j = 1 ∨ j = 2 := by omega
                rcases hj012 with rfl | rfl | rfl
                · exact ⟨q0, hq0, cell_gw HJ.out.2.2.2 HC0.out⟩
                · exact ⟨q1, hq1, cell_gw HJ.out.2.2.2 HC1.out⟩
                · exact ⟨q2, hq2, cell_gw HJ.out.2.2.2 HC2.out⟩
              obtain ⟨y, hy⟩ : ∃ y, x % 40 = y := ⟨_, rfl⟩
              have hyb : 0 ≤ y ∧ y < 40 := by omega
              obtain ⟨B', hB'⟩ : ∃ B' : Int, (if B < y then y else B) = B' := ⟨_, rfl⟩
              have hBB : B ≤ B' ∧ 0 ≤ B' ∧ B' ≤ 40 ∧ cutB B y = B' := by rw [← hB']; unfold cutB; split <;> omega
              have HBB := Lib.hid hBB
              have HJ1 := Lib.hid HJ.out.1
              go_wp2_with fail
              refine (cut_n HJ1.out y (by omega) B' (L.filter (fun x => decide (B' ≤ x.at'))) HBB.out.2.2.2 (cut_filter HOK.out.srt HBB.out.1)).mono ?_
              rintro e w10 ⟨rfl, ht, hf⟩
              have HT10 := Lib.hid ht
              have HU10 := Lib.hid (HJ.out.2.1.fx (X := X) (by simp) (by omega) hf)
              have HM10 := Lib.hid (HJ.out.2.2.1.fx hf (fun e => by have := HQ6.out X e; omega))
              have HG10 := Lib.hid (gw_fx HJ.out.2.2.2 hx1 hf)
              clear ht hf
              go_wp2_with fail
              go_roundw
              case rel => exact ⟨j + 1, B', by omega, HBB.out.2.1, HBB.out.2.2.1, rfl, by go_num, Lib.hid ⟨HT10.out, HU10.out, HM10.out, HG10.out⟩⟩
              case measure => simp [intOf]; omega
            · obtain rfl : j = 3 := by omega
              have hcb : cutB 0 B = B := by unfold cutB; omega
              have HCB2 := Lib.hid hcb
              have hdl : L.drop (pos L B) = L.filter (fun x => decide (B ≤ x.at')) := drop_pos HOK.out.srt B
              have HDL := Lib.hid hdl
              have HTa := Lib.hid HJ.out.1
              have HMr := Lib.hid HJ.out.2.2.1
              have HU10 := Lib.hid HJ.out.2.1
              have HGr := Lib.hid HJ.out.2.2.2
              clear hcb hdl HJ hF0
              obtain ⟨N, hN⟩ : ∃ N, L.filter (fun x => decide (B ≤ x.at')) = N := ⟨_, rfl⟩
              rw [hN] at HDL HTa
              have HNN := Lib.hid hN
              clear hN
              go_wp2_with fail
              refine (cut_n HU10.out B (by omega) B N HCB2.out HDL.out).mono ?_
              rintro e w10 ⟨rfl, ht, hf⟩
              have HTb := Lib.hid ht
              have HN := Lib.hid (HTa.out.fx (X := Y) (by simp) (by omega) hf); clear HTa; have HTa := HN; clear HN
              have HN := Lib.hid (HMr.out.fx hf (fun e => by have := HQ6.out Y e; omega)); clear HMr; have HMr := HN; clear HN
              have HN := Lib.hid (gw_fx HGr.out (by omega) hf); clear HGr; have HGr := HN; clear HN
              clear ht hf
              go_wp2_with fail
              refine (new_ (w0 := w) (H := [F, Y, X]) (gw_trans HG0.out HGr.out) HTa.out.2.2.1 30 (by omega)).mono ?_
              rintro e w11 ⟨Z, rfl, hz1, hz2, hg, ht⟩
              have HTc := Lib.hid ht
              have hZF : F < Z := by have := HTa.out.2.2.1 F (by simp); omega
              have hZQ : Hid (∀ j, blk Q = some j → j < Z) := Lib.hid (fun j hj => by have := HMr.out.lt hj; omega)
              have HN := Lib.hid (HTa.out.more hg hz1 hz2); clear HTa; have HTa := HN; clear HN
              have HN := Lib.hid (HTb.out.more hg hz1 hz2); clear HTb; have HTb := HN; clear HN
              have HN := Lib.hid (HMr.out.gw hg); clear HMr; have HMr := HN; clear HN
              have HN := Lib.hid (gw_trans HGr.out hg); clear HGr; have HGr := HN; clear HN
              clear ht hg
              go_wp2_with fail
              refine (cut_n HTc.out B (by omega) B [] HCB2.out rfl).mono ?_
              rintro e w12 ⟨rfl, ht, hf⟩
              have HTd := Lib.hid ht
              have HN := Lib.hid (HTa.out.fx (X := Z) (by simp) (by omega) hf); clear HTa; have HTa := HN; clear HN
              have HN := Lib.hid (HTb.out.fx (X := Z) (by simp) (by omega) hf); clear HTb; have HTb := HN; clear HN
              have HN := Lib.hid (HMr.out.fx hf (fun e => by have := hZQ.out Z e; omega)); clear HMr; have HMr := HN; clear HN
              have HN := Lib.hid (gw_fx HGr.out (by omega) hf); clear HGr; have HGr := HN; clear HN
              clear ht hf HTc
              go_wp2_with fail
              obtain ⟨wo, hwo⟩ : ∃ wo : World, wo = wr := ⟨_, rfl⟩
              subst hwo
              go_loopw [21] (fun v21 wx => ∃ t : Nat, t ≤ i ∧ v21 = .int .i64 t ∧ Hid (TS w wx [Z, F, Y, X] Z 30 B (put30 B (rot r 0) t) ∧ TS w wx [Z, F, Y, X] X 30 B N ∧ TS w wx [Z, F, Y, X] Y 30 B N ∧ Maps wx Q i C2 r ∧ Gw W0 wx)) (fun v21 _ => i - (intOf v21).toNat)
              case atStart => exact ⟨0, by omega, rfl, Lib.hid ⟨HTd.out, HTa.out, HTb.out, HMr.out, HGr.out⟩⟩
              case round =>
                obtain ⟨t, ht, rfl, HK⟩ := hrel
                by_cases hti : t < i
                · have z2 : (t : Int) < i := by omega
                  have hi0 : t < r.length := by rw [HLU.out]; exact hti
                  obtain ⟨g, o, rfl, m0, m1, m2, m3⟩ := HK.out.2.2.2.1.at' hi0
                  rw [← rot_zero hi0] at m0 m1 m2 m3
                  have wfa : Wf (rot r 0 t) := by obtain ⟨d', i', hi', e⟩ := HGD0.out.one t hti; rw [e]; unfold Wf draft; simp; omega
                  have HCA : Hid (∀ W, TS w W [Z, F, Y, X] Z 30 B (put30 B (rot r 0) t) → Calls Try.prog 31 #[.pointer (some ⟨Z, 0, none⟩), agg (rot r 0 t)] W (TabP w W [Z, F, Y, X] Z 30 B (put30 B (rot r 0) (t + 1)) (.returned (.bool (decide (B ≤ (rot r 0 t).at')))))) := Lib.hid (fun W hT => put_v hT _ wfa _ _ (by rw [put30_b HGD0.out hB0 hti]) rfl)
                  have hgZ := hZQ.out g rfl
                  clear wfa hi0
                  generalize rot r 0 t = ma at *
                  have HMa := Lib.hid m0
                  go_wp2_with fail
                  have hgz : g ≠ Z := by omega
                  go_region_held3 (fun v => v.cell? ⟨g, o + t * 4, none⟩ = some (.int .i64 ma.at') ∧ v.cell? ⟨g, o + t * 4 + 1, none⟩ = some (.int .i64 ma.off) ∧ v.cell? ⟨g, o + t * 4 + 2, none⟩ = some (.int .i64 ma.len) ∧ v.cell? ⟨g, o + t * 4 + 3, none⟩ = some (.int .u16 ma.sum))
                    (first | exact ⟨cell_fx HF13.out hgz m0, cell_fx HF13.out hgz m1, cell_fx HF13.out hgz m2, cell_fx HF13.out hgz m3⟩ | go_keep)
                    (first | (go_at_call 31; refine (HCA.out _ (HK.out.1.gw (gw_drew _))).mono ?_; rintro e w13 ⟨rfl, htt, hff⟩; have HT13 := Lib.hid htt; have HF13 := Lib.hid hff; clear htt hff))
                  all_goals
                    go_wp2_with fail
                    go_roundw
                    case rel => exact ⟨t + 1, by omega, by go_num, Lib.hid ⟨HT13.out, (HK.out.2.1.gw (gw_drew _)).fx (X := Z) (by simp) (by omega) HF13.out, (HK.out.2.2.1.gw (gw_drew _)).fx (X := Z) (by simp) (by omega) HF13.out, (HK.out.2.2.2.1.gw (gw_drew _)).fx HF13.out (fun e => by have e : g = Z := Option.some.inj e; omega), gw_fx (gw_trans HK.out.2.2.2.2 (gw_drew _)) (by omega) HF13.out⟩⟩
                    case measure => simp [intOf]; omega
                · obtain rfl : t = i := by omega
                  have hNe : put30 B (rot r 0) t = N := (HFRE2.out B ⟨hB0, by omega⟩).trans HNN.out
                  have HTZ : Hid (TS w wr [Z, F, Y, X] Z 30 B N) := Lib.hid (by rw [← hNe]; exact HK.out.1)
                  have HTX := Lib.hid HK.out.2.1
                  have HTY := Lib.hid HK.out.2.2.1
                  have HGr := Lib.hid HK.out.2.2.2.2
                  have hlN := HTZ.out.ok.len
                  clear hNe HK
                  go_wp2_with fail
                  refine (all_ HTX.out).mono ?_
                  rintro e w20 ⟨P20, n20, C20, rfl, hr20, hg, _⟩
                  have hn20 : n20 ≤ 2048 := by have h2 := hr20.2; omega
                  have HR20 := Lib.hid hr20
                  have HN := Lib.hid (HTX.out.gw hg); clear HTX; have HTX := HN; clear HN
                  have HN := Lib.hid (HTY.out.gw hg); clear HTY; have HTY := HN; clear HN
                  have HN := Lib.hid (HTZ.out.gw hg); clear HTZ; have HTZ := HN; clear HN
                  have HN := Lib.hid (gw_trans HGr.out hg); clear HGr; have HGr := HN; clear HN
                  clear hr20 hg
                  go_wp2_with fail
                  refine (all_ HTY.out).mono ?_
                  rintro e w21 ⟨P21, n21, C21, rfl, hr21, hg, _⟩
                  have e21 : n21 = n20 := by have h1 := hr21.2; have h2 := HR20.out.2; omega
                  subst e21
                  have HR21 := Lib.hid hr21
                  have HN := Lib.hid (HTX.out.gw hg); clear HTX; have HTX := HN; clear HN
                  have HN := Lib.hid (HTY.out.gw hg); clear HTY; have HTY := HN; clear HN
                  have HN := Lib.hid (HTZ.out.gw hg); clear HTZ; have HTZ := HN; clear HN
                  have HN := Lib.hid (HR20.out.gw hg); clear HR20; have HR20 := HN; clear HN
                  have HN := Lib.hid (gw_trans HGr.out hg); clear HGr; have HGr := HN; clear HN
                  clear hr21 hg
                  go_wp2_with fail
                  refine (same _ _ _ _ _ N _ HR20.out.maps HR21.out.maps (by omega)).mono ?_
                  rintro e w22 ⟨rfl, hg⟩
                  have HN := Lib.hid (HTX.out.gw hg); clear HTX; have HTX := HN; clear HN
                  have HN := Lib.hid (HTY.out.gw hg); clear HTY; have HTY := HN; clear HN
                  have HN := Lib.hid (HTZ.out.gw hg); clear HTZ; have HTZ := HN; clear HN
                  have HN := Lib.hid (gw_trans HGr.out hg); clear HGr; have HGr := HN; clear HN
                  clear hg HR20 HR21
                  go_wp2_with fail
                  refine (all_ HTX.out).mono ?_
                  rintro e w23 ⟨P23, n23, C23, rfl, hr23, hg, _⟩
                  have hn23 : n23 ≤ 2048 := by have h2 := hr23.2; omega
                  have HR23 := Lib.hid hr23
                  have HN := Lib.hid (HTX.out.gw hg); clear HTX; have HTX := HN; clear HN
                  have HN := Lib.hid (HTY.out.gw hg); clear HTY; have HTY := HN; clear HN
                  have HN := Lib.hid (HTZ.out.gw hg); clear HTZ; have HTZ := HN; clear HN
                  have HN := Lib.hid (gw_trans HGr.out hg); clear HGr; have HGr := HN; clear HN
                  clear hr23 hg
                  go_wp2_with fail
                  refine (all_ HTZ.out).mono ?_
                  rintro e w24 ⟨P24, n24, C24, rfl, hr24, hg, _⟩
                  have e24 : n24 = n23 := by have h1 := hr24.2; have h2 := HR23.out.2; omega
                  subst e24
                  have HR24 := Lib.hid hr24
                  have HN := Lib.hid (HTX.out.gw hg); clear HTX; have HTX := HN; clear HN
                  have HN := Lib.hid (HTY.out.gw hg); clear HTY; have HTY := HN; clear HN
                  have HN := Lib.hid (HTZ.out.gw hg); clear HTZ; have HTZ := HN; clear HN
                  have HN := Lib.hid (HR23.out.gw hg); clear HR23; have HR23 := HN; clear HN
                  have HN := Lib.hid (gw_trans HGr.out hg); clear HGr; have HGr := HN; clear HN
                  clear hr24 hg
                  go_wp2_with fail
                  refine (same _ _ _ _ _ N _ HR23.out.maps HR24.out.maps (by omega)).mono ?_
                  rintro e w25 ⟨rfl, hg⟩
                  have HN := Lib.hid (HTX.out.gw hg); clear HTX; have HTX := HN; clear HN
                  have HN := Lib.hid (HTY.out.gw hg); clear HTY; have HTY := HN; clear HN
                  have HN := Lib.hid (HTZ.out.gw hg); clear HTZ; have HTZ := HN; clear HN
                  have HN := Lib.hid (gw_trans HGr.out hg); clear HGr; have HGr := HN; clear HN
                  clear hg HR23 HR24
                  go_wp2_with fail
                  refine (begin_ HTX.out).mono ?_
                  rintro e w26 ⟨rfl, rfl⟩
                  go_wp2_with fail
                  refine (begin_ HTY.out).mono ?_
                  rintro e w27 ⟨rfl, rfl⟩
                  go_wp2_with fail
                  go_ret
                  exact ⟨rfl, gw_trans HG0.out HGr.out⟩
end Go.Proofs.Ytdaodpojcjbggaa.Rm
