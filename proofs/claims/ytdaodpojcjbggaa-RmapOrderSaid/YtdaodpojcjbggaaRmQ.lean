/- The walk of RmapFirst. -/
import Derived.Test.YtdaodpojcjbggaaRmO
namespace Go.Proofs.Ytdaodpojcjbggaa.Rm
open Go.RowKit Go.Proofs.Ytdaodpojcjbggaa.Ln
set_option linter.unusedVariables false
set_option linter.unusedSimpArgs false

theorem fa_new (w : World) (d : Nat → Int × Int) : FA (w.alloc (.cells #[.int .i64 0, .int .i64 0, .int .i64 0, .int .i64 0, .int .i64 0, .int .i64 0, .int .i64 0, .int .i64 0, .int .i64 0, .int .i64 0, .int .i64 0, .int .i64 0, .int .i64 0, .int .i64 0, .int .i64 0, .int .i64 0, .int .i64 0, .int .i64 0, .int .i64 0, .int .i64 0, .int .i64 0, .int .i64 0, .int .i64 0, .int .i64 0, .int .i64 0, .int .i64 0, .int .i64 0, .int .i64 0, .int .i64 0, .int .i64 0] 68)) w.heap.size (fs d 0) := by
  have hz : (#[.int .i64 0, .int .i64 0, .int .i64 0, .int .i64 0, .int .i64 0, .int .i64 0, .int .i64 0, .int .i64 0, .int .i64 0, .int .i64 0, .int .i64 0, .int .i64 0, .int .i64 0, .int .i64 0, .int .i64 0, .int .i64 0, .int .i64 0, .int .i64 0, .int .i64 0, .int .i64 0, .int .i64 0, .int .i64 0, .int .i64 0, .int .i64 0, .int .i64 0, .int .i64 0, .int .i64 0, .int .i64 0, .int .i64 0, .int .i64 0] : Array Value) = Array.replicate 30 (.int .i64 0) := rfl
  intro a ha
  refine ⟨?_, ?_⟩
  · rw [World.cell?_alloc_new, hz]
    simp [Array.getElem?_replicate, ha, fs]
  · have hb : (w.alloc (.cells #[.int .i64 0, .int .i64 0, .int .i64 0, .int .i64 0, .int .i64 0, .int .i64 0, .int .i64 0, .int .i64 0, .int .i64 0, .int .i64 0, .int .i64 0, .int .i64 0, .int .i64 0, .int .i64 0, .int .i64 0, .int .i64 0, .int .i64 0, .int .i64 0, .int .i64 0, .int .i64 0, .int .i64 0, .int .i64 0, .int .i64 0, .int .i64 0, .int .i64 0, .int .i64 0, .int .i64 0, .int .i64 0, .int .i64 0, .int .i64 0] 68)).heap[w.heap.size]? = some (.cells #[.int .i64 0, .int .i64 0, .int .i64 0, .int .i64 0, .int .i64 0, .int .i64 0, .int .i64 0, .int .i64 0, .int .i64 0, .int .i64 0, .int .i64 0, .int .i64 0, .int .i64 0, .int .i64 0, .int .i64 0, .int .i64 0, .int .i64 0, .int .i64 0, .int .i64 0, .int .i64 0, .int .i64 0, .int .i64 0, .int .i64 0, .int .i64 0, .int .i64 0, .int .i64 0, .int .i64 0, .int .i64 0, .int .i64 0, .int .i64 0] 68) := heap_alloc_new w _
    unfold World.frozen?; simp only [hb]; simp
theorem pos_zero {l : List M} {r : Int} (h : Ok r 0 l) : pos l ((0 : Nat) : Int) = 0 := by
  unfold pos
  rw [List.countP_eq_zero]
  intro x hx
  have := h.within x hx
  simp; omega

set_option maxRecDepth 100000 in
set_option maxHeartbeats 8000000 in
theorem rmapFirst (P : Option Addr) (n c : Nat) (d : Nat → Int × Int) (w : World) (h : Drafts w P n d) : Calls Try.prog 8 #[.slice P n c] w fun e w' => e = .returned (.bool true) ∧ Gw w w' := by
  obtain ⟨q, hq⟩ : ∃ q, q ≤ 40 ∧ q ≤ n ∧ (q = 40 ∨ q = n) := by
    by_cases h : 40 ≤ n
    · exact ⟨40, by omega, h, .inl rfl⟩
    · exact ⟨n, by omega, by omega, .inr rfl⟩
  have H := Lib.hid h
  have HQ := Lib.hid hq
  have hq40 : q ≤ 40 := hq.1
  clear h hq
  go_enter Try.func8, Try.ntmps8
  go_wp2_with fail
  refine (new_ (w0 := w) (H := []) (Fr.refl _ _) (by simp) 30 (by omega)).mono ?_
  rintro e w1 ⟨X, rfl, hx1, hx2, hg, ht⟩
  have HT := Lib.hid ht
  have HG := Lib.hid hg
  clear ht hg
  go_wp2_with fail
  refine (works _).mono ?_
  rintro e w2 ⟨rfl, hg⟩
  have HN := Lib.hid (HT.out.gw hg); clear HT; have HT := HN; clear HN
  have HN := Lib.hid (gw_trans HG.out hg); clear HG hg; have HG := HN; clear HN
  go_wp2_with fail
  refine (maps_ (H.out.gw HG.out) q HQ.out).mono ?_
  rintro e w3 ⟨R, E, rfl, hrow, hsn, hg⟩
  have HN := Lib.hid (HT.out.gw hg)
  have hRX : blk R ≠ some X := fun e => by have := hsn X e; have := HT.out.2.2.1 X HT.out.1; omega
  clear HT; have HT := HN; clear HN
  have HN := Lib.hid (gw_trans HG.out hg); clear HG hg; have HG := HN; clear HN
  have HR := Lib.hid hrow.maps
  have HRX := Lib.hid hRX
  clear hrow hsn hRX H
  go_wp2_with fail
  have HFA := Lib.hid (fa_new w3 d)
  have hg4 := Lib.hid (gw_alloc1 w3 (.cells #[.int .i64 0, .int .i64 0, .int .i64 0, .int .i64 0, .int .i64 0, .int .i64 0, .int .i64 0, .int .i64 0, .int .i64 0, .int .i64 0, .int .i64 0, .int .i64 0, .int .i64 0, .int .i64 0, .int .i64 0, .int .i64 0, .int .i64 0, .int .i64 0, .int .i64 0, .int .i64 0, .int .i64 0, .int .i64 0, .int .i64 0, .int .i64 0, .int .i64 0, .int .i64 0, .int .i64 0, .int .i64 0, .int .i64 0, .int .i64 0] 68))
  have hF : w3.heap.size < (w3.alloc (.cells #[.int .i64 0, .int .i64 0, .int .i64 0, .int .i64 0, .int .i64 0, .int .i64 0, .int .i64 0, .int .i64 0, .int .i64 0, .int .i64 0, .int .i64 0, .int .i64 0, .int .i64 0, .int .i64 0, .int .i64 0, .int .i64 0, .int .i64 0, .int .i64 0, .int .i64 0, .int .i64 0, .int .i64 0, .int .i64 0, .int .i64 0, .int .i64 0, .int .i64 0, .int .i64 0, .int .i64 0, .int .i64 0, .int .i64 0, .int .i64 0] 68)).heap.size := by rw [World.size_alloc]; omega
  have HFF := Lib.hid hF
  have hXF : X < w3.heap.size := HT.out.2.2.1 X HT.out.1
  have HN := Lib.hid (HT.out.more hg4.out (Nat.le_refl _) HFF.out); clear HT; have HT := HN; clear HN
  have HN := Lib.hid (gw_trans HG.out hg4.out); clear HG; have HG := HN; clear HN
  have HRF : Hid (blk R ≠ some w3.heap.size) := Lib.hid (fun e => by have := HR.out.lt e; omega)
  have HN := Lib.hid (HR.out.gw hg4.out); clear HR; have HR := HN; clear HN
  clear hF hg4
  generalize w3.alloc (.cells #[.int .i64 0, .int .i64 0, .int .i64 0, .int .i64 0, .int .i64 0, .int .i64 0, .int .i64 0, .int .i64 0, .int .i64 0, .int .i64 0, .int .i64 0, .int .i64 0, .int .i64 0, .int .i64 0, .int .i64 0, .int .i64 0, .int .i64 0, .int .i64 0, .int .i64 0, .int .i64 0, .int .i64 0, .int .i64 0, .int .i64 0, .int .i64 0, .int .i64 0, .int .i64 0, .int .i64 0, .int .i64 0, .int .i64 0, .int .i64 0] 68) = w4 at *
  generalize w3.heap.size = F at *
  have hFX : F ≠ X := by omega
  have hwF : w.heap.size ≤ F := by omega
  go_loopw [7, 8] (fun v7 v8 wr => ∃ k : Nat, k ≤ q ∧ v7 = .int .i64 (fill d k).length ∧ v8 = .int .i64 k ∧ Hid (TS w wr [F, X] X 30 0 (fill d k) ∧ FA wr F (fs d k) ∧ Maps wr R q E (row d q) ∧ Gw w wr)) (fun _ v8 _ => q - (intOf v8).toNat)
  case atStart => exact ⟨0, by omega, rfl, rfl, Lib.hid ⟨HT.out, HFA.out, HR.out, HG.out⟩⟩
  case round =>
    obtain ⟨k, hk, rfl, rfl, HO⟩ := hrel
    by_cases hkq : k < q
    · have z0 : (k : Int) < q := by omega
      have hkl : k < (row d q).length := by rw [row_len]; exact hkq
      obtain ⟨g, o, rfl, m0, m1, m2, m3⟩ := HO.out.2.2.1.at' hkl
      rw [row_get] at m0 m1 m2 m3
      have HW := Lib.hid (wf_draft (d := d) (i := k) (by omega))
      have hda := draft_at d k
      obtain ⟨a, ha⟩ : ∃ a : Nat, (draft d k).at' = a := ⟨(draft d k).at'.toNat, by omega⟩
      have ha30 : a < 30 := by omega
      have hinv := fs_inv d k (by omega) a
      have hB := draft_b d (fill d k) k
      rw [ha, hinv.1] at hB
      have hfl := fill_len d k (by omega)
      have hfs : fs d k a ≤ k := by
        by_cases e : fs d k a = 0
        · omega
        · exact (hinv.2 e).1
      have hF1 : ∀ b, b < 30 → fs d (k + 1) b = if b = a then (if fs d k a = 0 then k + 1 else fs d k a) else fs d k b := by
        intro b hb
        show (if _ then _ else _) = _
        rw [ha]
        by_cases e : b = a
        · subst e; rw [if_pos rfl]; by_cases e0 : fs d k b = 0 <;> simp [e0]
        · rw [if_neg e, if_neg (by omega)]
      have HF1 := Lib.hid hF1
      have HFL : Hid (fill d (k + 1) = putL 30 0 (fill d k) (draft d k)) := Lib.hid rfl
      have hfl2 : Hid ((fill d (k + 1)).length = if fs d k a = 0 then (fill d k).length + 1 else (fill d k).length) := by
        refine Lib.hid ?_
        rw [HFL.out]; unfold putL; rw [hB]
        by_cases e0 : fs d k a = 0
        · simp [e0, length_ins]
        · simp [e0]
      clear hinv hF1 hda
      by_cases h0 : fs d k a = 0
      · have hB1 : putB 30 0 (fill d k) (draft d k) = true := by rw [hB]; simp [h0]
        have HC : ∀ W, TS w W [F, X] X 30 0 (fill d k) → Calls Try.prog 31 #[.pointer (some ⟨X, 0, none⟩), agg (draft d k)] W (TabP w W [F, X] X 30 0 (fill d (k + 1)) (.returned (.bool true))) := fun W hT => put_v hT (draft d k) HW.out true _ hB1 rfl
        have HCC := Lib.hid HC
        have hlen1 : (fill d (k + 1)).length = (fill d k).length + 1 := by rw [hfl2.out, if_pos h0]
        have HL1 := Lib.hid hlen1
        have HH0 := Lib.hid h0
        clear hB hB1 HC hlen1 hfl2 HFL h0
        have HAA := Lib.hid ha
        clear ha
        generalize draft d k = m at *
        generalize (fill d k).length = u at *
        go_wp2_with fail
        refine (HCC.out _ HO.out.1).mono ?_
        rintro e w5 ⟨rfl, ht, hf⟩
        have x0 := cell_fx (p := ⟨g, o + k * 4, none⟩) hf (fun e => HRX.out (by rw [show g = X from e]; rfl)) m0
        rw [HAA.out] at x0
        have fa := HO.out.2.1.blk (hf.block F HO.out.2.1.lt hFX)
        obtain ⟨f0, f1⟩ := fa a ha30
        rw [HH0.out] at f0
        have HFA5 := Lib.hid fa
        have HT5 := Lib.hid ht
        have HF5 := Lib.hid hf
        clear ht hf fa m0 m1 m2 m3
        have za : (a : Int) < 30 := by omega
        go_wp2_with fail
        go_roundw
        case rel =>
          have hset := HFA5.out.set (g := fs d (k + 1)) a ha30 (k + 1) (fun b hb => by rw [HF1.out b hb, HH0.out]; rfl)
          have hsx : Fx F w5 (w5.setCell ⟨F, a, none⟩ (.int .i64 (k + 1 : Nat))) := Fr.setCell (Fr.refl _ _) _ _ rfl
          exact ⟨k + 1, by omega, by rw [HL1.out]; go_num, by go_num, Lib.hid ⟨HT5.out.fx (by simp) (Ne.symm hFX) hsx, hset, (HO.out.2.2.1.fx HF5.out HRX.out).fx hsx HRF.out, gw_fx (gw_fx HO.out.2.2.2 HT5.out.2.1 HF5.out) hwF hsx⟩⟩
        case measure => simp [intOf]; omega
      · have hB1 : putB 30 0 (fill d k) (draft d k) = false := by rw [hB]; simp [h0]
        have HC : ∀ W, TS w W [F, X] X 30 0 (fill d k) → Calls Try.prog 31 #[.pointer (some ⟨X, 0, none⟩), agg (draft d k)] W (TabP w W [F, X] X 30 0 (fill d (k + 1)) (.returned (.bool false))) := fun W hT => put_v hT (draft d k) HW.out false _ hB1 rfl
        have HCC := Lib.hid HC
        have hlen1 : (fill d (k + 1)).length = (fill d k).length := by rw [hfl2.out, if_neg h0]
        have HL1 := Lib.hid hlen1
        have HH0 := Lib.hid h0
        clear hB hB1 HC hlen1 hfl2 HFL h0
        have HAA := Lib.hid ha
        clear ha
        generalize draft d k = m at *
        generalize (fill d k).length = u at *
        go_wp2_with fail
        refine (HCC.out _ HO.out.1).mono ?_
        rintro e w5 ⟨rfl, ht, hf⟩
        have x0 := cell_fx (p := ⟨g, o + k * 4, none⟩) hf (fun e => HRX.out (by rw [show g = X from e]; rfl)) m0
        rw [HAA.out] at x0
        have fa := HO.out.2.1.blk (hf.block F HO.out.2.1.lt hFX)
        obtain ⟨f0, f1⟩ := fa a ha30
        have hne0 : fs d k a ≠ 0 := HH0.out
        have hfb : ((fs d k a : Int) == 0) = false := by rw [beq_eq_false_iff_ne]; omega
        generalize hfk : fs d k a = fk at *
        have HFK := Lib.hid hfk
        clear hfk
        have HFA5 := Lib.hid fa
        have HT5 := Lib.hid ht
        have HF5 := Lib.hid hf
        clear ht hf fa m0 m1 m2 m3
        have za : (a : Int) < 30 := by omega
        go_wp2_with fail
        go_roundw
        case rel =>
          have hset : FA w5 F (fs d (k + 1)) := fun b hb => by
            have h1 := HFA5.out b hb
            have h2 := HF1.out b hb
            have h3 : fs d (k + 1) b = fs d k b := by
              rw [h2]; by_cases e : b = a
              · subst e; rw [if_pos rfl, if_neg hne0, HFK.out]
              · rw [if_neg e]
            rw [h3]; exact h1
          exact ⟨k + 1, by omega, by rw [HL1.out], by go_num, Lib.hid ⟨HT5.out, hset, HO.out.2.2.1.fx HF5.out HRX.out, gw_fx HO.out.2.2.2 HT5.out.2.1 HF5.out⟩⟩
        case measure => simp [intOf]; omega
    · obtain rfl : k = q := by omega
      have hok := ok_fill d k (by omega)
      have hfl := fill_len d k (by omega)
      have HINV := Lib.hid (fs_inv d k (by omega))
      have HOK := Lib.hid hok
      obtain ⟨l, hl⟩ : ∃ l, fill d k = l := ⟨_, rfl⟩
      rw [hl] at HO hfl HINV HOK ⊢
      obtain ⟨u, hu⟩ : ∃ u, l.length = u := ⟨_, rfl⟩
      have HU := Lib.hid hu
      rw [hu] at hfl ⊢
      clear hok hu hl HT HR HFA HG
      go_wp2_with fail
      refine (all_ HO.out.1).mono ?_
      rintro e w5 ⟨P1, n1, C1, rfl, hr1, hg, hs1⟩
      have e1 : n1 = u := by have h1 := hr1.2; have h2 := HU.out; omega
      subst e1
      have HM1 := Lib.hid hr1.maps
      have HT5 := Lib.hid (HO.out.1.gw hg)
      have HFA5 := Lib.hid (HO.out.2.1.blk (hg.block F HO.out.2.1.lt (fun h => h)))
      have HR5 := Lib.hid (HO.out.2.2.1.gw hg)
      have HG5 := Lib.hid (gw_trans HO.out.2.2.2 hg)
      clear hr1 hg hs1
      go_wp2_with fail
      refine (len_n HT5.out n1 (by rw [HU.out])).mono ?_
      rintro e w6 ⟨rfl, rfl⟩
      go_wp2_with fail
      obtain ⟨wo, hwo⟩ : ∃ wo : World, wo = wr := ⟨_, rfl⟩
      subst hwo
      go_loopw [12, 13] (fun v12 v13 wx => ∃ a : Nat, a ≤ 30 ∧ v12 = .int .i64 (pos l a) ∧ v13 = .int .i64 a ∧ Hid (Gw w5 wx)) (fun _ v13 _ => 30 - (intOf v13).toNat)
      case atStart => exact ⟨0, by omega, by rw [pos_zero HOK.out]; rfl, rfl, Lib.hid (Fr.refl _ _)⟩
      case round =>
        obtain ⟨a, ha, rfl, rfl, HI⟩ := hrel
        by_cases ha30 : a < 30
        · have za : (a : Int) < 30 := by omega
          have hinv := HINV.out a
          have hpn := pos_next HOK.out.srt (a : Int)
          have hpl := pos_le l a
          rw [HU.out] at hpl
          obtain ⟨f0, f1⟩ := (HFA5.out.blk (HI.out.block F HFA5.out.lt (fun h => h))) a ha30
          by_cases h0 : fs d k a = 0
          · have hh : has l a = false := by rw [hinv.1]; simp [h0]
            have HP : Hid (pos l ((a + 1 : Nat) : Int) = pos l a) := Lib.hid (by push_cast; rw [hpn, hh]; simp)
            have HH := Lib.hid hh
            rw [h0] at f0
            have f0 : wr.cell? ⟨F, a, none⟩ = some (.int .i64 0) := f0
            generalize pos l a = p at *
            clear hinv hpn hh h0
            go_wp2_with fail
            refine (at_n (HT5.out.gw HI.out) a ⟨0, 0, 0, 0⟩ false (get_none HH.out) HH.out).mono ?_
            rintro e w7 ⟨rfl, hg7⟩
            have HG7 := Lib.hid (gw_trans HI.out hg7)
            have f2 : w7.cell? ⟨F, a, none⟩ = some (.int .i64 0) := cell_gw hg7 f0
            have f3 := cell_alloc_old (.cells #[.int .i64 0, .int .i64 0, .int .i64 0, .int .u16 0] 60) f2
            have HG8 := Lib.hid (gw_alloc1 w7 (.cells #[.int .i64 0, .int .i64 0, .int .i64 0, .int .u16 0] 60))
            clear hg7 f0 f2
            go_wp2_with fail
            go_roundw
            case rel => exact ⟨a + 1, by omega, by rw [HP.out], by go_num, Lib.hid (gw_trans HG7.out HG8.out)⟩
            case measure => simp [intOf]; omega
          · have hh : has l a = true := by rw [hinv.1]; simp [h0]
            obtain ⟨hfk, hget⟩ := hinv.2 h0
            have HP : Hid (pos l ((a + 1 : Nat) : Int) = pos l a + 1) := Lib.hid (by push_cast; rw [hpn, hh]; simp)
            obtain ⟨hp, hpa⟩ := (has_iff HOK.out.srt (a : Int)).1 hh
            have hgp : l[pos l a] = get l a := by
              have h1 := get_of HOK.out.srt hp
              rw [hpa] at h1
              exact h1.symm
            obtain ⟨f, hf⟩ : ∃ f, fs d k a = f + 1 := ⟨fs d k a - 1, by omega⟩
            rw [hf] at f0 hget hfk
            have hget2 : get l a = draft d f := by rw [hget]; rfl
            have hfr : f < (row d k).length := by rw [row_len]; omega
            obtain ⟨g1, o1, rfl, a0, a1, a2, a3⟩ := HM1.out.at' hp
            obtain ⟨g2, o2, rfl, b0, b1, b2, b3⟩ := HR5.out.at' hfr
            rw [hgp] at a0 a1 a2 a3
            rw [row_get, ← hget2] at b0 b1 b2 b3
            have HH := Lib.hid hh
            have hgm := Lib.hid (show get l (a : Int) = get l (a : Int) from rfl)
            have hpn1 : pos l a < n1 := by rw [← HU.out]; exact hp
            have HA : ∀ W, Gw w5 W → Calls Try.prog 34 #[.pointer (some ⟨X, 0, none⟩), .int .i64 (a : Int)] W (AtP (get l a) true W) := fun W hW => at_n (HT5.out.gw hW) a _ true rfl HH.out
            have HAA := Lib.hid HA
            clear hinv hpn hh h0 hget hget2 hgp hpa hf hgm HA hfr hp
            generalize get l (a : Int) = m at *
            generalize pos l (a : Int) = p at *
            have zp : (p : Int) < n1 := by omega
            have zf : (f : Int) < k := by omega
            go_wp2_with fail
            refine (HAA.out _ HI.out).mono ?_
            rintro e w7 ⟨rfl, hg7⟩
            have HG7 := Lib.hid (gw_trans HI.out hg7)
            have HG8 := Lib.hid (gw_trans HG7.out (gw_alloc1 w7 (.cells #[.int .i64 m.at', .int .i64 m.off, .int .i64 m.len, .int .u16 m.sum] 60)))
            have f3 := cell_alloc_old (.cells #[.int .i64 m.at', .int .i64 m.off, .int .i64 m.len, .int .u16 m.sum] 60) (cell_gw hg7 f0)
            have f4 : (w7.alloc (.cells #[.int .i64 m.at', .int .i64 m.off, .int .i64 m.len, .int .u16 m.sum] 60)).cell? ⟨F, a, none⟩ = some (.int .i64 ((f : Int) + 1)) := f3
            have a0 := cell_gw HG8.out a0
            have a1 := cell_gw HG8.out a1
            have a2 := cell_gw HG8.out a2
            have a3 := cell_gw HG8.out a3
            have b0 := cell_gw HG8.out b0
            have b1 := cell_gw HG8.out b1
            have b2 := cell_gw HG8.out b2
            have b3 := cell_gw HG8.out b3
            have c0 : (w7.alloc (.cells #[.int .i64 m.at', .int .i64 m.off, .int .i64 m.len, .int .u16 m.sum] 60)).cell? ⟨w7.heap.size, 0, none⟩ = some (.int .i64 m.at') := by rw [World.cell?_alloc_new]; rfl
            have c1 : (w7.alloc (.cells #[.int .i64 m.at', .int .i64 m.off, .int .i64 m.len, .int .u16 m.sum] 60)).cell? ⟨w7.heap.size, 1, none⟩ = some (.int .i64 m.off) := by rw [World.cell?_alloc_new]; rfl
            have c2 : (w7.alloc (.cells #[.int .i64 m.at', .int .i64 m.off, .int .i64 m.len, .int .u16 m.sum] 60)).cell? ⟨w7.heap.size, 2, none⟩ = some (.int .i64 m.len) := by rw [World.cell?_alloc_new]; rfl
            have c3 : (w7.alloc (.cells #[.int .i64 m.at', .int .i64 m.off, .int .i64 m.len, .int .u16 m.sum] 60)).cell? ⟨w7.heap.size, 3, none⟩ = some (.int .u16 m.sum) := by rw [World.cell?_alloc_new]; rfl
            clear hg7 f0 f3 f1
            have zg : (0 : Int) < (f : Int) + 1 := by omega
            go_wp2_with fail
            generalize w7.alloc (.cells #[.int .i64 m.at', .int .i64 m.off, .int .i64 m.len, .int .u16 m.sum] 60) = w8 at *
            have zw : IntKind.i64.wrap ((f : Int) + 1 - 1) = (f : Int) := by rw [IntWalk.i64_in _ (by omega)]; omega
            have zt : ((f : Int) + 1 - 1) = (f : Int) := by omega
            go_quiet (fail)
            go_wp2_with fail
            go_roundw
            case rel => exact ⟨a + 1, by omega, by rw [HP.out]; go_num, by go_num, Lib.hid (gw_drewN HG8.out _)⟩
            case measure => simp [intOf]; omega
        · obtain rfl : a = 30 := by omega
          go_wp2_with fail
          go_ret
          exact ⟨rfl, gw_trans HG5.out HI.out⟩
end Go.Proofs.Ytdaodpojcjbggaa.Rm
