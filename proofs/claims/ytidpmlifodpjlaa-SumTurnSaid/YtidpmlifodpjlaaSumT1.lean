/- The walk of SumTurn, one of its four cases (printed by sumturn.py). -/
import Derived.Test.YtidpmlifodpjlaaSumM
namespace Go.Proofs.Ytidpmlifodpjlaa.Sm
open Go.RowKit
set_option linter.unusedVariables false
attribute [local go_sem] Gw.refl gw_drew_iff Gw.alloc gw_alloc1 gw_alloc2 gw_alloc2d gw_alloc1d

set_option maxRecDepth 100000 in
set_option maxHeartbeats 16000000 in
theorem sumTurn1 (text t0 t : ByteArray) (hl : 200 < (text.size : Int)) (he : text.extract 0 200 = t0) (ho : ((t0.size : Int) % 2 == 1) = false) (htt : t0 = t) (hz : ((t.size : Int) == 0) = false) (ht0 : t0.size ≤ 200) (htz : t.size ≤ 201) (hev : t.size % 2 = 0) (at_ is_ : Int) (ha : 0 ≤ at_ ∧ at_ < 256) (hb : 0 ≤ is_ ∧ is_ ≤ 65535) (hs : text.size ≤ 9223372036854775807) (w : World) :
    Calls Try.prog 7 #[.string text, .int .u8 at_, .int .u16 is_] w fun e w' => e = .returned (.bool true) ∧ Gw w w' := by
  have hmix : Try.prog.follows .mixedOrders = true := by kernel_rfl
  have hpos : 0 < t.size := by
    rcases Nat.eq_zero_or_pos t.size with h | h
    · simp [h] at hz
    · exact h
  have hq0 : 0 < (t.size : Int) / 2 := by omega
  have hk0 := Int.emod_nonneg at_ (b := (t.size : Int) / 2) (by omega)
  have hk1 := Int.emod_lt_of_pos at_ (b := (t.size : Int) / 2) (by omega)
  obtain ⟨k, hk⟩ : ∃ k : Nat, at_ % ((t.size : Int) / 2) = k := ⟨(at_ % ((t.size : Int) / 2)).toNat, by omega⟩
  rw [hk] at hk0 hk1
  have hk2 : 2 * k + 1 < t.size := by omega
  have hkl : 2 * k + 1 < t.data.toList.length := by simpa using hk2
  have HEV := Lib.hid hev
  have hcat : ¬ 9223372036854775807 < t0.size + 1 := by omega
  clear hev
  subst htt
  go_enter Try.func7, Try.ntmps7
  go_wp2_with (go_at_call 18; refine (works _).mono ?_; rintro e w1 ⟨rfl, hg1⟩)
  rw [run_bytes_of_string w1 9 38 5 t0 Try.underlying9 Try.underlying38 Try.underlying5]
  have hbuf := buf_new w1 t0 (grownCap w1 t0.size 0 5)
  have hg2 : Gw w1 (w1.drew.alloc (.cells (bytesRow t0 (grownCap w1 t0.size 0 5)) 5 ((bytesRow t0 (grownCap w1 t0.size 0 5)).size, (bytesRow t0 (grownCap w1 t0.size 0 5)).size + 1))) := ((Gw.refl w1).drew).alloc _
  obtain ⟨B, hB⟩ : ∃ B, w1.heap.size = B := ⟨_, rfl⟩
  have hBw : Below B w1 (w1.drew.alloc (.cells (bytesRow t0 (grownCap w1 t0.size 0 5)) 5 ((bytesRow t0 (grownCap w1 t0.size 0 5)).size, (bytesRow t0 (grownCap w1 t0.size 0 5)).size + 1))) := by rw [← hB]; exact hg2
  rw [hB] at hbuf ⊢
  generalize w1.drew.alloc (.cells (bytesRow t0 (grownCap w1 t0.size 0 5)) 5 ((bytesRow t0 (grownCap w1 t0.size 0 5)).size, (bytesRow t0 (grownCap w1 t0.size 0 5)).size + 1)) = w2 at *
  generalize grownCap w1 t0.size 0 5 = cp
  have hlen : t0.data.toList.length = t0.size := by simp
  have hl0 : t0.data.toList.length ≤ 100000000 := by rw [hlen]; omega
  have hld : Lib.hid hlen = Lib.hid hlen := rfl
  have hc2 := (hbuf.2 (2 * k) (by omega)).1
  have hc3 := (hbuf.2 (2 * k + 1) (by omega)).1
  have hf2 := (hbuf.2 (2 * k) (by omega)).2
  have hf3 := (hbuf.2 (2 * k + 1) (by omega)).2
  have hwat : wordAt t0.data.toList k = ((t0.data.toList[2 * k].toNat : Int)) * 256 + ((t0.data.toList[2 * k + 1].toNat : Int)) := by
    unfold wordAt
    rw [List.getD_eq_getElem?_getD, List.getElem?_eq_getElem (by omega), List.getD_eq_getElem?_getD, List.getElem?_eq_getElem (by omega)]; rfl
  have hx1 := (t0.data.toList[2 * k]).toNat_lt
  have hx2 := (t0.data.toList[2 * k + 1]).toNat_lt
  obtain ⟨x, hx⟩ : ∃ x : Int, (t0.data.toList[2 * k].toNat : Int) = x := ⟨_, rfl⟩
  obtain ⟨y, hy⟩ : ∃ y : Int, (t0.data.toList[2 * k + 1].toNat : Int) = y := ⟨_, rfl⟩
  have hx3 : 0 ≤ x ∧ x < 256 := by omega
  have hy3 : 0 ≤ y ∧ y < 256 := by omega
  rw [hx] at hc2 hwat; rw [hy] at hc3 hwat
  clear hx hy hx1 hx2
  have hor := or_join x y hx3.1 hx3.2 hy3.1 hy3.2
  have HWAT := Lib.hid hwat
  have HLEN := Lib.hid hlen
  have HL0 := Lib.hid hl0
  have HBUF := Lib.hid hbuf
  have HB := Lib.hid hB
  have HBW := Lib.hid hBw
  obtain ⟨c, hc⟩ := bytes_of (is_ / 256) (by omega) (by omega)
  obtain ⟨d, hd⟩ := bytes_of (is_ % 256) (by omega) (by omega)
  clear hwat hlen hl0 hbuf hB hkl hld hBw hg2
  go_wp2_with fail
  go_quiet (fail)
  have HBUF3 := Lib.hid (HBUF.out.gw ((Gw.refl w2).drewN nq))
  have HBW3 : Hid (Below B w1 (w2.drewN nq)) := Lib.hid (below_gw HBW.out (Nat.le_of_lt HBUF.out.1) ((Gw.refl w2).drewN nq))
  generalize w2.drewN nq = w3 at *
  have hkl : 2 * k + 1 < t0.data.toList.length := by rw [HLEN.out]; exact hk2
  obtain ⟨x3, hc2, hf2⟩ := HBUF3.out.at (2 * k) (by omega)
  obtain ⟨y3, hc3, hf3⟩ := HBUF3.out.at (2 * k + 1) (by omega)
  have HKL := Lib.hid hkl
  clear HBUF HBW hkl
  go_wp2_with fail
  have hbuf := Buf.setw HBUF3.out HKL.out c d
  have HB4 := Lib.hid (below_set2 HBW3.out (2 * k) (2 * k + 1) (.int .u8 (c.toNat : Int)) (.int .u8 (d.toNat : Int)))
  generalize (w3.setCell ⟨B, 2 * k, none⟩ (.int .u8 (c.toNat : Int))).setCell ⟨B, 2 * k + 1, none⟩ (.int .u8 (d.toNat : Int)) = w4 at *
  have HBUF4 := Lib.hid hbuf
  have hcv : ∀ W, Gw w4 W → (convert 38 9 (.slice (some ⟨B, 0, none⟩) t0.size cp)).run Try.prog W = .ok (.string ⟨(setw t0.data.toList k c d).toArray⟩) W := fun W h => buf_str (hbuf.gw h) (by rw [setw_length, HLEN.out]) cp
  have hts : (Tn (Sm t0.data.toList) (x * 256 + y) is_ % 65535 == Sm (⟨(setw t0.data.toList k c d).toArray⟩ : ByteArray).data.toList % 65535) = true := by
    have e : is_ = (c.toNat : Int) * 256 + d.toNat := by omega
    have := turn_word t0.data.toList k HKL.out c d HL0.out
    rw [HWAT.out, ← e] at this
    exact this
  unfold Tn at hts
  have hsz : (⟨(setw t0.data.toList k c d).toArray⟩ : ByteArray).size ≤ 300 := by show Array.size _ ≤ _; simp only [List.size_toArray, setw_length, HLEN.out]; omega
  obtain ⟨s2, hs2⟩ : ∃ s2, (⟨(setw t0.data.toList k c d).toArray⟩ : ByteArray) = s2 := ⟨_, rfl⟩
  rw [hs2] at hcv hts hsz
  have HS2 := Lib.hid hs2
  clear hbuf hc2 hc3 hf2 hf3 HBUF3 HBW3 hs2
  rename_i K1 hK1 K hK
  have HK : ∀ (a : Act) (w' : World) (bb : Bool), Gw w4 w' → bb = false → a.defers = [] → a.tmps.toList.length = 108 → a.tmps.toList[7]? = some (.int .i64 k) → a.tmps.toList[8]? = some (.slice (some ⟨B, 0, none⟩) t0.size cp) → a.tmps.toList[75]? = some (.bool bb) → K a w' := by
    rintro ⟨⟨v⟩, _⟩ w' bb hgx rfl rfl hv0 h7 h8 h75
    clear hcv
    refine frame108 (fun v => K ⟨v.toArray, []⟩ w') _ _ _ ?_ v hv0 h7 h8 h75
    clear hv0 h7 h8 h75 v
    intro v0 v1 v2 v3 v4 v5 v6 v9 v10 v11 v12 v13 v14 v15 v16 v17 v18 v19 v20 v21 v22 v23 v24 v25 v26 v27 v28 v29 v30 v31 v32 v33 v34 v35 v36 v37 v38 v39 v40 v41 v42 v43 v44 v45 v46 v47 v48 v49 v50 v51 v52 v53 v54 v55 v56 v57 v58 v59 v60 v61 v62 v63 v64 v65 v66 v67 v68 v69 v70 v71 v72 v73 v74 v76 v77 v78 v79 v80 v81 v82 v83 v84 v85 v86 v87 v88 v89 v90 v91 v92 v93 v94 v95 v96 v97 v98 v99 v100 v101 v102 v103 v104 v105 v106 v107
    refine hK _ _ ?_
    clear hK
    have hkw : ∀ c d, 2 * k + 1 < (setw t0.data.toList k c d).length := fun c d => by rw [setw_length]; exact HKL.out
    have hlw : ∀ c d, (setw t0.data.toList k c d).length = t0.size := fun c d => by rw [setw_length, HLEN.out]
    have hbuf5 := HBUF4.out.gw hgx
    have HB5 := Lib.hid (below_gw HB4.out (Nat.le_of_lt HBUF4.out.1) hgx)
    obtain ⟨x5, hc2, hf2⟩ := hbuf5.at (2 * k) (by have := hkw c d; omega)
    obtain ⟨y5, hc3, hf3⟩ := hbuf5.at (2 * k + 1) (hkw c d)
    have hbuf6 := Buf.setw0 hbuf5 (k := k) (hkw c d)
    rw [setw_setw] at hbuf6
    have HBUF6 := Lib.hid hbuf6
    have hcv6 := buf_str hbuf6 (hlw 0 0) cp
    obtain ⟨s3, hs3⟩ : ∃ s3, (⟨(setw t0.data.toList k 0 0).toArray⟩ : ByteArray) = s3 := ⟨_, rfl⟩
    have hsz3 : (⟨(setw t0.data.toList k 0 0).toArray⟩ : ByteArray).size ≤ 300 := by show Array.size _ ≤ _; simp only [List.size_toArray, hlw]; omega
    rw [hs3] at hcv6 hsz3
    have HSM3 : Hid (Sm s3.data.toList = Sm (setw t0.data.toList k 0 0)) := Lib.hid (by rw [← hs3])
    have hr3 := Sm_range s3.data.toList
    have HB6 := Lib.hid (below_set2 HB5.out (2 * k) (2 * k + 1) (.int .u8 0) (.int .u8 0))
    have HKW := Lib.hid hkw
    have HLW := Lib.hid hlw
    clear hbuf5 hbuf6 hs3 hkw hlw hgx
    go_wp2_with fail
    refine (of1 _ _ s3 _ ?cell (by omega)).mono ?_
    case cell => (repeat (first | (with_reducible refine cell_new_at ?_; first | with_reducible rfl | (simp; done)) | with_reducible refine cell_alloc_l _ ?_ | with_reducible refine cell_drew ?_ | with_reducible refine cell_gw (by with_reducible assumption) ?_)); done
    rintro e w7 ⟨rfl, hg7'⟩
    have hg7 := Gw.trans (gw_alloc1 _ _) hg7'
    clear hg7'
    generalize (w'.setCell ⟨B, 2 * k, none⟩ (.int .u8 0)).setCell ⟨B, 2 * k + 1, none⟩ (.int .u8 0) = w6 at *
    have hbuf7 := HBUF6.out.gw hg7
    have HB7 := Lib.hid (below_gw HB6.out (Nat.le_of_lt HBUF6.out.1) hg7)
    obtain ⟨x7, hc7, hf7⟩ := hbuf7.at (2 * k) (by have := HKW.out 0 0; omega)
    obtain ⟨y7, hc8, hf8⟩ := hbuf7.at (2 * k + 1) (HKW.out 0 0)
    obtain ⟨c2, hcc⟩ := bytes_of ((65535 - Sm s3.data.toList) / 256) (by omega) (by omega)
    obtain ⟨d2, hdd⟩ := bytes_of ((65535 - Sm s3.data.toList) % 256) (by omega) (by omega)
    have hbuf8 := Buf.setw hbuf7 (k := k) (HKW.out 0 0) c2 d2
    rw [setw_setw] at hbuf8
    have hcv8 := buf_str hbuf8 (HLW.out c2 d2) cp
    have HB8 := Lib.hid (below_set2 HB7.out (2 * k) (2 * k + 1) (.int .u8 (c2.toNat : Int)) (.int .u8 (d2.toNat : Int)))
    have hwh : (Sm (setw t0.data.toList k c2 d2) == 65535) = true := by
      have := whole_word (setw t0.data.toList k 0 0) k (HKW.out 0 0) c2 d2 (by rw [HLW.out]; omega) (by rw [wordAt_setw _ _ HKL.out]; rfl) (by rw [← HSM3.out]; omega)
      rwa [setw_setw] at this
    obtain ⟨s4, hs4⟩ : ∃ s4, (⟨(setw t0.data.toList k c2 d2).toArray⟩ : ByteArray) = s4 := ⟨_, rfl⟩
    have hsz4 : (⟨(setw t0.data.toList k c2 d2).toArray⟩ : ByteArray).size ≤ 300 := by show Array.size _ ≤ _; simp only [List.size_toArray, HLW.out]; omega
    have HWH : Hid ((Sm s4.data.toList == 65535) = true) := Lib.hid (by rw [← hs4]; exact hwh)
    rw [hs4] at hcv8 hsz4
    clear hbuf7 hbuf8 hwh hs4
    go_wp2_with (first | (go_at_call 23; refine (not_ _ _ (by omega)).mono ?_; rintro e w8 ⟨rfl, rfl⟩) | (go_at_call 17; ((refine (whole1 _ _ s4 _ ?_ ?_).mono ?_; (· ((repeat (first | (with_reducible refine cell_new_at ?_; first | with_reducible rfl | (simp; done)) | with_reducible refine cell_alloc_l _ ?_ | with_reducible refine cell_drew ?_ | with_reducible refine cell_gw (by with_reducible assumption) ?_)); done)); (· omega)); rintro e w9 ⟨rfl, hg9⟩)))
    go_ret
    refine ⟨?_, ?_⟩
    · show Ending.returned (.bool (Sm s4.data.toList == 65535)) = _
      rw [HWH.out]
    · refine Gw.trans hg1 (Gw.trans (b := (w7.setCell ⟨B, 2 * k, none⟩ (.int .u8 (c2.toNat : Int))).setCell ⟨B, 2 * k + 1, none⟩ (.int .u8 (d2.toNat : Int))) ?_ (Gw.trans (gw_alloc1 _ _) hg9))
      unfold Gw; rw [HB.out]; exact HB8.out
  clear hK hK1
  have HKK := Lib.hid HK
  clear HK
  first | (go_region_with (first
    | (go_at_call 16; ((refine (of1 _ _ t0 _ ?_ ?_).mono ?_; (· ((repeat (first | (with_reducible refine cell_new_at ?_; first | with_reducible rfl | (simp; done)) | with_reducible refine cell_alloc_l _ ?_ | with_reducible refine cell_drew ?_ | with_reducible refine cell_gw (by with_reducible assumption) ?_)); done)); (· omega)); rintro e w' ⟨rfl, hb⟩; have hgx := Gw.trans (show Gw w4 _ by (repeat (first | with_reducible exact Gw.refl _ | with_reducible assumption | with_reducible refine Gw.alloc ?_ _ | with_reducible refine Gw.drew ?_ | with_reducible refine Gw.trans ?_ (by with_reducible assumption)))) hb; have hb2 := hb; clear hb))
    | (go_at_call 16; ((refine (of1 _ _ s2 _ ?_ ?_).mono ?_; (· ((repeat (first | (with_reducible refine cell_new_at ?_; first | with_reducible rfl | (simp; done)) | with_reducible refine cell_alloc_l _ ?_ | with_reducible refine cell_drew ?_ | with_reducible refine cell_gw (by with_reducible assumption) ?_)); done)); (· omega)); rintro e w' ⟨rfl, hb⟩; have hgx := Gw.trans (show Gw w4 _ by (repeat (first | with_reducible exact Gw.refl _ | with_reducible assumption | with_reducible refine Gw.alloc ?_ _ | with_reducible refine Gw.drew ?_ | with_reducible refine Gw.trans ?_ (by with_reducible assumption)))) hb; have hb2 := hb; clear hb))
    | (go_at_call 25; refine (turn _ _ _ _ (Sm_range _) (by omega) (by omega)).mono ?_; rintro e w' ⟨rfl, rfl⟩)
    | (go_at_call 21; refine (same _ _ _ (Fo_range (by have := Sm_range t0.data.toList; omega)) (Sm_range _)).mono ?_; rintro e w' ⟨rfl, rfl⟩))) | fail
  all_goals
    clear hcv
    first
    | exact HKK.out _ _ false hgx rfl (by kernel_rfl) (by kernel_rfl) (by kernel_rfl) (by kernel_rfl) (by kernel_rfl)
    | exact HKK.out _ _ (!(Fo (Sm t0.data.toList + (65535 - (x * 256 + y)) + is_) % 65535 == Sm s2.data.toList % 65535)) hgx (by rw [hts]; rfl) (by kernel_rfl) (by kernel_rfl) (by kernel_rfl) (by kernel_rfl) (by kernel_rfl)
end Go.Proofs.Ytidpmlifodpjlaa.Sm
