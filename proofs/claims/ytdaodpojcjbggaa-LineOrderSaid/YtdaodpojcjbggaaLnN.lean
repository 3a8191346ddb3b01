/- The walk of LineOrder (printed by lineorder.py). -/
import Derived.Test.YtdaodpojcjbggaaLnM
namespace Go.Proofs.Ytdaodpojcjbggaa.Ln
open Go.RowKit
set_option linter.unusedVariables false
set_option linter.unusedSimpArgs false
theorem uncons {l : List Value} {n : Nat} (h : l.length = n + 1) : ∃ v l', l = v :: l' ∧ l'.length = n := by
  cases l with
  | nil => simp at h
  | cons v l => exact ⟨v, l, rfl, by simpa using h⟩
theorem split12 {l : List Value} {n : Nat} (h : l.length = n + 12) : ∃ v0 v1 v2 v3 v4 v5 v6 v7 v8 v9 v10 v11 l', l = v0::v1::v2::v3::v4::v5::v6::v7::v8::v9::v10::v11::l' ∧ l'.length = n := by
  match l, h with
  | v0::v1::v2::v3::v4::v5::v6::v7::v8::v9::v10::v11::l', h => exact ⟨v0, v1, v2, v3, v4, v5, v6, v7, v8, v9, v10, v11, l', rfl, by simpa using h⟩
set_option maxRecDepth 10000 in
theorem frame144 (R : List Value → Prop) (v0 v1 v2 v7 : Value) (hq : ∀ v3 v4 v5 v6 v8 v9 v10 v11 v12 v13 v14 v15 v16 v17 v18 v19 v20 v21 v22 v23 v24 v25 v26 v27 v28 v29 v30 v31 v32 v33 v34 v35 v36 v37 v38 v39 v40 v41 v42 v43 v44 v45 v46 v47 v48 v49 v50 v51 v52 v53 v54 v55 v56 v57 v58 v59 v60 v61 v62 v63 v64 v65 v66 v67 v68 v69 v70 v71 v72 v73 v74 v75 v76 v77 v78 v79 v80 v81 v82 v83 v84 v85 v86 v87 v88 v89 v90 v91 v92 v93 v94 v95 v96 v97 v98 v99 v100 v101 v102 v103 v104 v105 v106 v107 v108 v109 v110 v111 v112 v113 v114 v115 v116 v117 v118 v119 v120 v121 v122 v123 v124 v125 v126 v127 v128 v129 v130 v131 v132 v133 v134 v135 v136 v137 v138 v139 v140 v141 v142 v143 : Value, R (v0 :: v1 :: v2 :: v3 :: v4 :: v5 :: v6 :: v7 :: v8 :: v9 :: v10 :: v11 :: v12 :: v13 :: v14 :: v15 :: v16 :: v17 :: v18 :: v19 :: v20 :: v21 :: v22 :: v23 :: v24 :: v25 :: v26 :: v27 :: v28 :: v29 :: v30 :: v31 :: v32 :: v33 :: v34 :: v35 :: v36 :: v37 :: v38 :: v39 :: v40 :: v41 :: v42 :: v43 :: v44 :: v45 :: v46 :: v47 :: v48 :: v49 :: v50 :: v51 :: v52 :: v53 :: v54 :: v55 :: v56 :: v57 :: v58 :: v59 :: v60 :: v61 :: v62 :: v63 :: v64 :: v65 :: v66 :: v67 :: v68 :: v69 :: v70 :: v71 :: v72 :: v73 :: v74 :: v75 :: v76 :: v77 :: v78 :: v79 :: v80 :: v81 :: v82 :: v83 :: v84 :: v85 :: v86 :: v87 :: v88 :: v89 :: v90 :: v91 :: v92 :: v93 :: v94 :: v95 :: v96 :: v97 :: v98 :: v99 :: v100 :: v101 :: v102 :: v103 :: v104 :: v105 :: v106 :: v107 :: v108 :: v109 :: v110 :: v111 :: v112 :: v113 :: v114 :: v115 :: v116 :: v117 :: v118 :: v119 :: v120 :: v121 :: v122 :: v123 :: v124 :: v125 :: v126 :: v127 :: v128 :: v129 :: v130 :: v131 :: v132 :: v133 :: v134 :: v135 :: v136 :: v137 :: v138 :: v139 :: v140 :: v141 :: v142 :: v143 :: [])) (v : List Value) (h : v.length = 144) (h0 : v[0]? = some v0) (h1 : v[1]? = some v1) (h2 : v[2]? = some v2) (h7 : v[7]? = some v7) : R v := by
  have hx := split12 h; clear h; obtain ⟨u0, u1, u2, u3, u4, u5, u6, u7, u8, u9, u10, u11, v, rfl, h⟩ := hx
  have hx := split12 h; clear h; obtain ⟨u12, u13, u14, u15, u16, u17, u18, u19, u20, u21, u22, u23, v, rfl, h⟩ := hx
  have hx := split12 h; clear h; obtain ⟨u24, u25, u26, u27, u28, u29, u30, u31, u32, u33, u34, u35, v, rfl, h⟩ := hx
  have hx := split12 h; clear h; obtain ⟨u36, u37, u38, u39, u40, u41, u42, u43, u44, u45, u46, u47, v, rfl, h⟩ := hx
  have hx := split12 h; clear h; obtain ⟨u48, u49, u50, u51, u52, u53, u54, u55, u56, u57, u58, u59, v, rfl, h⟩ := hx
  have hx := split12 h; clear h; obtain ⟨u60, u61, u62, u63, u64, u65, u66, u67, u68, u69, u70, u71, v, rfl, h⟩ := hx
  have hx := split12 h; clear h; obtain ⟨u72, u73, u74, u75, u76, u77, u78, u79, u80, u81, u82, u83, v, rfl, h⟩ := hx
  have hx := split12 h; clear h; obtain ⟨u84, u85, u86, u87, u88, u89, u90, u91, u92, u93, u94, u95, v, rfl, h⟩ := hx
  have hx := split12 h; clear h; obtain ⟨u96, u97, u98, u99, u100, u101, u102, u103, u104, u105, u106, u107, v, rfl, h⟩ := hx
  have hx := split12 h; clear h; obtain ⟨u108, u109, u110, u111, u112, u113, u114, u115, u116, u117, u118, u119, v, rfl, h⟩ := hx
  have hx := split12 h; clear h; obtain ⟨u120, u121, u122, u123, u124, u125, u126, u127, u128, u129, u130, u131, v, rfl, h⟩ := hx
  have hx := split12 h; clear h; obtain ⟨u132, u133, u134, u135, u136, u137, u138, u139, u140, u141, u142, u143, v, rfl, h⟩ := hx
  obtain rfl : v = [] := List.eq_nil_of_length_eq_zero h
  obtain rfl : u0 = v0 := Option.some.inj h0
  obtain rfl : u1 = v1 := Option.some.inj h1
  obtain rfl : u2 = v2 := Option.some.inj h2
  obtain rfl : u7 = v7 := Option.some.inj h7
  exact hq _ _ _ _ _ _ _ _ _ _ _ _ _ _ _ _ _ _ _ _ _ _ _ _ _ _ _ _ _ _ _ _ _ _ _ _ _ _ _ _ _ _ _ _ _ _ _ _ _ _ _ _ _ _ _ _ _ _ _ _ _ _ _ _ _ _ _ _ _ _ _ _ _ _ _ _ _ _ _ _ _ _ _ _ _ _ _ _ _ _ _ _ _ _ _ _ _ _ _ _ _ _ _ _ _ _ _ _ _ _ _ _ _ _ _ _ _ _ _ _ _ _ _ _ _ _ _ _ _ _ _ _ _ _ _ _ _ _ _ _

/-- Truths that lie in memory. -/
def Bools (w : World) (A : Option Addr) (n : Nat) : Prop := n ≤ 9223372036854775807 ∧ (n = 0 ∨ ∃ b off, A = some ⟨b, off, none⟩ ∧ ∀ i, i < n → ∃ v, w.cell? ⟨b, off + i, none⟩ = some (.bool v))
theorem Bools.gw {w w' : World} {A : Option Addr} {n : Nat} (hg : Gw w w') (h : Bools w A n) : Bools w' A n :=
  ⟨h.1, h.2.imp id fun ⟨b, off, e, hc⟩ => ⟨b, off, e, fun i hi => by obtain ⟨v, hv⟩ := hc i hi; exact ⟨v, cell_gw hg hv⟩⟩⟩

set_option maxRecDepth 100000 in
set_option maxHeartbeats 8000000 in
theorem lineOrder (A B T : Option Addr) (nA cA nB cB nT cT : Nat) (la lb : List ByteArray) (w : World) (ha : Strs w A nA la) (hb : Strs w B nB lb) (ht : Bools w T nT) (hA : A = none → nA = 0 ∧ cA = 0) (hB : B = none → nB = 0 ∧ cB = 0) (hcA : nA ≤ cA) (hcB : nB ≤ cB) :
    Calls Try.prog 4 #[.slice A nA cA, .slice B nB cB, .slice T nT cT] w fun e w' => e = .returned (.bool true) ∧ Gw w w' := by
  go_enter Try.func4, Try.ntmps4
  go_wp2_with (first | (go_at_call 12; refine (st_new _ (Fr.refl _ _)).mono ?_; rintro e w1 ⟨X, rfl, hst⟩) | (go_at_call 21; refine (works _).mono ?_; rintro e w2 ⟨rfl, hgw⟩))
  rename_i K hK
  have hst2 := hst.gw hgw
  have HK : ∀ (A' B' : Option Addr) (n m cA' cB' : Nat) (a b : List ByteArray) (fr : Act) (W : World), n ≤ 30 → m ≤ 30 → Strs w A' n a → Strs w B' m b → Bools w T nT → St w W X [] [] → fr.defers = [] → fr.tmps.toList.length = 144 →
      fr.tmps.toList[0]? = some (.slice A' n cA') → fr.tmps.toList[1]? = some (.slice B' m cB') → fr.tmps.toList[2]? = some (.slice T nT cT) → fr.tmps.toList[7]? = some (.pointer (some ⟨X, 0, none⟩)) → K fr W := by
    clear hst2 hst hgw ha hb ht hA hB hcA hcB
    rintro A' B' n m cA' cB' a b ⟨⟨v⟩, _⟩ W hn hm ha hb ht hst rfl hv0 e0 e1 e2 e7
    refine frame144 (fun v => K ⟨v.toArray, []⟩ W) _ _ _ _ ?_ v hv0 e0 e1 e2 e7
    clear hv0 e0 e1 e2 e7 v
    intro v3 v4 v5 v6 v8 v9 v10 v11 v12 v13 v14 v15 v16 v17 v18 v19 v20 v21 v22 v23 v24 v25 v26 v27 v28 v29 v30 v31 v32 v33 v34 v35 v36 v37 v38 v39 v40 v41 v42 v43 v44 v45 v46 v47 v48 v49 v50 v51 v52 v53 v54 v55 v56 v57 v58 v59 v60 v61 v62 v63 v64 v65 v66 v67 v68 v69 v70 v71 v72 v73 v74 v75 v76 v77 v78 v79 v80 v81 v82 v83 v84 v85 v86 v87 v88 v89 v90 v91 v92 v93 v94 v95 v96 v97 v98 v99 v100 v101 v102 v103 v104 v105 v106 v107 v108 v109 v110 v111 v112 v113 v114 v115 v116 v117 v118 v119 v120 v121 v122 v123 v124 v125 v126 v127 v128 v129 v130 v131 v132 v133 v134 v135 v136 v137 v138 v139 v140 v141 v142 v143
    refine hK _ _ ?_
    clear hK
    have HA := Lib.hid ha
    have HB := Lib.hid hb
    have HT := Lib.hid ht
    have HST := Lib.hid hst
    clear ha hb ht hst
    have hmx : ∃ M : Nat, M ≤ 30 ∧ n ≤ M ∧ m ≤ M ∧ (M = n ∨ M = m) := ⟨max n m, by omega, by omega, by omega, by omega⟩
    obtain ⟨M, hM, hnM, hmM, hMe⟩ := hmx
    have hmx2 : (if n < m then (m : Int) else (n : Int)) = (M : Int) := by split <;> omega
    go_wp2_with fail
    go_loopw [8] (fun v Wr => ∃ i : Nat, i ≤ M ∧ v = .int .i64 i ∧ Hid (St w Wr X (a.take i) (b.take i))) (fun v _ => M - (intOf v).toNat)
    case atStart => exact ⟨0, by omega, rfl, HST⟩
    case round =>
      obtain ⟨i, hi, rfl, hh⟩ := hrel
      have hst := hh.out
      clear hh
      by_cases hp : i < n <;> by_cases hq : i < m
      · have z1 : (i : Int) < n := by omega
        have z2 : (i : Int) < m := by omega
        obtain ⟨ba, oa, rfl, ka⟩ := HA.out.2.2.2.resolve_left (by intro e; have := HA.out.1; rw [e] at this; simp at this; omega)
        have hia : i < a.length := by have := HA.out.1; omega
        have k1w := ka i hia
        have q1 := cell_gw hst.2 k1w
        have hsa := HA.out.2.2.1 a[i] (List.getElem_mem hia)
        have hta : a.take i ++ [a[i]] = a.take (i + 1) := by rw [List.take_add_one, List.getElem?_eq_getElem hia]; rfl
        have HTA := Lib.hid hta
        generalize a[i] = sa at *
        clear ka hta
        obtain ⟨bb, ob, rfl, kb⟩ := HB.out.2.2.2.resolve_left (by intro e; have := HB.out.1; rw [e] at this; simp at this; omega)
        have hib : i < b.length := by have := HB.out.1; omega
        have k2w := kb i hib
        have q2 := cell_gw hst.2 k2w
        have hsb := HB.out.2.2.1 b[i] (List.getElem_mem hib)
        have htb : b.take i ++ [b[i]] = b.take (i + 1) := by rw [List.take_add_one, List.getElem?_eq_getElem hib]; rfl
        have HTB := Lib.hid htb
        generalize b[i] = sb at *
        clear kb htb
        go_wp2_with (first | (go_at_call 15; (with_reducible refine (st_put0 hst _ ?_ ?_).mono ?_); (· exact hsa); (· simp; omega); rintro e w' ⟨rfl, hn⟩; clear hst; have hst := hn; clear hn; have q2 := cell_gw hst.2 k2w) | (go_at_call 15; (with_reducible refine (st_put1 hst _ ?_ ?_).mono ?_); (· exact hsb); (· simp; omega); rintro e w' ⟨rfl, hn⟩; clear hst; have hst := hn; clear hn))
        go_roundw
        case rel =>
          rw [HTA.out, HTB.out] at hst
          exact ⟨i + 1, by omega, by go_num, Lib.hid hst⟩
        case measure => simp [intOf]; omega
      · have z1 : (i : Int) < n := by omega
        have z2 : ¬ (i : Int) < m := by omega
        obtain ⟨ba, oa, rfl, ka⟩ := HA.out.2.2.2.resolve_left (by intro e; have := HA.out.1; rw [e] at this; simp at this; omega)
        have hia : i < a.length := by have := HA.out.1; omega
        have k1w := ka i hia
        have q1 := cell_gw hst.2 k1w
        have hsa := HA.out.2.2.1 a[i] (List.getElem_mem hia)
        have hta : a.take i ++ [a[i]] = a.take (i + 1) := by rw [List.take_add_one, List.getElem?_eq_getElem hia]; rfl
        have HTA := Lib.hid hta
        generalize a[i] = sa at *
        clear ka hta
        have htb : b.take i = b.take (i + 1) := by have := HB.out.1; rw [List.take_of_length_le (by omega), List.take_of_length_le (by omega)]
        have HTB := Lib.hid htb
        clear htb
        go_wp2_with (first | (go_at_call 15; (with_reducible refine (st_put0 hst _ ?_ ?_).mono ?_); (· exact hsa); (· simp; omega); rintro e w' ⟨rfl, hn⟩; clear hst; have hst := hn; clear hn))
        go_roundw
        case rel =>
          rw [HTA.out, HTB.out] at hst
          exact ⟨i + 1, by omega, by go_num, Lib.hid hst⟩
        case measure => simp [intOf]; omega
      · have z1 : ¬ (i : Int) < n := by omega
        have z2 : (i : Int) < m := by omega
        have hta : a.take i = a.take (i + 1) := by have := HA.out.1; rw [List.take_of_length_le (by omega), List.take_of_length_le (by omega)]
        have HTA := Lib.hid hta
        clear hta
        obtain ⟨bb, ob, rfl, kb⟩ := HB.out.2.2.2.resolve_left (by intro e; have := HB.out.1; rw [e] at this; simp at this; omega)
        have hib : i < b.length := by have := HB.out.1; omega
        have k2w := kb i hib
        have q2 := cell_gw hst.2 k2w
        have hsb := HB.out.2.2.1 b[i] (List.getElem_mem hib)
        have htb : b.take i ++ [b[i]] = b.take (i + 1) := by rw [List.take_add_one, List.getElem?_eq_getElem hib]; rfl
        have HTB := Lib.hid htb
        generalize b[i] = sb at *
        clear kb htb
        go_wp2_with (first | (go_at_call 15; (with_reducible refine (st_put1 hst _ ?_ ?_).mono ?_); (· exact hsb); (· simp; omega); rintro e w' ⟨rfl, hn⟩; clear hst; have hst := hn; clear hn))
        go_roundw
        case rel =>
          rw [HTA.out, HTB.out] at hst
          exact ⟨i + 1, by omega, by go_num, Lib.hid hst⟩
        case measure => simp [intOf]; omega
      · have z1 : ¬ (i : Int) < n := by omega
        have z2 : ¬ (i : Int) < m := by omega
        obtain rfl : i = M := by omega
        have hfa : a.take i = a := List.take_of_length_le (by have := HA.out.1; omega)
        have hfb : b.take i = b := List.take_of_length_le (by have := HB.out.1; omega)
        rw [hfa, hfb] at hst
        have HL0 := Lib.hid (LX.of_st hst)
        clear hst hfa hfb
        go_wp2_with fail
        go_loopw [9, 10, 11] (fun vx vy vi Wr => ∃ (u v c : Nat) (P : Option Addr) (Cp : Nat) (R : Option Addr) (Cr : Nat), u ≤ n ∧ v ≤ m ∧ c = u + v ∧ vx = .slice P u Cp ∧ vy = .slice R v Cr ∧ vi = .int .i64 c ∧ Hid (LX w Wr X (a.drop u) (b.drop v) P Cp (a.take u) R Cr (b.take v))) (fun vx vy vi _ => n + m - (intOf vi).toNat)
        case atStart => exact ⟨0, 0, 0, none, 0, none, 0, by omega, by omega, rfl, rfl, rfl, rfl, HL0⟩
        case round =>
          clear hmx2 hp hq z1 z2
          obtain ⟨u, v, c, P, Cp, R, Cr, hu, hv, hc, rfl, rfl, rfl, hh⟩ := hrel
          have hcb : c ≤ 100 := by omega
          have HC := Lib.hid hc
          clear hc
          have hlx := hh.out
          clear hh
          by_cases h1 : u < n
          · have z1 : (u : Int) < n := by omega
            by_cases h2 : v < m
            · have z2 : (v : Int) < m := by omega
              by_cases h3 : c < nT
              · have z3 : (c : Int) < nT := by omega
                obtain ⟨bt, ot, rfl, kt⟩ := HT.out.2.resolve_left (by omega)
                obtain ⟨tv, ktw⟩ := kt c h3
                have q3 := cell_gw hlx.rows.2.2 ktw
                clear kt ktw
                cases tv
                · have hlen : v < b.length := by have := HB.out.1; omega
                  have hdr : b.drop v = b[v] :: b.drop (v + 1) := List.drop_eq_getElem_cons hlen
                  have hsz := HB.out.2.2.1 b[v] (List.getElem_mem hlen)
                  have htk : b.take v ++ [b[v]] = b.take (v + 1) := by rw [List.take_add_one, List.getElem?_eq_getElem hlen]; rfl
                  have hxl : (b.take v).length = v := by simp; omega
                  have HDR := Lib.hid hdr; have HTK := Lib.hid htk; have HXL := Lib.hid hxl
                  generalize b[v] = sx at *
                  clear hdr htk hxl
                  go_wp2_with (first | (go_at_call 17; (refine (lx_take1 hlx sx (b.drop (v + 1)) ?_ ?_).mono ?_); (· exact HDR.out); (· simp; have := HB.out.1; omega); rintro e w4 ⟨rfl, hn⟩; clear hlx; have hlx := hn; clear hn) | (at_builtin; refine wpList_row rfl (.tmp 122) (.tmp 124) rfl _ v _ rfl ((hlx.gw (gw_alloc1 _ _)).rows.2.1.own' HXL.out) _ 1 [.string sx] rfl (src_one (by (repeat (first | (with_reducible refine cell_new_at ?_; first | with_reducible rfl | (simp; done)) | with_reducible refine cell_alloc_old _ ?_ | with_reducible refine cell_drew ?_ | with_reducible refine cell_gw (by with_reducible assumption) ?_)); done)) (by omega) ?_; rintro v1 w5 ⟨P1, C1, rfl⟩ ho1 hgr1 hat1; have hlx2 := (lx_appn (hlx.gw (gw_alloc1 _ _)).swap HXL.out sx hsz (by omega) ho1 hgr1 hat1).swap; clear hlx; have hlx := hlx2; clear hlx2 ho1 hgr1 hat1))
                  go_roundw
                  case rel =>
                    rw [HTK.out] at hlx
                    exact ⟨u, v + 1, c + 1, P, Cp, P1, C1, by omega, by omega, by have := HC.out; omega, rfl, rfl, by go_num, Lib.hid hlx⟩
                  case measure => simp [intOf]; have := HC.out; omega
                · have hlen : u < a.length := by have := HA.out.1; omega
                  have hdr : a.drop u = a[u] :: a.drop (u + 1) := List.drop_eq_getElem_cons hlen
                  have hsz := HA.out.2.2.1 a[u] (List.getElem_mem hlen)
                  have htk : a.take u ++ [a[u]] = a.take (u + 1) := by rw [List.take_add_one, List.getElem?_eq_getElem hlen]; rfl
                  have hxl : (a.take u).length = u := by simp; omega
                  have HDR := Lib.hid hdr; have HTK := Lib.hid htk; have HXL := Lib.hid hxl
                  generalize a[u] = sx at *
                  clear hdr htk hxl
                  go_wp2_with (first | (go_at_call 17; (refine (lx_take0 hlx sx (a.drop (u + 1)) ?_ ?_).mono ?_); (· exact HDR.out); (· simp; have := HA.out.1; omega); rintro e w4 ⟨rfl, hn⟩; clear hlx; have hlx := hn; clear hn) | (at_builtin; refine wpList_row rfl (.tmp 118) (.tmp 120) rfl _ u _ rfl ((hlx.gw (gw_alloc1 _ _)).rows.1.own' HXL.out) _ 1 [.string sx] rfl (src_one (by (repeat (first | (with_reducible refine cell_new_at ?_; first | with_reducible rfl | (simp; done)) | with_reducible refine cell_alloc_old _ ?_ | with_reducible refine cell_drew ?_ | with_reducible refine cell_gw (by with_reducible assumption) ?_)); done)) (by omega) ?_; rintro v1 w5 ⟨P1, C1, rfl⟩ ho1 hgr1 hat1; have hlx2 := lx_appn (hlx.gw (gw_alloc1 _ _)) HXL.out sx hsz (by omega) ho1 hgr1 hat1; clear hlx; have hlx := hlx2; clear hlx2 ho1 hgr1 hat1))
                  go_roundw
                  case rel =>
                    rw [HTK.out] at hlx
                    exact ⟨u + 1, v, c + 1, P1, C1, R, Cr, by omega, by omega, by have := HC.out; omega, rfl, rfl, by go_num, Lib.hid hlx⟩
                  case measure => simp [intOf]; have := HC.out; omega
              · have z3 : ¬ (c : Int) < nT := by omega
                have hlen : v < b.length := by have := HB.out.1; omega
                have hdr : b.drop v = b[v] :: b.drop (v + 1) := List.drop_eq_getElem_cons hlen
                have hsz := HB.out.2.2.1 b[v] (List.getElem_mem hlen)
                have htk : b.take v ++ [b[v]] = b.take (v + 1) := by rw [List.take_add_one, List.getElem?_eq_getElem hlen]; rfl
                have hxl : (b.take v).length = v := by simp; omega
                have HDR := Lib.hid hdr; have HTK := Lib.hid htk; have HXL := Lib.hid hxl
                generalize b[v] = sx at *
                clear hdr htk hxl
                go_wp2_with (first | (go_at_call 17; (refine (lx_take1 hlx sx (b.drop (v + 1)) ?_ ?_).mono ?_); (· exact HDR.out); (· simp; have := HB.out.1; omega); rintro e w4 ⟨rfl, hn⟩; clear hlx; have hlx := hn; clear hn) | (at_builtin; refine wpList_row rfl (.tmp 122) (.tmp 124) rfl _ v _ rfl ((hlx.gw (gw_alloc1 _ _)).rows.2.1.own' HXL.out) _ 1 [.string sx] rfl (src_one (by (repeat (first | (with_reducible refine cell_new_at ?_; first | with_reducible rfl | (simp; done)) | with_reducible refine cell_alloc_old _ ?_ | with_reducible refine cell_drew ?_ | with_reducible refine cell_gw (by with_reducible assumption) ?_)); done)) (by omega) ?_; rintro v1 w5 ⟨P1, C1, rfl⟩ ho1 hgr1 hat1; have hlx2 := (lx_appn (hlx.gw (gw_alloc1 _ _)).swap HXL.out sx hsz (by omega) ho1 hgr1 hat1).swap; clear hlx; have hlx := hlx2; clear hlx2 ho1 hgr1 hat1))
                go_roundw
                case rel =>
                  rw [HTK.out] at hlx
                  exact ⟨u, v + 1, c + 1, P, Cp, P1, C1, by omega, by omega, by have := HC.out; omega, rfl, rfl, by go_num, Lib.hid hlx⟩
                case measure => simp [intOf]; have := HC.out; omega
            · have z2 : ¬ (v : Int) < m := by omega
              have hlen : u < a.length := by have := HA.out.1; omega
              have hdr : a.drop u = a[u] :: a.drop (u + 1) := List.drop_eq_getElem_cons hlen
              have hsz := HA.out.2.2.1 a[u] (List.getElem_mem hlen)
              have htk : a.take u ++ [a[u]] = a.take (u + 1) := by rw [List.take_add_one, List.getElem?_eq_getElem hlen]; rfl
              have hxl : (a.take u).length = u := by simp; omega
              have HDR := Lib.hid hdr; have HTK := Lib.hid htk; have HXL := Lib.hid hxl
              generalize a[u] = sx at *
              clear hdr htk hxl
              go_wp2_with (first | (go_at_call 17; (refine (lx_take0 hlx sx (a.drop (u + 1)) ?_ ?_).mono ?_); (· exact HDR.out); (· simp; have := HA.out.1; omega); rintro e w4 ⟨rfl, hn⟩; clear hlx; have hlx := hn; clear hn) | (at_builtin; refine wpList_row rfl (.tmp 118) (.tmp 120) rfl _ u _ rfl ((hlx.gw (gw_alloc1 _ _)).rows.1.own' HXL.out) _ 1 [.string sx] rfl (src_one (by (repeat (first | (with_reducible refine cell_new_at ?_; first | with_reducible rfl | (simp; done)) | with_reducible refine cell_alloc_old _ ?_ | with_reducible refine cell_drew ?_ | with_reducible refine cell_gw (by with_reducible assumption) ?_)); done)) (by omega) ?_; rintro v1 w5 ⟨P1, C1, rfl⟩ ho1 hgr1 hat1; have hlx2 := lx_appn (hlx.gw (gw_alloc1 _ _)) HXL.out sx hsz (by omega) ho1 hgr1 hat1; clear hlx; have hlx := hlx2; clear hlx2 ho1 hgr1 hat1))
              go_roundw
              case rel =>
                rw [HTK.out] at hlx
                exact ⟨u + 1, v, c + 1, P1, C1, R, Cr, by omega, by omega, by have := HC.out; omega, rfl, rfl, by go_num, Lib.hid hlx⟩
              case measure => simp [intOf]; have := HC.out; omega
          · have z1 : ¬ (u : Int) < n := by omega
            by_cases h2 : v < m
            · have z2 : (v : Int) < m := by omega
              have hlen : v < b.length := by have := HB.out.1; omega
              have hdr : b.drop v = b[v] :: b.drop (v + 1) := List.drop_eq_getElem_cons hlen
              have hsz := HB.out.2.2.1 b[v] (List.getElem_mem hlen)
              have htk : b.take v ++ [b[v]] = b.take (v + 1) := by rw [List.take_add_one, List.getElem?_eq_getElem hlen]; rfl
              have hxl : (b.take v).length = v := by simp; omega
              have HDR := Lib.hid hdr; have HTK := Lib.hid htk; have HXL := Lib.hid hxl
              generalize b[v] = sx at *
              clear hdr htk hxl
              go_wp2_with (first | (go_at_call 17; (refine (lx_take1 hlx sx (b.drop (v + 1)) ?_ ?_).mono ?_); (· exact HDR.out); (· simp; have := HB.out.1; omega); rintro e w4 ⟨rfl, hn⟩; clear hlx; have hlx := hn; clear hn) | (at_builtin; refine wpList_row rfl (.tmp 122) (.tmp 124) rfl _ v _ rfl ((hlx.gw (gw_alloc1 _ _)).rows.2.1.own' HXL.out) _ 1 [.string sx] rfl (src_one (by (repeat (first | (with_reducible refine cell_new_at ?_; first | with_reducible rfl | (simp; done)) | with_reducible refine cell_alloc_old _ ?_ | with_reducible refine cell_drew ?_ | with_reducible refine cell_gw (by with_reducible assumption) ?_)); done)) (by omega) ?_; rintro v1 w5 ⟨P1, C1, rfl⟩ ho1 hgr1 hat1; have hlx2 := (lx_appn (hlx.gw (gw_alloc1 _ _)).swap HXL.out sx hsz (by omega) ho1 hgr1 hat1).swap; clear hlx; have hlx := hlx2; clear hlx2 ho1 hgr1 hat1))
              go_roundw
              case rel =>
                rw [HTK.out] at hlx
                exact ⟨u, v + 1, c + 1, P, Cp, P1, C1, by omega, by omega, by have := HC.out; omega, rfl, rfl, by go_num, Lib.hid hlx⟩
              case measure => simp [intOf]; have := HC.out; omega
            · have z2 : ¬ (v : Int) < m := by omega
              obtain rfl : u = n := by omega
              obtain rfl : v = m := by omega
              have hta : a.take u = a := List.take_of_length_le (by have := HA.out.1; omega)
              have htb : b.take v = b := List.take_of_length_le (by have := HB.out.1; omega)
              have hda : a.drop u = [] := List.drop_eq_nil_of_le (by have := HA.out.1; omega)
              have hdb : b.drop v = [] := List.drop_eq_nil_of_le (by have := HB.out.1; omega)
              rw [hta, htb, hda, hdb] at hlx
              have hxs : Strs wr P u a := by have := hlx.rows.1.strs; rwa [HA.out.1] at this
              have hys : Strs wr R v b := by have := hlx.rows.2.1.strs; rwa [HB.out.1] at this
              clear hta htb hda hdb
              have HX := Lib.hid hxs
              have HY := Lib.hid hys
              clear hxs hys
              have HG := Lib.hid hlx.rows.2.2
              go_wp2_with (first | (go_at_call 22; (with_reducible refine (same _ _ _ _ _ a _ HX.out (HA.out.gw HG.out)).mono ?_); rintro e w6 ⟨rfl, hg6⟩) | (go_at_call 22; (with_reducible refine (same _ _ _ _ _ b _ (HY.out.gw hg6) (HB.out.gw (gw_trans HG.out hg6))).mono ?_); rintro e w7 ⟨rfl, hg7⟩) | (go_at_call 23; refine (st_len ((hlx.gw hg6).gw hg7).st _ (by omega)).mono ?_; simp only [sel, ite_self, List.length_nil]; rintro e w8 ⟨rfl, rfl⟩))
              go_ret
              exact ⟨rfl, gw_trans HG.out (gw_trans hg6 hg7)⟩
  clear hK
  have HKK := Lib.hid HK
  clear HK
  have hcut : ∀ (A : Option Addr) (n c : Nat) (l : List ByteArray), Strs w A n l → (A = none → n = 0 ∧ c = 0) → n ≤ c → ∃ (n' : Nat), n' ≤ 30 ∧ Strs w A n' (l.take n') ∧ ((30 < (n : Int) ∧ n' = 30) ∨ (¬ 30 < (n : Int) ∧ n' = n)) := by
    intro A n c l hs hA hc
    have key : ∀ k, k ≤ n → Strs w A k (l.take k) := fun k hk => ⟨by simp; have := hs.1; omega, by have := hs.2.1; omega, fun s h => hs.2.2.1 s (List.mem_of_mem_take h), by
      rcases hs.2.2.2 with rfl | ⟨b, off, e, hcell⟩
      · exact .inl (by simp)
      · exact .inr ⟨b, off, e, fun i hi => by
          have hi' : i < l.length := by simp at hi; omega
          rw [hcell i hi', List.getElem_take]⟩⟩
    by_cases h : 30 < (n : Int)
    · exact ⟨30, by omega, key 30 (by omega), .inl ⟨h, rfl⟩⟩
    · exact ⟨n, by omega, key n (by omega), .inr ⟨h, rfl⟩⟩
  obtain ⟨n, hn, hsa, hca⟩ := hcut A nA cA la ha hA hcA
  obtain ⟨m, hm, hsb, hcb⟩ := hcut B nB cB lb hb hB hcB
  have HSA := Lib.hid hsa
  have HSB := Lib.hid hsb
  have HT := Lib.hid ht
  have HS2 := Lib.hid hst2
  have HN := Lib.hid hn
  have HM := Lib.hid hm
  clear hcut hsa hsb ht hst2 hst hgw ha hb hn hm
  have fin : ∀ (fr : Act) (q : Nat) (cA' cB' : Nat), fr.defers = [] → fr.tmps.toList.length = 144 →
      fr.tmps.toList[0]? = some (.slice A n cA') → fr.tmps.toList[1]? = some (.slice B m cB') → fr.tmps.toList[2]? = some (.slice T nT cT) → fr.tmps.toList[7]? = some (.pointer (some ⟨X, 0, none⟩)) → K fr (w2.drewN q) :=
    fun fr q cA' cB' h1 h2 h3 h4 h5 h6 => HKK.out A B n m cA' cB' _ _ fr _ HN.out HM.out HSA.out HSB.out HT.out (HS2.out.gw (gw_drewN (Fr.refl _ _) q)) h1 h2 h3 h4 h5 h6
  have HF := Lib.hid fin
  clear fin HKK HSA HSB HT HS2 HN HM
  have HcA := Lib.hid hcA
  have HcB := Lib.hid hcB
  clear hcA hcB
  have fin : ∀ (q : Nat) (cA' cB' : Nat) (v : List Value), v.length = 144 →
      v[0]? = some (.slice A n cA') → v[1]? = some (.slice B m cB') → v[2]? = some (.slice T nT cT) → v[7]? = some (.pointer (some ⟨X, 0, none⟩)) → K ⟨v.toArray, []⟩ (w2.drewN q) := fun q cA' cB' v h1 h2 h3 h4 h5 => HF.out ⟨v.toArray, []⟩ q cA' cB' rfl h1 h2 h3 h4 h5
  have HF2 := Lib.hid fin
  clear fin HF
  rcases A with _ | ⟨bA, oA, pA⟩
  · obtain ⟨rfl, rfl⟩ := hA rfl
    obtain rfl : n = 0 := by omega
    clear hA hca HcA
    rcases B with _ | ⟨bB, oB, pB⟩
    · obtain ⟨rfl, rfl⟩ := hB rfl
      obtain rfl : m = 0 := by omega
      clear hB hcb HcB
      go_quiet (fail)
      exact HF2.out _ _ _ _ rfl rfl rfl rfl rfl
    · rcases hcb with ⟨h2, e2⟩ | ⟨h2, e2⟩
      all_goals
        subst m
        have := HcB.out
        have g2 : 30 < (nB : Int) → ¬ ((cB : Int) < 30) := by omega
        have g3 : ¬ ((cB : Int) < nB) := by omega
        clear hB HcB
        go_quiet (fail)
        exact HF2.out _ _ _ _ rfl rfl rfl rfl rfl
  · rcases B with _ | ⟨bB, oB, pB⟩
    · obtain ⟨rfl, rfl⟩ := hB rfl
      obtain rfl : m = 0 := by omega
      clear hB hcb HcB
      rcases hca with ⟨h1, e1⟩ | ⟨h1, e1⟩
      all_goals
        subst n
        have := HcA.out
        have g1 : 30 < (nA : Int) → ¬ ((cA : Int) < 30) := by omega
        have g3 : ¬ ((cA : Int) < nA) := by omega
        clear hA HcA
        go_quiet (fail)
        exact HF2.out _ _ _ _ rfl rfl rfl rfl rfl
    · rcases hca with ⟨h1, e1⟩ | ⟨h1, e1⟩ <;> rcases hcb with ⟨h2, e2⟩ | ⟨h2, e2⟩
      all_goals
        subst n
        subst m
        have := HcA.out
        have := HcB.out
        have g1 : 30 < (nA : Int) → ¬ ((cA : Int) < 30) := by omega
        have g2 : 30 < (nB : Int) → ¬ ((cB : Int) < 30) := by omega
        have g3 : ¬ ((cA : Int) < nA) := by omega
        have g4 : ¬ ((cB : Int) < nB) := by omega
        clear hA hB HcA HcB
        go_quiet (fail)
        exact HF2.out _ _ _ _ rfl rfl rfl rfl rfl
end Go.Proofs.Ytdaodpojcjbggaa.Ln
