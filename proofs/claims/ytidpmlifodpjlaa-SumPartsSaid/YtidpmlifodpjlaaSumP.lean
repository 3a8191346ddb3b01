/- The walk of SumParts (printed by sumparts.py). -/
import Derived.Test.YtidpmlifodpjlaaSumV
import Derived.Deep.DeepCutAuto
namespace Go.Proofs.Ytidpmlifodpjlaa.Sm
open Go.RowKit
set_option linter.unusedVariables false
attribute [local go_sem] Gw.refl gw_drew_iff Gw.alloc gw_alloc1 gw_alloc2 gw_alloc2d gw_alloc1d

theorem cuts (a : ByteArray) (i : Nat) (h : i ≤ a.size) : (a.extract 0 i).data.toList ++ (a.extract i a.size).data.toList = a.data.toList := by
  have e1 : (a.extract 0 i).data.toList = a.data.toList.take i := by simp [ByteArray.data_extract]
  have e2 : (a.extract i a.size).data.toList = a.data.toList.drop i := by
    simp [ByteArray.data_extract]
    have : a.data.size = a.size := rfl
    rw [← this, List.take_of_length_le (by simp)]
  rw [e1, e2, List.take_append_drop]

theorem sums4 (a b : ByteArray) (h : a.size % 2 = 0) (ha : a.size ≤ 300) (hb : b.size ≤ 300) : ∃ x y z u : Int, Sm (bytesOf [a]) = x ∧ Sm (bytesOf [b]) = y ∧ Sm (bytesOf [a, b]) = z ∧ Sm (bytesOf [b, a]) = u ∧ 0 ≤ x ∧ x ≤ 65535 ∧ 0 ≤ y ∧ y ≤ 65535 ∧ Fo (x + y) = z ∧ (b.size % 2 = 0 → u = z) := by
  have la : a.data.toList.length = a.size := Array.length_toList
  have lb : b.data.toList.length = b.size := Array.length_toList
  have e1 : bytesOf [a] = a.data.toList := by simp [bytesOf]
  have e2 : bytesOf [b] = b.data.toList := by simp [bytesOf]
  have e3 : bytesOf [a, b] = a.data.toList ++ b.data.toList := by simp [bytesOf]
  have e4 : bytesOf [b, a] = b.data.toList ++ a.data.toList := by simp [bytesOf]
  refine ⟨_, _, _, _, rfl, rfl, rfl, rfl, (Sm_range _).1, (Sm_range _).2, (Sm_range _).1, (Sm_range _).2, ?_, fun hb2 => ?_⟩
  · rw [e1, e2, e3]; exact sm_add _ _ (by omega) (by omega) (by omega)
  · rw [e3, e4]; exact sm_swap _ _ (by omega) (by omega)

theorem wrap64 (x : Int) (h : 0 ≤ x) (h2 : x < 1000000) : IntKind.i64.wrap x = x := by unfold IntKind.wrap; rw [show (2 : Int) ^ IntKind.i64.bits = 18446744073709551616 from rfl, show (2 : Int) ^ (IntKind.i64.bits - 1) = 9223372036854775808 from rfl]; simp [IntKind.signed] <;> omega

set_option maxRecDepth 100000 in
set_option maxHeartbeats 16000000 in
theorem sumParts (ta tb : ByteArray) (p0 p1 p2 : Int) (h0 : 0 ≤ p0 ∧ p0 < 256) (h1 : 0 ≤ p1 ∧ p1 < 256) (h2 : 0 ≤ p2 ∧ p2 < 256) (hsa : ta.size ≤ 9223372036854775807) (hsb : tb.size ≤ 9223372036854775807) (w : World) :
    Calls Try.prog 6 #[.string ta, .string tb, .agg #[.int .u8 p0, .int .u8 p1, .int .u8 p2]] w fun e w' => e = .returned (.bool true) ∧ Gw w w' := by
  have hmix : Try.prog.follows .mixedOrders = true := by kernel_rfl
  have hcut : ∀ t : ByteArray, ∃ u : ByteArray, u.size ≤ 200 ∧ ((200 < (t.size : Int) ∧ t.extract 0 200 = u) ∨ (¬ 200 < (t.size : Int) ∧ t = u)) := by
    intro t
    by_cases h : 200 < (t.size : Int)
    · exact ⟨_, by rw [ByteArray.size_extract]; omega, .inl ⟨h, rfl⟩⟩
    · exact ⟨_, by omega, .inr ⟨h, rfl⟩⟩
  have c0 : (w.alloc (.cells #[.int .u8 p0, .int .u8 p1, .int .u8 p2] 40)).cell? ⟨w.heap.size, 0, none⟩ = some (.int .u8 p0) := by rw [World.cell?_alloc_new]; rfl
  have c1 : (w.alloc (.cells #[.int .u8 p0, .int .u8 p1, .int .u8 p2] 40)).cell? ⟨w.heap.size, 1, none⟩ = some (.int .u8 p1) := by rw [World.cell?_alloc_new]; rfl
  have c2 : (w.alloc (.cells #[.int .u8 p0, .int .u8 p1, .int .u8 p2] 40)).cell? ⟨w.heap.size, 2, none⟩ = some (.int .u8 p2) := by rw [World.cell?_alloc_new]; rfl
  go_enter Try.func6, Try.ntmps6
  go_wp2_with (go_at_call 18; refine (works _).mono ?_; rintro e w1 ⟨rfl, hg1⟩)
  rename_i K hK
  have c0 := cell_gw hg1 c0
  have c1 := cell_gw hg1 c1
  have c2 := cell_gw hg1 c2
  have G1 : Hid (Gw w w1) := Lib.hid (Gw.trans (gw_alloc1 _ _) hg1)
  generalize w.heap.size = bx at *
  clear hg1
  -- STAGE 1: behind the cuts
  have HK : ∀ (a b : ByteArray) (fr : Act) (W : World), a.size ≤ 200 → b.size ≤ 200 → Gw w1 W → fr.defers = [] → fr.tmps.toList.length = 191 → fr.tmps.toList[0]? = some (.string a) → fr.tmps.toList[1]? = some (.string b) → fr.tmps.toList[5]? = some (.pointer (some ⟨bx, 0, none⟩)) → K fr W := by as_aux_lemma =>
    rintro a b ⟨⟨v⟩, _⟩ W ha hb hgW rfl hv0 e0 e1 e5
    refine frame191a (fun v => K ⟨v.toArray, []⟩ W) _ _ _ ?_ v hv0 e0 e1 e5
    clear hv0 e0 e1 e5 v
    intro v2 v3 v4 v6 v7 v8 v9 v10 v11 v12 v13 v14 v15 v16 v17 v18 v19 v20 v21 v22 v23 v24 v25 v26 v27 v28 v29 v30 v31 v32 v33 v34 v35 v36 v37 v38 v39 v40 v41 v42 v43 v44 v45 v46 v47 v48 v49 v50 v51 v52 v53 v54 v55 v56 v57 v58 v59 v60 v61 v62 v63 v64 v65 v66 v67 v68 v69 v70 v71 v72 v73 v74 v75 v76 v77 v78 v79 v80 v81 v82 v83 v84 v85 v86 v87 v88 v89 v90 v91 v92 v93 v94 v95 v96 v97 v98 v99 v100 v101 v102 v103 v104 v105 v106 v107 v108 v109 v110 v111 v112 v113 v114 v115 v116 v117 v118 v119 v120 v121 v122 v123 v124 v125 v126 v127 v128 v129 v130 v131 v132 v133 v134 v135 v136 v137 v138 v139 v140 v141 v142 v143 v144 v145 v146 v147 v148 v149 v150 v151 v152 v153 v154 v155 v156 v157 v158 v159 v160 v161 v162 v163 v164 v165 v166 v167 v168 v169 v170 v171 v172 v173 v174 v175 v176 v177 v178 v179 v180 v181 v182 v183 v184 v185 v186 v187 v188 v189 v190
    refine hK _ _ ?_
    clear hK
    have c0 := cell_gw hgW c0
    have c1 := cell_gw hgW c1
    have c2 := cell_gw hgW c2
    have G2 : Hid (Gw w W) := Lib.hid (Gw.trans G1.out hgW)
    clear hgW G1
    have i0 := Int.emod_nonneg p0 (b := (a.size : Int) + 1) (by omega)
    have i1 := Int.emod_lt_of_pos p0 (b := (a.size : Int) + 1) (by omega)
    obtain ⟨i, hi⟩ : ∃ i : Nat, p0 % ((a.size : Int) + 1) = i := ⟨(p0 % ((a.size : Int) + 1)).toNat, by omega⟩
    have k0 := Int.emod_nonneg p1 (b := (b.size : Int) + 1) (by omega)
    have k1 := Int.emod_lt_of_pos p1 (b := (b.size : Int) + 1) (by omega)
    obtain ⟨k, hk⟩ : ∃ k : Nat, p1 % ((b.size : Int) + 1) = k := ⟨(p1 % ((b.size : Int) + 1)).toNat, by omega⟩
    rw [hi] at i0 i1; rw [hk] at k0 k1
    go_wp2_with fail
    go_quiet (fail)
    have c0 : (W.drewN nq).cell? ⟨bx, 0, none⟩ = some (.int .u8 p0) := c0
    have c1 : (W.drewN nq).cell? ⟨bx, 1, none⟩ = some (.int .u8 p1) := c1
    have c2 : (W.drewN nq).cell? ⟨bx, 2, none⟩ = some (.int .u8 p2) := c2
    have G3 : Hid (Gw w (W.drewN nq)) := Lib.hid (G2.out.drewN nq)
    generalize W.drewN nq = W1 at *
    go_wp2_with fail
    -- STAGE 2
    have il : i ≤ a.size := by omega
    have kl : k ≤ b.size := by omega
    obtain ⟨A, hA⟩ : ∃ A, Sm (a.data.toList ++ b.data.toList) = A := ⟨_, rfl⟩
    have HA := Lib.hid hA
    have hz : ∀ s : ByteArray, s.size ≤ 500 → s.size ≤ 1000 := fun s h => by omega
    have hsz1 : ∀ s ∈ [a ++ b], s.size ≤ 1000 := by intro s hs; simp at hs; subst hs; rw [ByteArray.size_append]; omega
    have hsz1b : ∀ s ∈ [a ++ b ++ ⟨#[0]⟩], s.size ≤ 1000 := by
      intro s hs; simp only [List.mem_singleton] at hs; subst hs; rw [ByteArray.size_append, ByteArray.size_append]; show a.size + b.size + 1 ≤ 1000; omega
    have hsz2 : ∀ s ∈ [a, b], s.size ≤ 1000 := by intro s hs; simp at hs; rcases hs with rfl | rfl <;> omega
    have hsz3 : ∀ s ∈ [a, b, ⟨#[0, 0]⟩], s.size ≤ 1000 := by
      intro s hs; simp only [List.mem_cons, List.not_mem_nil, or_false] at hs; rcases hs with rfl | rfl | rfl
      · omega
      · omega
      · show 2 ≤ 1000; omega
    have hsz5 : ∀ s ∈ [a.extract 0 i, a.extract i a.size, ⟨#[]⟩, b.extract 0 k, b.extract k b.size], s.size ≤ 1000 := by
      intro s hs; simp only [List.mem_cons, List.not_mem_nil, or_false] at hs
      rcases hs with rfl | rfl | rfl | rfl | rfl
      · rw [ByteArray.size_extract]; omega
      · rw [ByteArray.size_extract]; omega
      · show 0 ≤ 1000; omega
      · rw [ByteArray.size_extract]; omega
      · rw [ByteArray.size_extract]; omega
    have hA1 : Sm (bytesOf [a ++ b]) = A := by simp [bytesOf, hA]
    have hA2 : Sm (bytesOf [a, b]) = A := by simp [bytesOf, hA]
    have hA3 : Sm (bytesOf [a, b, ⟨#[0, 0]⟩]) = A := by
      have : bytesOf [a, b, ⟨#[0, 0]⟩] = (a.data.toList ++ b.data.toList) ++ [0, 0] := by simp [bytesOf]
      rw [this, sm_zeros, hA]
    have hA4 : Sm (bytesOf [a ++ b ++ ⟨#[0]⟩]) = A := by
      have : bytesOf [a ++ b ++ ⟨#[0]⟩] = (a.data.toList ++ b.data.toList) ++ [0] := by simp [bytesOf]
      rw [this, sm_zero, hA]
    have hA5 : Sm (bytesOf [a.extract 0 i, a.extract i a.size, ⟨#[]⟩, b.extract 0 k, b.extract k b.size]) = A := by
      have : bytesOf [a.extract 0 i, a.extract i a.size, ⟨#[]⟩, b.extract 0 k, b.extract k b.size] = ((a.extract 0 i).data.toList ++ (a.extract i a.size).data.toList) ++ ((b.extract 0 k).data.toList ++ (b.extract k b.size).data.toList) := by simp [bytesOf]
      rw [this, cuts a i il, cuts b k kl, hA]
    have ilt : ¬ (a.size : Int) < i := by omega
    have klt : ¬ (b.size : Int) < k := by omega
    clear hA
    have HA1 := Lib.hid hA1; have HA2 := Lib.hid hA2; have HA3 := Lib.hid hA3; have HA4 := Lib.hid hA4; have HA5 := Lib.hid hA5
    clear hA1 hA2 hA3 hA4 hA5
    have HS1 := Lib.hid hsz1; have HS1b := Lib.hid hsz1b; have HS2 := Lib.hid hsz2; have HS3 := Lib.hid hsz3; have HS5 := Lib.hid hsz5
    clear hsz1 hsz1b hsz2 hsz3 hsz5 hz
    refine (of_blk _ _ 1 [a ++ b] _ rfl ?_ HS1.out (by omega) _ HA1.out).mono ?_
    · (repeat (first | (with_reducible refine Blk.newAt _ rfl ?_; first | with_reducible rfl | (simp; done)) | with_reducible refine Blk.alloc _ ?_ | with_reducible refine Blk.drew ?_ | with_reducible refine Blk.gw (by with_reducible assumption) ?_))
    rintro e w2 ⟨rfl, hb⟩
    have hb := Gw.trans (gw_alloc1 _ _) hb
    have c0 := cell_gw hb c0
    have c1 := cell_gw hb c1
    have c2 := cell_gw hb c2
    have G4 : Hid (Gw w w2) := Lib.hid (Gw.trans G3.out hb)
    clear hb
    go_wp2_with fail
    rename_i K2 hK2
    have HK2 : True := trivial
    have HK2 : ∀ (fr : Act) (W : World), Gw w2 W → fr.defers = [] → fr.tmps.toList.length = 191 → fr.tmps.toList[0]? = some (.string a) → fr.tmps.toList[1]? = some (.string b) → fr.tmps.toList[5]? = some (.pointer (some ⟨bx, 0, none⟩)) → fr.tmps.toList[85]? = some (.bool false) → K2 fr W := by as_aux_lemma =>
      rintro ⟨⟨v⟩, _⟩ W hgW rfl hv0 e0 e1 e5 e85
      refine frame191b (fun v => K2 ⟨v.toArray, []⟩ W) _ _ _ _ ?_ v hv0 e0 e1 e5 e85
      clear hv0 e0 e1 e5 e85 v
      intro v2 v3 v4 v6 v7 v8 v9 v10 v11 v12 v13 v14 v15 v16 v17 v18 v19 v20 v21 v22 v23 v24 v25 v26 v27 v28 v29 v30 v31 v32 v33 v34 v35 v36 v37 v38 v39 v40 v41 v42 v43 v44 v45 v46 v47 v48 v49 v50 v51 v52 v53 v54 v55 v56 v57 v58 v59 v60 v61 v62 v63 v64 v65 v66 v67 v68 v69 v70 v71 v72 v73 v74 v75 v76 v77 v78 v79 v80 v81 v82 v83 v84 v86 v87 v88 v89 v90 v91 v92 v93 v94 v95 v96 v97 v98 v99 v100 v101 v102 v103 v104 v105 v106 v107 v108 v109 v110 v111 v112 v113 v114 v115 v116 v117 v118 v119 v120 v121 v122 v123 v124 v125 v126 v127 v128 v129 v130 v131 v132 v133 v134 v135 v136 v137 v138 v139 v140 v141 v142 v143 v144 v145 v146 v147 v148 v149 v150 v151 v152 v153 v154 v155 v156 v157 v158 v159 v160 v161 v162 v163 v164 v165 v166 v167 v168 v169 v170 v171 v172 v173 v174 v175 v176 v177 v178 v179 v180 v181 v182 v183 v184 v185 v186 v187 v188 v189 v190
      refine hK2 _ _ ?_
      clear hK2
      have c1 := cell_gw hgW c1
      have c2 := cell_gw hgW c2
      have G5 : Hid (Gw w W) := Lib.hid (Gw.trans G4.out hgW)
      clear hgW G4 HS1 HS1b HS2 HS3 HS5 HA1 HA2 HA3 HA4 HA5 HA hi hk i0 i1 k0 k1 hcut hsa hsb
      have hpar : (a.size : Int) % 2 = 0 ∨ (a.size : Int) % 2 = 1 := by omega
      go_upto_region 8 with fail
      rename_i K7 hK7 K8 hK8
      have HK7 : ∀ (a' : ByteArray) (fr : Act) (W : World), a'.size % 2 = 0 → a'.size ≤ 300 → Gw w W → W.cell? ⟨bx, 1, none⟩ = some (.int .u8 p1) → W.cell? ⟨bx, 2, none⟩ = some (.int .u8 p2) → fr.defers = [] → fr.tmps.toList.length = 191 → fr.tmps.toList[0]? = some (.string a') → fr.tmps.toList[1]? = some (.string b) → fr.tmps.toList[5]? = some (.pointer (some ⟨bx, 0, none⟩)) → K7 fr W := by as_aux_lemma =>
        clear hK8 c1 c2 G5 hpar ha il
        rintro a' ⟨⟨v⟩, _⟩ W hev hle hgW c1 c2 rfl hv0 e0 e1 e5
        refine frame191a (fun v => K7 ⟨v.toArray, []⟩ W) _ _ _ ?_ v hv0 e0 e1 e5
        clear hv0 e0 e1 e5 v
        intro v2 v3 v4 v6 v7 v8 v9 v10 v11 v12 v13 v14 v15 v16 v17 v18 v19 v20 v21 v22 v23 v24 v25 v26 v27 v28 v29 v30 v31 v32 v33 v34 v35 v36 v37 v38 v39 v40 v41 v42 v43 v44 v45 v46 v47 v48 v49 v50 v51 v52 v53 v54 v55 v56 v57 v58 v59 v60 v61 v62 v63 v64 v65 v66 v67 v68 v69 v70 v71 v72 v73 v74 v75 v76 v77 v78 v79 v80 v81 v82 v83 v84 v85 v86 v87 v88 v89 v90 v91 v92 v93 v94 v95 v96 v97 v98 v99 v100 v101 v102 v103 v104 v105 v106 v107 v108 v109 v110 v111 v112 v113 v114 v115 v116 v117 v118 v119 v120 v121 v122 v123 v124 v125 v126 v127 v128 v129 v130 v131 v132 v133 v134 v135 v136 v137 v138 v139 v140 v141 v142 v143 v144 v145 v146 v147 v148 v149 v150 v151 v152 v153 v154 v155 v156 v157 v158 v159 v160 v161 v162 v163 v164 v165 v166 v167 v168 v169 v170 v171 v172 v173 v174 v175 v176 v177 v178 v179 v180 v181 v182 v183 v184 v185 v186 v187 v188 v189 v190
        refine hK7 _ _ ?_
        clear hK7
        have G5 := Lib.hid hgW
        clear hgW
        go_wp2_with fail
        rename_i K4 hK4 K5 hK5 K6 hK6
        have HK4 : ∀ (fr : Act) (W : World), Gw w W → W.cell? ⟨bx, 1, none⟩ = some (.int .u8 p1) → W.cell? ⟨bx, 2, none⟩ = some (.int .u8 p2) → fr.defers = [] → fr.tmps.toList.length = 191 → fr.tmps.toList[0]? = some (.string a') → fr.tmps.toList[1]? = some (.string b) → fr.tmps.toList[5]? = some (.pointer (some ⟨bx, 0, none⟩)) → K4 fr W := by as_aux_lemma =>
          clear hK5 hK6 c1 c2 G5
          rintro ⟨⟨v⟩, _⟩ W hgW c1 c2 rfl hv0 e0 e1 e5
          refine frame191a (fun v => K4 ⟨v.toArray, []⟩ W) _ _ _ ?_ v hv0 e0 e1 e5
          clear hv0 e0 e1 e5 v
          intro v2 v3 v4 v6 v7 v8 v9 v10 v11 v12 v13 v14 v15 v16 v17 v18 v19 v20 v21 v22 v23 v24 v25 v26 v27 v28 v29 v30 v31 v32 v33 v34 v35 v36 v37 v38 v39 v40 v41 v42 v43 v44 v45 v46 v47 v48 v49 v50 v51 v52 v53 v54 v55 v56 v57 v58 v59 v60 v61 v62 v63 v64 v65 v66 v67 v68 v69 v70 v71 v72 v73 v74 v75 v76 v77 v78 v79 v80 v81 v82 v83 v84 v85 v86 v87 v88 v89 v90 v91 v92 v93 v94 v95 v96 v97 v98 v99 v100 v101 v102 v103 v104 v105 v106 v107 v108 v109 v110 v111 v112 v113 v114 v115 v116 v117 v118 v119 v120 v121 v122 v123 v124 v125 v126 v127 v128 v129 v130 v131 v132 v133 v134 v135 v136 v137 v138 v139 v140 v141 v142 v143 v144 v145 v146 v147 v148 v149 v150 v151 v152 v153 v154 v155 v156 v157 v158 v159 v160 v161 v162 v163 v164 v165 v166 v167 v168 v169 v170 v171 v172 v173 v174 v175 v176 v177 v178 v179 v180 v181 v182 v183 v184 v185 v186 v187 v188 v189 v190
          refine hK4 _ _ ?_
          clear hK4
          have G5 := Lib.hid hgW
          clear hgW
          by_cases h4 : (a'.size : Int) < 4
          · go_wp2_with fail
            go_ret
            exact ⟨rfl, G5.out⟩
          have h4 : 4 ≤ a'.size := by omega
          obtain ⟨m, hm⟩ : ∃ m : Nat, a'.size = 2 * m := ⟨a'.size / 2, by omega⟩
          have hd1 : (a'.size : Int) / 2 = m := by omega
          have hd2 : Int.tdiv (a'.size : Int) 2 = m := by rw [Int.tdiv_eq_ediv_of_nonneg (by omega)]; exact hd1
          have i0 := Int.emod_nonneg p1 (b := (m : Int)) (by omega)
          have i1 := Int.emod_lt_of_pos p1 (b := (m : Int)) (by omega)
          obtain ⟨px, hpx⟩ : ∃ k : Nat, p1 % (m : Int) = k := ⟨(p1 % (m : Int)).toNat, by omega⟩
          have k0 := Int.emod_nonneg p2 (b := (m : Int)) (by omega)
          have k1 := Int.emod_lt_of_pos p2 (b := (m : Int)) (by omega)
          obtain ⟨py, hpy⟩ : ∃ k : Nat, p2 % (m : Int) = k := ⟨(p2 % (m : Int)).toNat, by omega⟩
          rw [hpx] at i0 i1; rw [hpy] at k0 k1
          go_wp2_with fail
          rw [run_bytes_of_string W 9 38 5 a' Try.underlying9 Try.underlying38 Try.underlying5]
          have hbuf := buf_new W a' (grownCap W a'.size 0 5)
          have hgc : Gw W (W.drew.alloc (.cells (bytesRow a' (grownCap W a'.size 0 5)) 5 ((bytesRow a' (grownCap W a'.size 0 5)).size, (bytesRow a' (grownCap W a'.size 0 5)).size + 1))) := ((Gw.refl W).drew).alloc _
          have c1 := cell_gw hgc c1
          have c2 := cell_gw hgc c2
          have hB0 := G5.out.size
          have G6 := Lib.hid (Gw.trans G5.out hgc)
          obtain ⟨B, hB⟩ : ∃ B, W.heap.size = B := ⟨_, rfl⟩
          rw [hB] at hbuf hB0 ⊢
          generalize W.drew.alloc (.cells (bytesRow a' (grownCap W a'.size 0 5)) 5 ((bytesRow a' (grownCap W a'.size 0 5)).size, (bytesRow a' (grownCap W a'.size 0 5)).size + 1)) = W2 at *
          generalize grownCap W a'.size 0 5 = cp
          have HBUF := Lib.hid hbuf
          clear hbuf hgc G5
          go_wp2_with fail
          go_quiet (fail)
          have hbuf : Buf (W2.drewN nq) B a'.data.toList := HBUF.out
          have G7 : Hid (Gw w (W2.drewN nq)) := Lib.hid (G6.out.drewN nq)
          generalize W2.drewN nq = W3 at *
          clear HBUF c1 c2 G6
          go_wp2_with fail
          have hlen : a'.data.toList.length = a'.size := Array.length_toList
          have hxl : 2 * px + 1 < a'.data.toList.length := by omega
          have hyl : 2 * py + 1 < a'.data.toList.length := by omega
          have e0 := hbuf.2 (2 * px) (by omega)
          have e1 := hbuf.2 (2 * px + 1) (by omega)
          have e2 := hbuf.2 (2 * py) (by omega)
          have e3 := hbuf.2 (2 * py + 1) (by omega)
          have hwx : wordAt a'.data.toList px = ((a'.data.toList[2 * px].toNat : Int)) * 256 + ((a'.data.toList[2 * px + 1].toNat : Int)) := by
            unfold wordAt
            rw [List.getD_eq_getElem?_getD, List.getElem?_eq_getElem (by omega), List.getD_eq_getElem?_getD, List.getElem?_eq_getElem (by omega)]; rfl
          have hwy : wordAt a'.data.toList py = ((a'.data.toList[2 * py].toNat : Int)) * 256 + ((a'.data.toList[2 * py + 1].toNat : Int)) := by
            unfold wordAt
            rw [List.getD_eq_getElem?_getD, List.getElem?_eq_getElem (by omega), List.getD_eq_getElem?_getD, List.getElem?_eq_getElem (by omega)]; rfl
          obtain ⟨ca, hca⟩ : ∃ c, a'.data.toList[2 * px] = c := ⟨_, rfl⟩
          obtain ⟨cb, hcb⟩ : ∃ c, a'.data.toList[2 * px + 1] = c := ⟨_, rfl⟩
          obtain ⟨cc, hcc⟩ : ∃ c, a'.data.toList[2 * py] = c := ⟨_, rfl⟩
          obtain ⟨cd, hcd⟩ : ∃ c, a'.data.toList[2 * py + 1] = c := ⟨_, rfl⟩
          rw [hca] at e0 hwx; rw [hcb] at e1 hwx; rw [hcc] at e2 hwy; rw [hcd] at e3 hwy
          have HSW := Lib.hid (sm_words a'.data.toList px py hxl hyl cc cd ca cb hwx hwy)
          clear hwx hwy hca hcb hcc hcd
          obtain ⟨e0, f0⟩ := e0; obtain ⟨e1, f1⟩ := e1; obtain ⟨e2, f2⟩ := e2; obtain ⟨e3, f3⟩ := e3
          have b0 : (2 * (px : Int)) < a'.size := by omega
          have b1 : (2 * (px : Int) + 1) < a'.size := by omega
          have b2 : (2 * (py : Int)) < a'.size := by omega
          have b3 : (2 * (py : Int) + 1) < a'.size := by omega
          have v0 : IntKind.i64.wrap (2 * (px : Int)) = 2 * (px : Int) := wrap64 _ (by omega) (by omega)
          have v1 : IntKind.i64.wrap (2 * (px : Int) + 1) = 2 * (px : Int) + 1 := wrap64 _ (by omega) (by omega)
          have v2 : IntKind.i64.wrap (2 * (py : Int)) = 2 * (py : Int) := wrap64 _ (by omega) (by omega)
          have v3 : IntKind.i64.wrap (2 * (py : Int) + 1) = 2 * (py : Int) + 1 := wrap64 _ (by omega) (by omega)
          have hBf := Lib.hid hbuf
          clear hbuf
          have zz0 : (0 : Int) ≤ 2 * (px : Int) := by omega
          have zz1 : (0 : Int) ≤ 2 * (px : Int) + 1 := by omega
          have zz2 : (0 : Int) ≤ 2 * (py : Int) := by omega
          have zz3 : (0 : Int) ≤ 2 * (py : Int) + 1 := by omega
          have bb1 : 2 * (px : Int) + 1 < 2 * (m : Int) := by omega
          have bb3 : 2 * (py : Int) + 1 < 2 * (m : Int) := by omega
          have tt0 : (2 * (px : Int)).toNat = 2 * px := by omega
          have tt1 : (2 * (px : Int) + 1).toNat = 2 * px + 1 := by omega
          have tt2 : (2 * (py : Int)).toNat = 2 * py := by omega
          have tt3 : (2 * (py : Int) + 1).toNat = 2 * py + 1 := by omega
          refine wp_region_any (by kernel_rfl) ?_
          show wpAny Try.prog _ _ _ _ _ _ (World.drew W3)
          obtain ⟨W4, hW4⟩ : ∃ W4, W3.drew = W4 := ⟨_, rfl⟩
          rw [hW4]
          have e0 : W4.cell? ⟨B, 2 * px, none⟩ = some (.int .u8 (ca.toNat : Int)) := by rw [← hW4]; exact e0
          have e1 : W4.cell? ⟨B, 2 * px + 1, none⟩ = some (.int .u8 (cb.toNat : Int)) := by rw [← hW4]; exact e1
          have e2 : W4.cell? ⟨B, 2 * py, none⟩ = some (.int .u8 (cc.toNat : Int)) := by rw [← hW4]; exact e2
          have e3 : W4.cell? ⟨B, 2 * py + 1, none⟩ = some (.int .u8 (cd.toNat : Int)) := by rw [← hW4]; exact e3
          have HB4 : Hid (Buf W4 B a'.data.toList) := Lib.hid (by rw [← hW4]; exact hBf.out)
          have G8 : Hid (Gw w W4) := Lib.hid (by rw [← hW4]; exact G7.out.drew)
          clear hW4 hBf f0 f1 f2 f3
          refine take_free (i := 0) (v := ?v1_0) (some 143) rfl rfl (by kernel_rfl) (by kernel_rfl) (by kernel_rfl) (fun _ _ _ h => h) (by rfl) (fun w => ?h1_0) ?_
          case h1_0 => go_simp; try with_reducible rfl
          simp only [Act.put, List.setIfInBounds_toArray, List.set_cons_zero, List.set_cons_succ]
          refine take_free (i := 1) (v := ?v1_1) (some 144) rfl rfl (by kernel_rfl) (by kernel_rfl) (by kernel_rfl) (fun _ _ _ h => h) (by rfl) (fun w => ?h1_1) ?_
          case h1_1 => go_simp; try with_reducible rfl
          simp only [Act.put, List.setIfInBounds_toArray, List.set_cons_zero, List.set_cons_succ]
          refine take_free (i := 2) (v := ?v1_2) (some 145) rfl rfl (by kernel_rfl) (by kernel_rfl) (by kernel_rfl) (fun _ _ _ h => h) (by rfl) (fun w => ?h1_2) ?_
          case h1_2 => go_simp; try with_reducible rfl
          simp only [Act.put, List.setIfInBounds_toArray, List.set_cons_zero, List.set_cons_succ]
          refine take_free (i := 3) (v := ?v1_3) (some 146) rfl rfl (by kernel_rfl) (by kernel_rfl) (by kernel_rfl) (fun _ _ _ h => h) (by rfl) (fun w => ?h1_3) ?_
          case h1_3 => go_simp; try with_reducible rfl
          simp only [Act.put, List.setIfInBounds_toArray, List.set_cons_zero, List.set_cons_succ]
          refine take_free (i := 4) (v := ?v1_4) (some 147) rfl rfl (by kernel_rfl) (by kernel_rfl) (by kernel_rfl) (fun _ _ _ h => h) (by rfl) (fun w => ?h1_4) ?_
          case h1_4 => go_simp; try with_reducible rfl
          simp only [Act.put, List.setIfInBounds_toArray, List.set_cons_zero, List.set_cons_succ]
          refine take_free (i := 5) (v := ?v1_5) (some 148) rfl rfl (by kernel_rfl) (by kernel_rfl) (by kernel_rfl) (fun _ _ _ h => h) (by rfl) (fun w => ?h1_5) ?_
          case h1_5 => go_simp; try with_reducible rfl
          simp only [Act.put, List.setIfInBounds_toArray, List.set_cons_zero, List.set_cons_succ]
          refine take_free (i := 6) (v := ?v1_6) (some 149) rfl rfl (by kernel_rfl) (by kernel_rfl) (by kernel_rfl) (fun _ _ _ h => h) (by rfl) (fun w => ?h1_6) ?_
          case h1_6 => go_simp; try with_reducible rfl
          simp only [Act.put, List.setIfInBounds_toArray, List.set_cons_zero, List.set_cons_succ]
          refine take_free (i := 7) (v := ?v1_7) (some 150) rfl rfl (by kernel_rfl) (by kernel_rfl) (by kernel_rfl) (fun _ _ _ h => h) (by rfl) (fun w => ?h1_7) ?_
          case h1_7 => go_simp; try with_reducible rfl
          simp only [Act.put, List.setIfInBounds_toArray, List.set_cons_zero, List.set_cons_succ]
          refine take_free (i := 8) (v := ?v1_8) (some 151) rfl rfl (by kernel_rfl) (by kernel_rfl) (by kernel_rfl) (fun _ _ _ h => h) (by rfl) (fun w => ?h1_8) ?_
          case h1_8 => go_simp; try with_reducible rfl
          simp only [Act.put, List.setIfInBounds_toArray, List.set_cons_zero, List.set_cons_succ]
          refine take_free (i := 9) (v := ?v1_9) (some 152) rfl rfl (by kernel_rfl) (by kernel_rfl) (by kernel_rfl) (fun _ _ _ h => h) (by rfl) (fun w => ?h1_9) ?_
          case h1_9 => go_simp; try with_reducible rfl
          simp only [Act.put, List.setIfInBounds_toArray, List.set_cons_zero, List.set_cons_succ]
          refine take_free (i := 10) (v := ?v1_10) (some 153) rfl rfl (by kernel_rfl) (by kernel_rfl) (by kernel_rfl) (fun _ _ _ h => h) (by rfl) (fun w => ?h1_10) ?_
          case h1_10 => go_simp; try with_reducible rfl
          simp only [Act.put, List.setIfInBounds_toArray, List.set_cons_zero, List.set_cons_succ]
          refine take_free (i := 11) (v := ?v1_11) (some 154) rfl rfl (by kernel_rfl) (by kernel_rfl) (by kernel_rfl) (fun _ _ _ h => h) (by rfl) (fun w => ?h1_11) ?_
          case h1_11 => go_simp; try with_reducible rfl
          simp only [Act.put, List.setIfInBounds_toArray, List.set_cons_zero, List.set_cons_succ]
          refine take_free (i := 12) (v := ?v1_12) (some 155) rfl rfl (by kernel_rfl) (by kernel_rfl) (by kernel_rfl) (fun _ _ _ h => h) (by rfl) (fun w => ?h1_12) ?_
          case h1_12 => go_simp; try with_reducible rfl
          simp only [Act.put, List.setIfInBounds_toArray, List.set_cons_zero, List.set_cons_succ]
          refine take_free (i := 13) (v := ?v1_13) (some 156) rfl rfl (by kernel_rfl) (by kernel_rfl) (by kernel_rfl) (fun _ _ _ h => h) (by rfl) (fun w => ?h1_13) ?_
          case h1_13 => go_simp; try with_reducible rfl
          simp only [Act.put, List.setIfInBounds_toArray, List.set_cons_zero, List.set_cons_succ]
          refine take_free (i := 14) (v := ?v1_14) (some 157) rfl rfl (by kernel_rfl) (by kernel_rfl) (by kernel_rfl) (fun _ _ _ h => h) (by rfl) (fun w => ?h1_14) ?_
          case h1_14 => go_simp; try with_reducible rfl
          simp only [Act.put, List.setIfInBounds_toArray, List.set_cons_zero, List.set_cons_succ]
          refine take_free (i := 15) (v := ?v1_15) (some 158) rfl rfl (by kernel_rfl) (by kernel_rfl) (by kernel_rfl) (fun _ _ _ h => h) (by rfl) (fun w => ?h1_15) ?_
          case h1_15 => go_simp; try with_reducible rfl
          simp only [Act.put, List.setIfInBounds_toArray, List.set_cons_zero, List.set_cons_succ]
          refine take_free (i := 16) (v := ?v1_16) (some 159) rfl rfl (by kernel_rfl) (by kernel_rfl) (by kernel_rfl) (fun _ _ _ h => h) (by rfl) (fun w => ?h1_16) ?_
          case h1_16 => go_simp; try with_reducible rfl
          simp only [Act.put, List.setIfInBounds_toArray, List.set_cons_zero, List.set_cons_succ]
          refine take_free (i := 17) (v := ?v1_17) (some 160) rfl rfl (by kernel_rfl) (by kernel_rfl) (by kernel_rfl) (fun _ _ _ h => h) (by rfl) (fun w => ?h1_17) ?_
          case h1_17 => go_simp; try with_reducible rfl
          simp only [Act.put, List.setIfInBounds_toArray, List.set_cons_zero, List.set_cons_succ]
          refine take_free (i := 19) (v := ?v1_19) (some 162) rfl rfl (by kernel_rfl) (by kernel_rfl) (by kernel_rfl) (fun _ _ _ h => h) (by rfl) (fun w => ?h1_19) ?_
          case h1_19 => go_simp; try with_reducible rfl
          simp only [Act.put, List.setIfInBounds_toArray, List.set_cons_zero, List.set_cons_succ]
          refine take_free (i := 20) (v := ?v1_20) (some 163) rfl rfl (by kernel_rfl) (by kernel_rfl) (by kernel_rfl) (fun _ _ _ h => h) (by rfl) (fun w => ?h1_20) ?_
          case h1_20 => go_simp; try with_reducible rfl
          simp only [Act.put, List.setIfInBounds_toArray, List.set_cons_zero, List.set_cons_succ]
          refine take_free (i := 21) (v := ?v1_21) (some 164) rfl rfl (by kernel_rfl) (by kernel_rfl) (by kernel_rfl) (fun _ _ _ h => h) (by rfl) (fun w => ?h1_21) ?_
          case h1_21 => go_simp; try with_reducible rfl
          simp only [Act.put, List.setIfInBounds_toArray, List.set_cons_zero, List.set_cons_succ]
          refine take_free (i := 22) (v := ?v1_22) (some 165) rfl rfl (by kernel_rfl) (by kernel_rfl) (by kernel_rfl) (fun _ _ _ h => h) (by rfl) (fun w => ?h1_22) ?_
          case h1_22 => go_simp; try with_reducible rfl
          simp only [Act.put, List.setIfInBounds_toArray, List.set_cons_zero, List.set_cons_succ]
          refine take_free (i := 23) (v := ?v1_23) (some 166) rfl rfl (by kernel_rfl) (by kernel_rfl) (by kernel_rfl) (fun _ _ _ h => h) (by rfl) (fun w => ?h1_23) ?_
          case h1_23 => go_simp; try with_reducible rfl
          simp only [Act.put, List.setIfInBounds_toArray, List.set_cons_zero, List.set_cons_succ]
          refine take_free (i := 25) (v := ?v1_25) (some 168) rfl rfl (by kernel_rfl) (by kernel_rfl) (by kernel_rfl) (fun _ _ _ h => h) (by rfl) (fun w => ?h1_25) ?_
          case h1_25 => go_simp; try with_reducible rfl
          simp only [Act.put, List.setIfInBounds_toArray, List.set_cons_zero, List.set_cons_succ]
          refine take_free (i := 26) (v := ?v1_26) (some 169) rfl rfl (by kernel_rfl) (by kernel_rfl) (by kernel_rfl) (fun _ _ _ h => h) (by rfl) (fun w => ?h1_26) ?_
          case h1_26 => go_simp; try with_reducible rfl
          simp only [Act.put, List.setIfInBounds_toArray, List.set_cons_zero, List.set_cons_succ]
          refine take_free (i := 27) (v := ?v1_27) (some 170) rfl rfl (by kernel_rfl) (by kernel_rfl) (by kernel_rfl) (fun _ _ _ h => h) (by rfl) (fun w => ?h1_27) ?_
          case h1_27 => go_simp; try with_reducible rfl
          simp only [Act.put, List.setIfInBounds_toArray, List.set_cons_zero, List.set_cons_succ]
          refine take_free (i := 28) (v := ?v1_28) (some 171) rfl rfl (by kernel_rfl) (by kernel_rfl) (by kernel_rfl) (fun _ _ _ h => h) (by rfl) (fun w => ?h1_28) ?_
          case h1_28 => go_simp; try with_reducible rfl
          simp only [Act.put, List.setIfInBounds_toArray, List.set_cons_zero, List.set_cons_succ]
          refine take_free (i := 30) (v := ?v1_30) (some 173) rfl rfl (by kernel_rfl) (by kernel_rfl) (by kernel_rfl) (fun _ _ _ h => h) (by rfl) (fun w => ?h1_30) ?_
          case h1_30 => go_simp; try with_reducible rfl
          simp only [Act.put, List.setIfInBounds_toArray, List.set_cons_zero, List.set_cons_succ]
          refine take_free (i := 31) (v := ?v1_31) (some 174) rfl rfl (by kernel_rfl) (by kernel_rfl) (by kernel_rfl) (fun _ _ _ h => h) (by rfl) (fun w => ?h1_31) ?_
          case h1_31 => go_simp; try with_reducible rfl
          simp only [Act.put, List.setIfInBounds_toArray, List.set_cons_zero, List.set_cons_succ]
          refine take_free (i := 32) (v := ?v1_32) (some 175) rfl rfl (by kernel_rfl) (by kernel_rfl) (by kernel_rfl) (fun _ _ _ h => h) (by rfl) (fun w => ?h1_32) ?_
          case h1_32 => go_simp; try with_reducible rfl
          simp only [Act.put, List.setIfInBounds_toArray, List.set_cons_zero, List.set_cons_succ]
          refine take_free (i := 33) (v := ?v1_33) (some 176) rfl rfl (by kernel_rfl) (by kernel_rfl) (by kernel_rfl) (fun _ _ _ h => h) (by rfl) (fun w => ?h1_33) ?_
          case h1_33 => go_simp; try with_reducible rfl
          simp only [Act.put, List.setIfInBounds_toArray, List.set_cons_zero, List.set_cons_succ]
          refine take_free (i := 34) (v := ?v1_34) (some 177) rfl rfl (by kernel_rfl) (by kernel_rfl) (by kernel_rfl) (fun _ _ _ h => h) (by rfl) (fun w => ?h1_34) ?_
          case h1_34 => go_simp; try with_reducible rfl
          simp only [Act.put, List.setIfInBounds_toArray, List.set_cons_zero, List.set_cons_succ]
          refine take_load (i := 18) (v := ?v1_18) (some 161) rfl rfl (by kernel_rfl) (by kernel_rfl) (by kernel_rfl) (fun _ _ _ h => h) (by rfl) ?h1_18 ?_
          case h1_18 => go_simp; try with_reducible rfl
          simp only [Act.put, List.setIfInBounds_toArray, List.set_cons_zero, List.set_cons_succ]
          refine take_load (i := 24) (v := ?v1_24) (some 167) rfl rfl (by kernel_rfl) (by kernel_rfl) (by kernel_rfl) (fun _ _ _ h => h) (by rfl) ?h1_24 ?_
          case h1_24 => go_simp; try with_reducible rfl
          simp only [Act.put, List.setIfInBounds_toArray, List.set_cons_zero, List.set_cons_succ]
          refine take_load (i := 29) (v := ?v1_29) (some 172) rfl rfl (by kernel_rfl) (by kernel_rfl) (by kernel_rfl) (fun _ _ _ h => h) (by rfl) ?h1_29 ?_
          case h1_29 => go_simp; try with_reducible rfl
          simp only [Act.put, List.setIfInBounds_toArray, List.set_cons_zero, List.set_cons_succ]
          refine take_load (i := 35) (v := ?v1_35) (some 178) rfl rfl (by kernel_rfl) (by kernel_rfl) (by kernel_rfl) (fun _ _ _ h => h) (by rfl) ?h1_35 ?_
          case h1_35 => go_simp; try with_reducible rfl
          simp only [Act.put, List.setIfInBounds_toArray, List.set_cons_zero, List.set_cons_succ]
          clear e0 e1 e2 e3
          refine take_free (i := 36) (v := ?v1_36) (some 179) rfl rfl (by kernel_rfl) (by kernel_rfl) (by kernel_rfl) (fun _ _ _ h => h) (by rfl) (fun w => ?h1_36) ?_
          case h1_36 => go_simp; try with_reducible rfl
          simp only [Act.put, List.setIfInBounds_toArray, List.set_cons_zero, List.set_cons_succ]
          have fz0 := (HB4.out.2 (2 * px) (by simp; omega)).2
          have ex0 := (HB4.out.2 (2 * px) (by simp; omega)).1
          refine take_only (i := 37) (W4.setCell ⟨B, 2 * px, none⟩ (.int .u8 (cc.toNat : Int))) rfl rfl (by kernel_rfl) (by rfl) ?h1_37 ?_
          case h1_37 => go_simp; try with_reducible rfl
          have hb0 := Buf.set HB4.out (k := 2 * px) (by simp; omega) cc
          have hgg0 := gw_set G8.out ⟨B, 2 * px, none⟩ hB0 (.int .u8 (cc.toNat : Int))
          clear fz0 ex0
          generalize W4.setCell ⟨B, 2 * px, none⟩ (.int .u8 (cc.toNat : Int)) = W5 at *
          have HB5 := Lib.hid hb0
          have G9 := Lib.hid hgg0
          clear hb0 hgg0 HB4 G8
          refine take_free (i := 38) (v := ?v1_38) (some 180) rfl rfl (by kernel_rfl) (by kernel_rfl) (by kernel_rfl) (fun _ _ _ h => h) (by rfl) (fun w => ?h1_38) ?_
          case h1_38 => go_simp; try with_reducible rfl
          simp only [Act.put, List.setIfInBounds_toArray, List.set_cons_zero, List.set_cons_succ]
          have fz1 := (HB5.out.2 (2 * px + 1) (by simp; omega)).2
          have ex1 := (HB5.out.2 (2 * px + 1) (by simp; omega)).1
          refine take_only (i := 39) (W5.setCell ⟨B, 2 * px + 1, none⟩ (.int .u8 (cd.toNat : Int))) rfl rfl (by kernel_rfl) (by rfl) ?h1_39 ?_
          case h1_39 => go_simp; try with_reducible rfl
          have hb1 := Buf.set HB5.out (k := 2 * px + 1) (by simp; omega) cd
          have hgg1 := gw_set G9.out ⟨B, 2 * px + 1, none⟩ hB0 (.int .u8 (cd.toNat : Int))
          clear fz1 ex1
          generalize W5.setCell ⟨B, 2 * px + 1, none⟩ (.int .u8 (cd.toNat : Int)) = W6 at *
          have HB6 := Lib.hid hb1
          have G10 := Lib.hid hgg1
          clear hb1 hgg1 HB5 G9
          refine take_free (i := 40) (v := ?v1_40) (some 181) rfl rfl (by kernel_rfl) (by kernel_rfl) (by kernel_rfl) (fun _ _ _ h => h) (by rfl) (fun w => ?h1_40) ?_
          case h1_40 => go_simp; try with_reducible rfl
          simp only [Act.put, List.setIfInBounds_toArray, List.set_cons_zero, List.set_cons_succ]
          have fz2 := (HB6.out.2 (2 * py) (by simp; omega)).2
          have ex2 := (HB6.out.2 (2 * py) (by simp; omega)).1
          refine take_only (i := 41) (W6.setCell ⟨B, 2 * py, none⟩ (.int .u8 (ca.toNat : Int))) rfl rfl (by kernel_rfl) (by rfl) ?h1_41 ?_
          case h1_41 => go_simp; try with_reducible rfl
          have hb2 := Buf.set HB6.out (k := 2 * py) (by simp; omega) ca
          have hgg2 := gw_set G10.out ⟨B, 2 * py, none⟩ hB0 (.int .u8 (ca.toNat : Int))
          clear fz2 ex2
          generalize W6.setCell ⟨B, 2 * py, none⟩ (.int .u8 (ca.toNat : Int)) = W7 at *
          have HB7 := Lib.hid hb2
          have G11 := Lib.hid hgg2
          clear hb2 hgg2 HB6 G10
          refine take_free (i := 42) (v := ?v1_42) (some 182) rfl rfl (by kernel_rfl) (by kernel_rfl) (by kernel_rfl) (fun _ _ _ h => h) (by rfl) (fun w => ?h1_42) ?_
          case h1_42 => go_simp; try with_reducible rfl
          simp only [Act.put, List.setIfInBounds_toArray, List.set_cons_zero, List.set_cons_succ]
          have fz3 := (HB7.out.2 (2 * py + 1) (by simp; omega)).2
          have ex3 := (HB7.out.2 (2 * py + 1) (by simp; omega)).1
          refine take_only (i := 43) (W7.setCell ⟨B, 2 * py + 1, none⟩ (.int .u8 (cb.toNat : Int))) rfl rfl (by kernel_rfl) (by rfl) ?h1_43 ?_
          case h1_43 => go_simp; try with_reducible rfl
          have hb3 := Buf.set HB7.out (k := 2 * py + 1) (by simp; omega) cb
          have hgg3 := gw_set G11.out ⟨B, 2 * py + 1, none⟩ hB0 (.int .u8 (cb.toNat : Int))
          clear fz3 ex3
          generalize W7.setCell ⟨B, 2 * py + 1, none⟩ (.int .u8 (cb.toNat : Int)) = W8 at *
          have HB8 := Lib.hid hb3
          have G12 := Lib.hid hgg3
          clear hb3 hgg3 HB7 G11
          refine wpAny_done (by kernel_rfl) ?_ _
          obtain ⟨AA, hAA⟩ : ∃ A, Sm (bytesOf [a']) = A := ⟨_, rfl⟩
          have hl8 : ((((a'.data.toList.set (2 * px) cc).set (2 * px + 1) cd).set (2 * py) ca).set (2 * py + 1) cb).length = 2 * m := by simp; omega
          have hcv := buf_str HB8.out (n := 2 * m) hl8 cp
          obtain ⟨s2, hs2⟩ : ∃ s2 : ByteArray, (⟨((((a'.data.toList.set (2 * px) cc).set (2 * px + 1) cd).set (2 * py) ca).set (2 * py + 1) cb).toArray⟩ : ByteArray) = s2 := ⟨_, rfl⟩
          have hq2 : Sm (bytesOf [s2]) = AA := by
            rw [← hs2, ← hAA]
            simp only [bytesOf, List.flatMap_cons, List.flatMap_nil, List.append_nil]
            exact HSW.out
          have hz2 : s2.size ≤ 1000 := by
            rw [← hs2]; show Array.size _ ≤ _; rw [List.size_toArray, hl8]; omega
          rw [hs2] at hcv
          have Z1 : Hid (∀ s ∈ [a'], s.size ≤ 1000) := Lib.hid (by intro s hs; simp at hs; subst hs; omega)
          have Z2 : Hid (∀ s ∈ [s2], s.size ≤ 1000) := Lib.hid (by intro s hs; simp at hs; subst hs; omega)
          have QA := Lib.hid hAA
          have QB := Lib.hid hq2
          clear hAA hq2 hs2 hl8 HSW HB8 hz2
          go_wp2_with fail
          with_reducible refine (of_blk _ _ 1 [s2] _ rfl ?_ Z2.out (by omega) _ QB.out).mono ?_
          · ((repeat (first | (with_reducible refine Blk.newAt _ rfl ?_; first | with_reducible rfl | (simp; done)) | with_reducible refine Blk.alloc _ ?_ | with_reducible refine Blk.drew ?_ | with_reducible refine Blk.gw (by with_reducible assumption) ?_)); done)
          rintro e w9 ⟨rfl, hb9⟩
          have hb9 := Gw.trans (gw_alloc1 _ _) hb9
          have G13 := Lib.hid (Gw.trans G12.out hb9)
          clear hb9 G12
          go_wp2_with fail
          with_reducible refine (of_blk _ _ 1 [a'] _ rfl ?_ Z1.out (by omega) _ QA.out).mono ?_
          · ((repeat (first | (with_reducible refine Blk.newAt _ rfl ?_; first | with_reducible rfl | (simp; done)) | with_reducible refine Blk.alloc _ ?_ | with_reducible refine Blk.drew ?_ | with_reducible refine Blk.gw (by with_reducible assumption) ?_)); done)
          rintro e w10 ⟨rfl, hb9⟩
          have hb9 := Gw.trans (gw_alloc1 _ _) hb9
          have G14 := Lib.hid (Gw.trans G13.out hb9)
          clear hb9 G13
          go_wp2_with fail
          go_ret
          exact ⟨rfl, G14.out⟩
        obtain ⟨x, y, z, u, q1, q2, q3, q4, x0, x1, y0, y1, q5, q6⟩ := sums4 a' b hev hle (by omega)
        have hsp : u = z ∨ (u ≠ z ∧ (b.size : Int) % 2 = 1) := by
          by_cases e : u = z
          · exact .inl e
          · exact .inr ⟨e, by by_cases h : b.size % 2 = 0; · exact absurd (q6 h) e
                              · omega⟩
        have wx : IntKind.u64.wrap x = x := by unfold IntKind.wrap; rw [show (2 : Int) ^ IntKind.u64.bits = 18446744073709551616 from rfl]; simp [IntKind.signed] <;> omega
        have Q1 := Lib.hid q1; have Q2 := Lib.hid q2; have Q3 := Lib.hid q3; have Q4 := Lib.hid q4; have Q5 := Lib.hid q5
        clear q1 q2 q3 q4 q5 q6
        have z1 : ∀ s ∈ [a'], s.size ≤ 1000 := by intro s hs; simp at hs; subst hs; omega
        have z2 : ∀ s ∈ [b], s.size ≤ 1000 := by intro s hs; simp at hs; subst hs; omega
        have z3 : ∀ s ∈ [a', b], s.size ≤ 1000 := by intro s hs; simp at hs; rcases hs with rfl | rfl <;> omega
        have z4 : ∀ s ∈ [b, a'], s.size ≤ 1000 := by intro s hs; simp at hs; rcases hs with rfl | rfl <;> omega
        have Z1 := Lib.hid z1; have Z2 := Lib.hid z2; have Z3 := Lib.hid z3; have Z4 := Lib.hid z4
        clear z1 z2 z3 z4
        have wxy : IntKind.u64.wrap (x + y) = x + y := by unfold IntKind.wrap; rw [show (2 : Int) ^ IntKind.u64.bits = 18446744073709551616 from rfl]; simp [IntKind.signed] <;> omega
        have wy : IntKind.u64.wrap y = y := by unfold IntKind.wrap; rw [show (2 : Int) ^ IntKind.u64.bits = 18446744073709551616 from rfl]; simp [IntKind.signed] <;> omega
        with_reducible refine (of_blk _ _ 1 [a'] _ rfl ?_ Z1.out (by omega) _ Q1.out).mono ?_
        · ((repeat (first | (with_reducible refine Blk.newAt _ rfl ?_; first | with_reducible rfl | (simp; done)) | with_reducible refine Blk.alloc _ ?_ | with_reducible refine Blk.drew ?_ | with_reducible refine Blk.gw (by with_reducible assumption) ?_)); done)
        rintro e w3 ⟨rfl, hb3⟩
        have hb3 := Gw.trans (gw_alloc1 _ _) hb3
        have c1 := cell_gw hb3 c1
        have c2 := cell_gw hb3 c2
        have G6 := Lib.hid (Gw.trans G5.out hb3)
        clear hb3 G5
        go_wp2_with fail
        with_reducible refine (of_blk _ _ 1 [b] _ rfl ?_ Z2.out (by omega) _ Q2.out).mono ?_
        · ((repeat (first | (with_reducible refine Blk.newAt _ rfl ?_; first | with_reducible rfl | (simp; done)) | with_reducible refine Blk.alloc _ ?_ | with_reducible refine Blk.drew ?_ | with_reducible refine Blk.gw (by with_reducible assumption) ?_)); done)
        rintro e w4 ⟨rfl, hb3⟩
        have hb3 := Gw.trans (gw_alloc1 _ _) hb3
        have c1 := cell_gw hb3 c1
        have c2 := cell_gw hb3 c2
        have G7 := Lib.hid (Gw.trans G6.out hb3)
        clear hb3 G6
        go_wp2_with fail
        refine (fold _ _ (by omega)).mono ?_
        rintro e w5 ⟨rfl, rfl⟩
        rw [Q5.out]
        go_wp2_with fail
        with_reducible refine (of_blk _ _ 2 [a', b] _ rfl ?_ Z3.out (by omega) _ Q3.out).mono ?_
        · ((repeat (first | (with_reducible refine Blk.newAt _ rfl ?_; first | with_reducible rfl | (simp; done)) | with_reducible refine Blk.alloc _ ?_ | with_reducible refine Blk.drew ?_ | with_reducible refine Blk.gw (by with_reducible assumption) ?_)); done)
        rintro e w5 ⟨rfl, hb3⟩
        have hb3 := Gw.trans (gw_alloc1 _ _) hb3
        have c1 := cell_gw hb3 c1
        have c2 := cell_gw hb3 c2
        have G8 := Lib.hid (Gw.trans G7.out hb3)
        clear hb3 G7
        go_wp2_with fail
        with_reducible refine (of_blk _ _ 2 [b, a'] _ rfl ?_ Z4.out (by omega) _ Q4.out).mono ?_
        · ((repeat (first | (with_reducible refine Blk.newAt _ rfl ?_; first | with_reducible rfl | (simp; done)) | with_reducible refine Blk.alloc _ ?_ | with_reducible refine Blk.drew ?_ | with_reducible refine Blk.gw (by with_reducible assumption) ?_)); done)
        rintro e w6 ⟨rfl, hb3⟩
        have hb3 := Gw.trans (gw_alloc1 _ _) hb3
        have c1 := cell_gw hb3 c1
        have c2 := cell_gw hb3 c2
        have G9 := Lib.hid (Gw.trans G8.out hb3)
        clear hb3 G8
        go_wp2_with fail
        with_reducible refine (of_blk _ _ 2 [a', b] _ rfl ?_ Z3.out (by omega) _ Q3.out).mono ?_
        · ((repeat (first | (with_reducible refine Blk.newAt _ rfl ?_; first | with_reducible rfl | (simp; done)) | with_reducible refine Blk.alloc _ ?_ | with_reducible refine Blk.drew ?_ | with_reducible refine Blk.gw (by with_reducible assumption) ?_)); done)
        rintro e w7 ⟨rfl, hb3⟩
        have hb3 := Gw.trans (gw_alloc1 _ _) hb3
        have c1 := cell_gw hb3 c1
        have c2 := cell_gw hb3 c2
        have G10 := Lib.hid (Gw.trans G9.out hb3)
        clear hb3 G9
        rcases hsp with rfl | ⟨hne, hodd⟩
        · go_wp2_with fail
          exact HK4 _ _ G10.out c1 c2 rfl rfl rfl rfl rfl
        · have hne2 : (u == z) = false := by simpa using hne
          go_wp2_with fail
          exact HK4 _ _ G10.out c1 c2 rfl rfl rfl rfl rfl
      clear hK7
      go_wp2_with fail
      · have hp : (a.size : Int) % 2 = 1 := by simpa using ‹(_ == (1 : Int)) = true›
        exact HK7 (a ++ (⟨#[0]⟩ : ByteArray)) _ _ (by rw [ByteArray.size_append]; show (a.size + 1) % 2 = 0; omega) (by rw [ByteArray.size_append]; show a.size + 1 ≤ 300; omega) G5.out c1 c2 rfl rfl rfl rfl rfl
      · have hp : ¬ (a.size : Int) % 2 = 1 := by simpa using ‹(_ == (1 : Int)) = false›
        exact HK7 a _ _ (by omega) (by omega) G5.out c1 c2 rfl rfl rfl rfl rfl
    have hg0 : Gw w2 w2 := Gw.refl _
    have q35 : (9223372036854775807 < a.size + b.size) = False := eq_false (by omega)
    have q36 : (9223372036854775807 < a.size + b.size + 1) = False := eq_false (by omega)
    go_region_held3 (fun v => Gw w2 v) (first | ((repeat (first | with_reducible exact Gw.refl _ | with_reducible assumption | with_reducible refine Gw.alloc ?_ _ | with_reducible refine Gw.drew ?_)); done) | go_keep) (first | (go_at_call 16; (with_reducible refine (of_blk _ _ 2 [a, b] _ rfl ?_ HS2.out (by omega) _ HA2.out).mono ?_); (· ((repeat (first | (with_reducible refine Blk.newAt _ rfl ?_; first | with_reducible rfl | (simp; done)) | with_reducible refine Blk.alloc _ ?_ | with_reducible refine Blk.drew ?_ | with_reducible refine Blk.gw (by with_reducible assumption) ?_)); done)); rintro e w' ⟨rfl, hb⟩; have hgx := Gw.trans (show Gw w2 _ by (repeat (first | with_reducible exact Gw.refl _ | with_reducible assumption | with_reducible refine Gw.alloc ?_ _ | with_reducible refine Gw.drew ?_))) hb; clear hb) | (go_at_call 16; (with_reducible refine (of_blk _ _ 5 [a.extract 0 i, a.extract i a.size, ⟨#[]⟩, b.extract 0 k, b.extract k b.size] _ rfl ?_ HS5.out (by omega) _ HA5.out).mono ?_); (· ((repeat (first | (with_reducible refine Blk.newAt _ rfl ?_; first | with_reducible rfl | (simp; done)) | with_reducible refine Blk.alloc _ ?_ | with_reducible refine Blk.drew ?_ | with_reducible refine Blk.gw (by with_reducible assumption) ?_)); done)); rintro e w' ⟨rfl, hb⟩; have hgx := Gw.trans (show Gw w2 _ by (repeat (first | with_reducible exact Gw.refl _ | with_reducible assumption | with_reducible refine Gw.alloc ?_ _ | with_reducible refine Gw.drew ?_))) hb; clear hb) | (go_at_call 16; (with_reducible refine (of_blk _ _ 3 [a, b, ⟨#[0, 0]⟩] _ rfl ?_ HS3.out (by omega) _ HA3.out).mono ?_); (· ((repeat (first | (with_reducible refine Blk.newAt _ rfl ?_; first | with_reducible rfl | (simp; done)) | with_reducible refine Blk.alloc _ ?_ | with_reducible refine Blk.drew ?_ | with_reducible refine Blk.gw (by with_reducible assumption) ?_)); done)); rintro e w' ⟨rfl, hb⟩; have hgx := Gw.trans (show Gw w2 _ by (repeat (first | with_reducible exact Gw.refl _ | with_reducible assumption | with_reducible refine Gw.alloc ?_ _ | with_reducible refine Gw.drew ?_))) hb; clear hb) | (go_at_call 16; (with_reducible refine (of_blk _ _ 1 [a ++ b ++ ⟨#[0]⟩] _ rfl ?_ HS1b.out (by omega) _ HA4.out).mono ?_); (· ((repeat (first | (with_reducible refine Blk.newAt _ rfl ?_; first | with_reducible rfl | (simp; done)) | with_reducible refine Blk.alloc _ ?_ | with_reducible refine Blk.drew ?_ | with_reducible refine Blk.gw (by with_reducible assumption) ?_)); done)); rintro e w' ⟨rfl, hb⟩; have hgx := Gw.trans (show Gw w2 _ by (repeat (first | with_reducible exact Gw.refl _ | with_reducible assumption | with_reducible refine Gw.alloc ?_ _ | with_reducible refine Gw.drew ?_))) hb; clear hb))
    all_goals (show K2 _ _; refine HK2 _ _ (by with_reducible assumption) ?_ ?_ ?_ ?_ ?_ ?_ <;> rfl)
  obtain ⟨a, ha, hA⟩ := hcut ta
  obtain ⟨b, hb, hB⟩ := hcut tb
  have GW1 := Gw.refl w1
  clear hcut
  rcases hA with ⟨a1, a2⟩ | ⟨a1, rfl⟩ <;> rcases hB with ⟨b1, b2⟩ | ⟨b1, rfl⟩
  all_goals
    have HA := Lib.hid ha
    have HB := Lib.hid hb
    go_quiet (fail)
    exact HK _ _ _ _ HA.out HB.out (GW1.drewN _) rfl rfl rfl rfl rfl
end Go.Proofs.Ytidpmlifodpjlaa.Sm
