/- Plain facts for SumParts; its frames taken apart (printed by splitn.py). -/
import Derived.Test.YtidpmlifodpjlaaSumM
import Derived.Test.YtidpmlifodpjlaaDsC
namespace Go.Proofs.Ytidpmlifodpjlaa.Sm
open Go.RowKit
set_option linter.unusedVariables false
set_option maxRecDepth 10000 in
theorem frame191a (R : List Value → Prop) (v0 v1 v5 : Value) (hq : ∀ v2 v3 v4 v6 v7 v8 v9 v10 v11 v12 v13 v14 v15 v16 v17 v18 v19 v20 v21 v22 v23 v24 v25 v26 v27 v28 v29 v30 v31 v32 v33 v34 v35 v36 v37 v38 v39 v40 v41 v42 v43 v44 v45 v46 v47 v48 v49 v50 v51 v52 v53 v54 v55 v56 v57 v58 v59 v60 v61 v62 v63 v64 v65 v66 v67 v68 v69 v70 v71 v72 v73 v74 v75 v76 v77 v78 v79 v80 v81 v82 v83 v84 v85 v86 v87 v88 v89 v90 v91 v92 v93 v94 v95 v96 v97 v98 v99 v100 v101 v102 v103 v104 v105 v106 v107 v108 v109 v110 v111 v112 v113 v114 v115 v116 v117 v118 v119 v120 v121 v122 v123 v124 v125 v126 v127 v128 v129 v130 v131 v132 v133 v134 v135 v136 v137 v138 v139 v140 v141 v142 v143 v144 v145 v146 v147 v148 v149 v150 v151 v152 v153 v154 v155 v156 v157 v158 v159 v160 v161 v162 v163 v164 v165 v166 v167 v168 v169 v170 v171 v172 v173 v174 v175 v176 v177 v178 v179 v180 v181 v182 v183 v184 v185 v186 v187 v188 v189 v190 : Value, R (v0 :: v1 :: v2 :: v3 :: v4 :: v5 :: v6 :: v7 :: v8 :: v9 :: v10 :: v11 :: v12 :: v13 :: v14 :: v15 :: v16 :: v17 :: v18 :: v19 :: v20 :: v21 :: v22 :: v23 :: v24 :: v25 :: v26 :: v27 :: v28 :: v29 :: v30 :: v31 :: v32 :: v33 :: v34 :: v35 :: v36 :: v37 :: v38 :: v39 :: v40 :: v41 :: v42 :: v43 :: v44 :: v45 :: v46 :: v47 :: v48 :: v49 :: v50 :: v51 :: v52 :: v53 :: v54 :: v55 :: v56 :: v57 :: v58 :: v59 :: v60 :: v61 :: v62 :: v63 :: v64 :: v65 :: v66 :: v67 :: v68 :: v69 :: v70 :: v71 :: v72 :: v73 :: v74 :: v75 :: v76 :: v77 :: v78 :: v79 :: v80 :: v81 :: v82 :: v83 :: v84 :: v85 :: v86 :: v87 :: v88 :: v89 :: v90 :: v91 :: v92 :: v93 :: v94 :: v95 :: v96 :: v97 :: v98 :: v99 :: v100 :: v101 :: v102 :: v103 :: v104 :: v105 :: v106 :: v107 :: v108 :: v109 :: v110 :: v111 :: v112 :: v113 :: v114 :: v115 :: v116 :: v117 :: v118 :: v119 :: v120 :: v121 :: v122 :: v123 :: v124 :: v125 :: v126 :: v127 :: v128 :: v129 :: v130 :: v131 :: v132 :: v133 :: v134 :: v135 :: v136 :: v137 :: v138 :: v139 :: v140 :: v141 :: v142 :: v143 :: v144 :: v145 :: v146 :: v147 :: v148 :: v149 :: v150 :: v151 :: v152 :: v153 :: v154 :: v155 :: v156 :: v157 :: v158 :: v159 :: v160 :: v161 :: v162 :: v163 :: v164 :: v165 :: v166 :: v167 :: v168 :: v169 :: v170 :: v171 :: v172 :: v173 :: v174 :: v175 :: v176 :: v177 :: v178 :: v179 :: v180 :: v181 :: v182 :: v183 :: v184 :: v185 :: v186 :: v187 :: v188 :: v189 :: v190 :: [])) (v : List Value) (h : v.length = 191) (h0 : v[0]? = some v0) (h1 : v[1]? = some v1) (h5 : v[5]? = some v5) : R v := by
  have hx := split12 h; clear h; obtain ⟨u0, u1, u2, u3, u4, u5, u6, u7, u8, u9, u10, u11, v, rfl, h⟩ := hx
  have hx := split12 h; clear h; obtain ⟨u12, u13, u14, u15, u16, u17, u18, u19, u20, u21, u22, u23, v, rfl, h⟩ := hx
  have hx := split12 h; clear h; obtain ⟨u24, u25, u26, u27, u28, u29, u30, u31, u32, u33, u34, u35, v, rfl, h⟩ := hx
  have hx := split12 h; clear h; obtain ⟨u36, u37, u38, u39, u40, u41, u42, u43, u44, u45, u46, u47, v, rfl, h⟩ := hx
  have hx := split12 h; clear h; obtain ⟨u48, u49, u50, u51, u52, u53, u54, u55, u56, u57, u58, u59, v, rfl, h⟩ := hx
  have hx := split12 h; clear h; obtain ⟨u60, u61, u62, u63, u64, u65, u66, u67, u68, u69, u70, u71, v, rfl, h⟩ := hx
  have hx := split12 h; clear h; obtain ⟨u72, u73, u74, u75, u76, u77, u78, u79, u80, u81, u82, u83, v, rfl, h⟩ := hx
  have hx := split12 h; clear h; obtain ⟨u84, u85, u86, u87, u88, u89, u90, u91, u92, u93, u94, u95, v, rfl, h⟩ := hx
  have hx := split12 h; clear h; obtain ⟨u96, u97, u98, u99, u100, u101, u102, u103, u104, u105, u106, u107, v, rfl, h⟩ := hx
  have hx := split12 h; clear h; obtain ⟨u108, u109, u110, u111, u112, u113, u114, u115, u116, u117, u118, u119, v, rfl, h⟩ := hx
  have hx := split12 h; clear h; obtain ⟨u120, u121, u122, u123, u124, u125, u126, u127, u128, u129, u130, u131, v, rfl, h⟩ := hx
  have hx := split12 h; clear h; obtain ⟨u132, u133, u134, u135, u136, u137, u138, u139, u140, u141, u142, u143, v, rfl, h⟩ := hx
  have hx := split12 h; clear h; obtain ⟨u144, u145, u146, u147, u148, u149, u150, u151, u152, u153, u154, u155, v, rfl, h⟩ := hx
  have hx := split12 h; clear h; obtain ⟨u156, u157, u158, u159, u160, u161, u162, u163, u164, u165, u166, u167, v, rfl, h⟩ := hx
  have hx := split12 h; clear h; obtain ⟨u168, u169, u170, u171, u172, u173, u174, u175, u176, u177, u178, u179, v, rfl, h⟩ := hx
  have hx := uncons h; clear h; obtain ⟨u180, v, rfl, h⟩ := hx
  have hx := uncons h; clear h; obtain ⟨u181, v, rfl, h⟩ := hx
  have hx := uncons h; clear h; obtain ⟨u182, v, rfl, h⟩ := hx
  have hx := uncons h; clear h; obtain ⟨u183, v, rfl, h⟩ := hx
  have hx := uncons h; clear h; obtain ⟨u184, v, rfl, h⟩ := hx
  have hx := uncons h; clear h; obtain ⟨u185, v, rfl, h⟩ := hx
  have hx := uncons h; clear h; obtain ⟨u186, v, rfl, h⟩ := hx
  have hx := uncons h; clear h; obtain ⟨u187, v, rfl, h⟩ := hx
  have hx := uncons h; clear h; obtain ⟨u188, v, rfl, h⟩ := hx
  have hx := uncons h; clear h; obtain ⟨u189, v, rfl, h⟩ := hx
  have hx := uncons h; clear h; obtain ⟨u190, v, rfl, h⟩ := hx
  obtain rfl : v = [] := List.eq_nil_of_length_eq_zero h
  obtain rfl : u0 = v0 := Option.some.inj h0
  obtain rfl : u1 = v1 := Option.some.inj h1
  obtain rfl : u5 = v5 := Option.some.inj h5
  exact hq _ _ _ _ _ _ _ _ _ _ _ _ _ _ _ _ _ _ _ _ _ _ _ _ _ _ _ _ _ _ _ _ _ _ _ _ _ _ _ _ _ _ _ _ _ _ _ _ _ _ _ _ _ _ _ _ _ _ _ _ _ _ _ _ _ _ _ _ _ _ _ _ _ _ _ _ _ _ _ _ _ _ _ _ _ _ _ _ _ _ _ _ _ _ _ _ _ _ _ _ _ _ _ _ _ _ _ _ _ _ _ _ _ _ _ _ _ _ _ _ _ _ _ _ _ _ _ _ _ _ _ _ _ _ _ _ _ _ _ _ _ _ _ _ _ _ _ _ _ _ _ _ _ _ _ _ _ _ _ _ _ _ _ _ _ _ _ _ _ _ _ _ _ _ _ _ _ _ _ _ _ _ _ _ _ _ _ _
set_option maxRecDepth 10000 in
theorem frame191b (R : List Value → Prop) (v0 v1 v5 v85 : Value) (hq : ∀ v2 v3 v4 v6 v7 v8 v9 v10 v11 v12 v13 v14 v15 v16 v17 v18 v19 v20 v21 v22 v23 v24 v25 v26 v27 v28 v29 v30 v31 v32 v33 v34 v35 v36 v37 v38 v39 v40 v41 v42 v43 v44 v45 v46 v47 v48 v49 v50 v51 v52 v53 v54 v55 v56 v57 v58 v59 v60 v61 v62 v63 v64 v65 v66 v67 v68 v69 v70 v71 v72 v73 v74 v75 v76 v77 v78 v79 v80 v81 v82 v83 v84 v86 v87 v88 v89 v90 v91 v92 v93 v94 v95 v96 v97 v98 v99 v100 v101 v102 v103 v104 v105 v106 v107 v108 v109 v110 v111 v112 v113 v114 v115 v116 v117 v118 v119 v120 v121 v122 v123 v124 v125 v126 v127 v128 v129 v130 v131 v132 v133 v134 v135 v136 v137 v138 v139 v140 v141 v142 v143 v144 v145 v146 v147 v148 v149 v150 v151 v152 v153 v154 v155 v156 v157 v158 v159 v160 v161 v162 v163 v164 v165 v166 v167 v168 v169 v170 v171 v172 v173 v174 v175 v176 v177 v178 v179 v180 v181 v182 v183 v184 v185 v186 v187 v188 v189 v190 : Value, R (v0 :: v1 :: v2 :: v3 :: v4 :: v5 :: v6 :: v7 :: v8 :: v9 :: v10 :: v11 :: v12 :: v13 :: v14 :: v15 :: v16 :: v17 :: v18 :: v19 :: v20 :: v21 :: v22 :: v23 :: v24 :: v25 :: v26 :: v27 :: v28 :: v29 :: v30 :: v31 :: v32 :: v33 :: v34 :: v35 :: v36 :: v37 :: v38 :: v39 :: v40 :: v41 :: v42 :: v43 :: v44 :: v45 :: v46 :: v47 :: v48 :: v49 :: v50 :: v51 :: v52 :: v53 :: v54 :: v55 :: v56 :: v57 :: v58 :: v59 :: v60 :: v61 :: v62 :: v63 :: v64 :: v65 :: v66 :: v67 :: v68 :: v69 :: v70 :: v71 :: v72 :: v73 :: v74 :: v75 :: v76 :: v77 :: v78 :: v79 :: v80 :: v81 :: v82 :: v83 :: v84 :: v85 :: v86 :: v87 :: v88 :: v89 :: v90 :: v91 :: v92 :: v93 :: v94 :: v95 :: v96 :: v97 :: v98 :: v99 :: v100 :: v101 :: v102 :: v103 :: v104 :: v105 :: v106 :: v107 :: v108 :: v109 :: v110 :: v111 :: v112 :: v113 :: v114 :: v115 :: v116 :: v117 :: v118 :: v119 :: v120 :: v121 :: v122 :: v123 :: v124 :: v125 :: v126 :: v127 :: v128 :: v129 :: v130 :: v131 :: v132 :: v133 :: v134 :: v135 :: v136 :: v137 :: v138 :: v139 :: v140 :: v141 :: v142 :: v143 :: v144 :: v145 :: v146 :: v147 :: v148 :: v149 :: v150 :: v151 :: v152 :: v153 :: v154 :: v155 :: v156 :: v157 :: v158 :: v159 :: v160 :: v161 :: v162 :: v163 :: v164 :: v165 :: v166 :: v167 :: v168 :: v169 :: v170 :: v171 :: v172 :: v173 :: v174 :: v175 :: v176 :: v177 :: v178 :: v179 :: v180 :: v181 :: v182 :: v183 :: v184 :: v185 :: v186 :: v187 :: v188 :: v189 :: v190 :: [])) (v : List Value) (h : v.length = 191) (h0 : v[0]? = some v0) (h1 : v[1]? = some v1) (h5 : v[5]? = some v5) (h85 : v[85]? = some v85) : R v := by
  have hx := split12 h; clear h; obtain ⟨u0, u1, u2, u3, u4, u5, u6, u7, u8, u9, u10, u11, v, rfl, h⟩ := hx
  have hx := split12 h; clear h; obtain ⟨u12, u13, u14, u15, u16, u17, u18, u19, u20, u21, u22, u23, v, rfl, h⟩ := hx
  have hx := split12 h; clear h; obtain ⟨u24, u25, u26, u27, u28, u29, u30, u31, u32, u33, u34, u35, v, rfl, h⟩ := hx
  have hx := split12 h; clear h; obtain ⟨u36, u37, u38, u39, u40, u41, u42, u43, u44, u45, u46, u47, v, rfl, h⟩ := hx
  have hx := split12 h; clear h; obtain ⟨u48, u49, u50, u51, u52, u53, u54, u55, u56, u57, u58, u59, v, rfl, h⟩ := hx
  have hx := split12 h; clear h; obtain ⟨u60, u61, u62, u63, u64, u65, u66, u67, u68, u69, u70, u71, v, rfl, h⟩ := hx
  have hx := split12 h; clear h; obtain ⟨u72, u73, u74, u75, u76, u77, u78, u79, u80, u81, u82, u83, v, rfl, h⟩ := hx
  have hx := split12 h; clear h; obtain ⟨u84, u85, u86, u87, u88, u89, u90, u91, u92, u93, u94, u95, v, rfl, h⟩ := hx
  have hx := split12 h; clear h; obtain ⟨u96, u97, u98, u99, u100, u101, u102, u103, u104, u105, u106, u107, v, rfl, h⟩ := hx
  have hx := split12 h; clear h; obtain ⟨u108, u109, u110, u111, u112, u113, u114, u115, u116, u117, u118, u119, v, rfl, h⟩ := hx
  have hx := split12 h; clear h; obtain ⟨u120, u121, u122, u123, u124, u125, u126, u127, u128, u129, u130, u131, v, rfl, h⟩ := hx
  have hx := split12 h; clear h; obtain ⟨u132, u133, u134, u135, u136, u137, u138, u139, u140, u141, u142, u143, v, rfl, h⟩ := hx
  have hx := split12 h; clear h; obtain ⟨u144, u145, u146, u147, u148, u149, u150, u151, u152, u153, u154, u155, v, rfl, h⟩ := hx
  have hx := split12 h; clear h; obtain ⟨u156, u157, u158, u159, u160, u161, u162, u163, u164, u165, u166, u167, v, rfl, h⟩ := hx
  have hx := split12 h; clear h; obtain ⟨u168, u169, u170, u171, u172, u173, u174, u175, u176, u177, u178, u179, v, rfl, h⟩ := hx
  have hx := uncons h; clear h; obtain ⟨u180, v, rfl, h⟩ := hx
  have hx := uncons h; clear h; obtain ⟨u181, v, rfl, h⟩ := hx
  have hx := uncons h; clear h; obtain ⟨u182, v, rfl, h⟩ := hx
  have hx := uncons h; clear h; obtain ⟨u183, v, rfl, h⟩ := hx
  have hx := uncons h; clear h; obtain ⟨u184, v, rfl, h⟩ := hx
  have hx := uncons h; clear h; obtain ⟨u185, v, rfl, h⟩ := hx
  have hx := uncons h; clear h; obtain ⟨u186, v, rfl, h⟩ := hx
  have hx := uncons h; clear h; obtain ⟨u187, v, rfl, h⟩ := hx
  have hx := uncons h; clear h; obtain ⟨u188, v, rfl, h⟩ := hx
  have hx := uncons h; clear h; obtain ⟨u189, v, rfl, h⟩ := hx
  have hx := uncons h; clear h; obtain ⟨u190, v, rfl, h⟩ := hx
  obtain rfl : v = [] := List.eq_nil_of_length_eq_zero h
  obtain rfl : u0 = v0 := Option.some.inj h0
  obtain rfl : u1 = v1 := Option.some.inj h1
  obtain rfl : u5 = v5 := Option.some.inj h5
  obtain rfl : u85 = v85 := Option.some.inj h85
  exact hq _ _ _ _ _ _ _ _ _ _ _ _ _ _ _ _ _ _ _ _ _ _ _ _ _ _ _ _ _ _ _ _ _ _ _ _ _ _ _ _ _ _ _ _ _ _ _ _ _ _ _ _ _ _ _ _ _ _ _ _ _ _ _ _ _ _ _ _ _ _ _ _ _ _ _ _ _ _ _ _ _ _ _ _ _ _ _ _ _ _ _ _ _ _ _ _ _ _ _ _ _ _ _ _ _ _ _ _ _ _ _ _ _ _ _ _ _ _ _ _ _ _ _ _ _ _ _ _ _ _ _ _ _ _ _ _ _ _ _ _ _ _ _ _ _ _ _ _ _ _ _ _ _ _ _ _ _ _ _ _ _ _ _ _ _ _ _ _ _ _ _ _ _ _ _ _ _ _ _ _ _ _ _ _ _ _ _
set_option maxRecDepth 10000 in
theorem frame191c (R : List Value → Prop) (v0 v10 : Value) (hq : ∀ v1 v2 v3 v4 v5 v6 v7 v8 v9 v11 v12 v13 v14 v15 v16 v17 v18 v19 v20 v21 v22 v23 v24 v25 v26 v27 v28 v29 v30 v31 v32 v33 v34 v35 v36 v37 v38 v39 v40 v41 v42 v43 v44 v45 v46 v47 v48 v49 v50 v51 v52 v53 v54 v55 v56 v57 v58 v59 v60 v61 v62 v63 v64 v65 v66 v67 v68 v69 v70 v71 v72 v73 v74 v75 v76 v77 v78 v79 v80 v81 v82 v83 v84 v85 v86 v87 v88 v89 v90 v91 v92 v93 v94 v95 v96 v97 v98 v99 v100 v101 v102 v103 v104 v105 v106 v107 v108 v109 v110 v111 v112 v113 v114 v115 v116 v117 v118 v119 v120 v121 v122 v123 v124 v125 v126 v127 v128 v129 v130 v131 v132 v133 v134 v135 v136 v137 v138 v139 v140 v141 v142 v143 v144 v145 v146 v147 v148 v149 v150 v151 v152 v153 v154 v155 v156 v157 v158 v159 v160 v161 v162 v163 v164 v165 v166 v167 v168 v169 v170 v171 v172 v173 v174 v175 v176 v177 v178 v179 v180 v181 v182 v183 v184 v185 v186 v187 v188 v189 v190 : Value, R (v0 :: v1 :: v2 :: v3 :: v4 :: v5 :: v6 :: v7 :: v8 :: v9 :: v10 :: v11 :: v12 :: v13 :: v14 :: v15 :: v16 :: v17 :: v18 :: v19 :: v20 :: v21 :: v22 :: v23 :: v24 :: v25 :: v26 :: v27 :: v28 :: v29 :: v30 :: v31 :: v32 :: v33 :: v34 :: v35 :: v36 :: v37 :: v38 :: v39 :: v40 :: v41 :: v42 :: v43 :: v44 :: v45 :: v46 :: v47 :: v48 :: v49 :: v50 :: v51 :: v52 :: v53 :: v54 :: v55 :: v56 :: v57 :: v58 :: v59 :: v60 :: v61 :: v62 :: v63 :: v64 :: v65 :: v66 :: v67 :: v68 :: v69 :: v70 :: v71 :: v72 :: v73 :: v74 :: v75 :: v76 :: v77 :: v78 :: v79 :: v80 :: v81 :: v82 :: v83 :: v84 :: v85 :: v86 :: v87 :: v88 :: v89 :: v90 :: v91 :: v92 :: v93 :: v94 :: v95 :: v96 :: v97 :: v98 :: v99 :: v100 :: v101 :: v102 :: v103 :: v104 :: v105 :: v106 :: v107 :: v108 :: v109 :: v110 :: v111 :: v112 :: v113 :: v114 :: v115 :: v116 :: v117 :: v118 :: v119 :: v120 :: v121 :: v122 :: v123 :: v124 :: v125 :: v126 :: v127 :: v128 :: v129 :: v130 :: v131 :: v132 :: v133 :: v134 :: v135 :: v136 :: v137 :: v138 :: v139 :: v140 :: v141 :: v142 :: v143 :: v144 :: v145 :: v146 :: v147 :: v148 :: v149 :: v150 :: v151 :: v152 :: v153 :: v154 :: v155 :: v156 :: v157 :: v158 :: v159 :: v160 :: v161 :: v162 :: v163 :: v164 :: v165 :: v166 :: v167 :: v168 :: v169 :: v170 :: v171 :: v172 :: v173 :: v174 :: v175 :: v176 :: v177 :: v178 :: v179 :: v180 :: v181 :: v182 :: v183 :: v184 :: v185 :: v186 :: v187 :: v188 :: v189 :: v190 :: [])) (v : List Value) (h : v.length = 191) (h0 : v[0]? = some v0) (h10 : v[10]? = some v10) : R v := by
  have hx := split12 h; clear h; obtain ⟨u0, u1, u2, u3, u4, u5, u6, u7, u8, u9, u10, u11, v, rfl, h⟩ := hx
  have hx := split12 h; clear h; obtain ⟨u12, u13, u14, u15, u16, u17, u18, u19, u20, u21, u22, u23, v, rfl, h⟩ := hx
  have hx := split12 h; clear h; obtain ⟨u24, u25, u26, u27, u28, u29, u30, u31, u32, u33, u34, u35, v, rfl, h⟩ := hx
  have hx := split12 h; clear h; obtain ⟨u36, u37, u38, u39, u40, u41, u42, u43, u44, u45, u46, u47, v, rfl, h⟩ := hx
  have hx := split12 h; clear h; obtain ⟨u48, u49, u50, u51, u52, u53, u54, u55, u56, u57, u58, u59, v, rfl, h⟩ := hx
  have hx := split12 h; clear h; obtain ⟨u60, u61, u62, u63, u64, u65, u66, u67, u68, u69, u70, u71, v, rfl, h⟩ := hx
  have hx := split12 h; clear h; obtain ⟨u72, u73, u74, u75, u76, u77, u78, u79, u80, u81, u82, u83, v, rfl, h⟩ := hx
  have hx := split12 h; clear h; obtain ⟨u84, u85, u86, u87, u88, u89, u90, u91, u92, u93, u94, u95, v, rfl, h⟩ := hx
  have hx := split12 h; clear h; obtain ⟨u96, u97, u98, u99, u100, u101, u102, u103, u104, u105, u106, u107, v, rfl, h⟩ := hx
  have hx := split12 h; clear h; obtain ⟨u108, u109, u110, u111, u112, u113, u114, u115, u116, u117, u118, u119, v, rfl, h⟩ := hx
  have hx := split12 h; clear h; obtain ⟨u120, u121, u122, u123, u124, u125, u126, u127, u128, u129, u130, u131, v, rfl, h⟩ := hx
  have hx := split12 h; clear h; obtain ⟨u132, u133, u134, u135, u136, u137, u138, u139, u140, u141, u142, u143, v, rfl, h⟩ := hx
  have hx := split12 h; clear h; obtain ⟨u144, u145, u146, u147, u148, u149, u150, u151, u152, u153, u154, u155, v, rfl, h⟩ := hx
  have hx := split12 h; clear h; obtain ⟨u156, u157, u158, u159, u160, u161, u162, u163, u164, u165, u166, u167, v, rfl, h⟩ := hx
  have hx := split12 h; clear h; obtain ⟨u168, u169, u170, u171, u172, u173, u174, u175, u176, u177, u178, u179, v, rfl, h⟩ := hx
  have hx := uncons h; clear h; obtain ⟨u180, v, rfl, h⟩ := hx
  have hx := uncons h; clear h; obtain ⟨u181, v, rfl, h⟩ := hx
  have hx := uncons h; clear h; obtain ⟨u182, v, rfl, h⟩ := hx
  have hx := uncons h; clear h; obtain ⟨u183, v, rfl, h⟩ := hx
  have hx := uncons h; clear h; obtain ⟨u184, v, rfl, h⟩ := hx
  have hx := uncons h; clear h; obtain ⟨u185, v, rfl, h⟩ := hx
  have hx := uncons h; clear h; obtain ⟨u186, v, rfl, h⟩ := hx
  have hx := uncons h; clear h; obtain ⟨u187, v, rfl, h⟩ := hx
  have hx := uncons h; clear h; obtain ⟨u188, v, rfl, h⟩ := hx
  have hx := uncons h; clear h; obtain ⟨u189, v, rfl, h⟩ := hx
  have hx := uncons h; clear h; obtain ⟨u190, v, rfl, h⟩ := hx
  obtain rfl : v = [] := List.eq_nil_of_length_eq_zero h
  obtain rfl : u0 = v0 := Option.some.inj h0
  obtain rfl : u10 = v10 := Option.some.inj h10
  exact hq _ _ _ _ _ _ _ _ _ _ _ _ _ _ _ _ _ _ _ _ _ _ _ _ _ _ _ _ _ _ _ _ _ _ _ _ _ _ _ _ _ _ _ _ _ _ _ _ _ _ _ _ _ _ _ _ _ _ _ _ _ _ _ _ _ _ _ _ _ _ _ _ _ _ _ _ _ _ _ _ _ _ _ _ _ _ _ _ _ _ _ _ _ _ _ _ _ _ _ _ _ _ _ _ _ _ _ _ _ _ _ _ _ _ _ _ _ _ _ _ _ _ _ _ _ _ _ _ _ _ _ _ _ _ _ _ _ _ _ _ _ _ _ _ _ _ _ _ _ _ _ _ _ _ _ _ _ _ _ _ _ _ _ _ _ _ _ _ _ _ _ _ _ _ _ _ _ _ _ _ _ _ _ _ _ _ _ _ _

/-- A block that holds texts. -/
def Blk (W : World) (b : Nat) (ss : List ByteArray) : Prop := ∀ i, (h : i < ss.length) → W.cell? ⟨b, i, none⟩ = some (.string ss[i])
theorem Blk.gw {W W' : World} {b : Nat} {ss : List ByteArray} (hb : Gw W W') (h : Blk W b ss) : Blk W' b ss := fun i hi => cell_gw hb (h i hi)
theorem Blk.drew {W : World} {b : Nat} {ss : List ByteArray} (h : Blk W b ss) : Blk W.drew b ss := h
theorem Blk.alloc {W : World} {b : Nat} {ss : List ByteArray} (o : Obj) (h : Blk W b ss) : Blk (W.alloc o) b ss := fun i hi => cell_alloc_l o (h i hi)
theorem Blk.newAt {W : World} {b : Nat} {vs : Array Value} {t : TypeId} (ss : List ByteArray) (hv : vs = (ss.map Value.string).toArray) (h : W.heap.size = b) : Blk (W.alloc (.cells vs t)) b ss := by
  subst h hv
  intro i hi
  rw [World.cell?_alloc_new]; simp [hi]
theorem Blk.strs {W : World} {b : Nat} {ss : List ByteArray} (h : Blk W b ss) (hl : ss.length ≤ 100) (hs : ∀ s ∈ ss, s.size ≤ 9223372036854775807) : Strs W (some ⟨b, 0, none⟩) ss.length ss := strs5 h hl hs
theorem of_blk (b cap n : Nat) (ss : List ByteArray) (w : World) (hn : ss.length = n) (h : Blk w b ss) (hs : ∀ s ∈ ss, s.size ≤ 1000) (hl : n ≤ 100) (A : Int) (hA : Sm (bytesOf ss) = A) :
    Calls Try.prog 16 #[.slice (some ⟨b, 0, none⟩) n cap] w fun e W' => e = .returned (.int .u16 A) ∧ Gw w W' := by
  subst hn hA
  exact of _ _ _ _ _ (h.strs hl (fun s hs' => by have := hs s hs'; omega))

theorem wsum_zero' (l : List UInt8) : wsum (l ++ [0]) = wsum l := by
  match l with
  | [] => simp [wsum]
  | [a] => simp [wsum]
  | a :: b :: r => simp only [List.cons_append, wsum, wsum_zero' r]
theorem sm_zero (l : List UInt8) : Sm (l ++ [0]) = Sm l := by unfold Sm; rw [wsum_zero']
theorem sm_zeros (l : List UInt8) : Sm (l ++ [0, 0]) = Sm l := by
  rw [show l ++ [0, 0] = (l ++ [0]) ++ [0] by simp, sm_zero, sm_zero]
theorem fo_add (x y : Int) (hx : 0 ≤ x) (hy : 0 ≤ y) : Fo (Fo x + Fo y) = Fo (x + y) := by
  unfold Fo
  split <;> split <;> split <;> split <;> omega
theorem sm_add (l r : List UInt8) (h : l.length % 2 = 0) (hl : l.length ≤ 1000) (hr : r.length ≤ 1000) : Fo (Sm l + Sm r) = Sm (l ++ r) := by
  rw [sm_fo l (by omega), sm_fo r (by omega), sm_fo _ (by simp; omega), wsum_append l r h]
  exact fo_add _ _ (wsum_range l).1 (wsum_range r).1
theorem sm_swap (l r : List UInt8) (h : l.length % 2 = 0) (h' : r.length % 2 = 0) : Sm (r ++ l) = Sm (l ++ r) := by
  unfold Sm; rw [wsum_append l r h, wsum_append r l h', Int.add_comm]
theorem wordAt_other (l : List UInt8) (x y : Nat) (h : x ≠ y) (c d : UInt8) : wordAt (setw l x c d) y = wordAt l y := by
  unfold wordAt setw
  simp only [List.getD_eq_getElem?_getD]
  rw [List.getElem?_set_ne (by omega), List.getElem?_set_ne (by omega), List.getElem?_set_ne (by omega), List.getElem?_set_ne (by omega)]
/-- Two words that change places. -/
theorem sm_words (l : List UInt8) (x y : Nat) (hx : 2 * x + 1 < l.length) (hy : 2 * y + 1 < l.length) (a b c d : UInt8) (hw : wordAt l x = (c.toNat : Int) * 256 + d.toNat) (hw' : wordAt l y = (a.toNat : Int) * 256 + b.toNat) :
    Sm (setw (setw l x a b) y c d) = Sm l := by
  unfold Sm
  rw [wsum_setw _ y (by rw [setw_length]; exact hy), wsum_setw l x hx]
  by_cases h : x = y
  · subst h
    rw [wordAt_setw l x hx]
    congr 1; congr 1; omega
  · rw [wordAt_other l x y h]
    congr 1; congr 1; omega
end Go.Proofs.Ytidpmlifodpjlaa.Sm
