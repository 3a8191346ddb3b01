/- Frames taken apart (printed by splitn.py). -/
import Derived.Test.YtidpmlifodpjlaaSumK
namespace Go.Proofs.Ytidpmlifodpjlaa.Sm
set_option linter.unusedVariables false
theorem split12 {l : List Value} {n : Nat} (h : l.length = n + 12) : ∃ v0 v1 v2 v3 v4 v5 v6 v7 v8 v9 v10 v11 l', l = v0::v1::v2::v3::v4::v5::v6::v7::v8::v9::v10::v11::l' ∧ l'.length = n := by
  match l, h with
  | v0::v1::v2::v3::v4::v5::v6::v7::v8::v9::v10::v11::l', h => exact ⟨v0, v1, v2, v3, v4, v5, v6, v7, v8, v9, v10, v11, l', rfl, by simpa using h⟩
set_option maxRecDepth 10000 in
theorem frame108 (R : List Value → Prop) (v7 v8 v75 : Value) (hq : ∀ v0 v1 v2 v3 v4 v5 v6 v9 v10 v11 v12 v13 v14 v15 v16 v17 v18 v19 v20 v21 v22 v23 v24 v25 v26 v27 v28 v29 v30 v31 v32 v33 v34 v35 v36 v37 v38 v39 v40 v41 v42 v43 v44 v45 v46 v47 v48 v49 v50 v51 v52 v53 v54 v55 v56 v57 v58 v59 v60 v61 v62 v63 v64 v65 v66 v67 v68 v69 v70 v71 v72 v73 v74 v76 v77 v78 v79 v80 v81 v82 v83 v84 v85 v86 v87 v88 v89 v90 v91 v92 v93 v94 v95 v96 v97 v98 v99 v100 v101 v102 v103 v104 v105 v106 v107 : Value, R (v0 :: v1 :: v2 :: v3 :: v4 :: v5 :: v6 :: v7 :: v8 :: v9 :: v10 :: v11 :: v12 :: v13 :: v14 :: v15 :: v16 :: v17 :: v18 :: v19 :: v20 :: v21 :: v22 :: v23 :: v24 :: v25 :: v26 :: v27 :: v28 :: v29 :: v30 :: v31 :: v32 :: v33 :: v34 :: v35 :: v36 :: v37 :: v38 :: v39 :: v40 :: v41 :: v42 :: v43 :: v44 :: v45 :: v46 :: v47 :: v48 :: v49 :: v50 :: v51 :: v52 :: v53 :: v54 :: v55 :: v56 :: v57 :: v58 :: v59 :: v60 :: v61 :: v62 :: v63 :: v64 :: v65 :: v66 :: v67 :: v68 :: v69 :: v70 :: v71 :: v72 :: v73 :: v74 :: v75 :: v76 :: v77 :: v78 :: v79 :: v80 :: v81 :: v82 :: v83 :: v84 :: v85 :: v86 :: v87 :: v88 :: v89 :: v90 :: v91 :: v92 :: v93 :: v94 :: v95 :: v96 :: v97 :: v98 :: v99 :: v100 :: v101 :: v102 :: v103 :: v104 :: v105 :: v106 :: v107 :: [])) (v : List Value) (h : v.length = 108) (h7 : v[7]? = some v7) (h8 : v[8]? = some v8) (h75 : v[75]? = some v75) : R v := by
  have hx := split12 h; clear h; obtain ⟨u0, u1, u2, u3, u4, u5, u6, u7, u8, u9, u10, u11, v, rfl, h⟩ := hx
  have hx := split12 h; clear h; obtain ⟨u12, u13, u14, u15, u16, u17, u18, u19, u20, u21, u22, u23, v, rfl, h⟩ := hx
  have hx := split12 h; clear h; obtain ⟨u24, u25, u26, u27, u28, u29, u30, u31, u32, u33, u34, u35, v, rfl, h⟩ := hx
  have hx := split12 h; clear h; obtain ⟨u36, u37, u38, u39, u40, u41, u42, u43, u44, u45, u46, u47, v, rfl, h⟩ := hx
  have hx := split12 h; clear h; obtain ⟨u48, u49, u50, u51, u52, u53, u54, u55, u56, u57, u58, u59, v, rfl, h⟩ := hx
  have hx := split12 h; clear h; obtain ⟨u60, u61, u62, u63, u64, u65, u66, u67, u68, u69, u70, u71, v, rfl, h⟩ := hx
  have hx := split12 h; clear h; obtain ⟨u72, u73, u74, u75, u76, u77, u78, u79, u80, u81, u82, u83, v, rfl, h⟩ := hx
  have hx := split12 h; clear h; obtain ⟨u84, u85, u86, u87, u88, u89, u90, u91, u92, u93, u94, u95, v, rfl, h⟩ := hx
  have hx := split12 h; clear h; obtain ⟨u96, u97, u98, u99, u100, u101, u102, u103, u104, u105, u106, u107, v, rfl, h⟩ := hx
  obtain rfl : v = [] := List.eq_nil_of_length_eq_zero h
  obtain rfl : u7 = v7 := Option.some.inj h7
  obtain rfl : u8 = v8 := Option.some.inj h8
  obtain rfl : u75 = v75 := Option.some.inj h75
  exact hq _ _ _ _ _ _ _ _ _ _ _ _ _ _ _ _ _ _ _ _ _ _ _ _ _ _ _ _ _ _ _ _ _ _ _ _ _ _ _ _ _ _ _ _ _ _ _ _ _ _ _ _ _ _ _ _ _ _ _ _ _ _ _ _ _ _ _ _ _ _ _ _ _ _ _ _ _ _ _ _ _ _ _ _ _ _ _ _ _ _ _ _ _ _ _ _ _ _ _ _ _ _ _ _ _
end Go.Proofs.Ytidpmlifodpjlaa.Sm
