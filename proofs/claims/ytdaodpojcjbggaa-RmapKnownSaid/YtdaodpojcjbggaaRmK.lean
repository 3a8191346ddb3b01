/- The walk of RmapKnown (printed by rmapknown.py). -/
import Derived.Test.YtdaodpojcjbggaaRmJ
import Derived.Deep.RegionHeld3
namespace Go.Proofs.Ytdaodpojcjbggaa.Rm
open Go.RowKit Go.Proofs.Ytdaodpojcjbggaa.Ln
set_option linter.unusedVariables false
set_option linter.unusedSimpArgs false
set_option maxRecDepth 100000 in
set_option maxHeartbeats 8000000 in
theorem rmapKnown (w : World) : Calls Try.prog 11 #[] w fun e w' => e = .returned (.bool true) ∧ Gw w w' := by
  have HG : Hid (Gw w w) := Lib.hid (Fr.refl _ _)
  go_enter Try.func11, Try.ntmps11
  go_wp2_with fail
  refine (new_ (w0 := w) (H := []) HG.out (by simp) 2048 (by omega)).mono ?_
  rintro e w0 ⟨xT, rfl, hx1, hx2, hg, ht⟩
  have HNG := Lib.hid (gw_trans HG.out hg); clear HG hg; have HG := HNG; clear HNG
  have HT := Lib.hid ht; clear ht hx1 hx2
  go_wp2_with fail
  refine (new_ (w0 := w) (H := [xT]) HG.out HT.out.2.2.1 1 (by omega)).mono ?_
  rintro e w1 ⟨xU, rfl, hx1, hx2, hg, ht⟩
  have neTU : xT ≠ xU := by have := HT.out.2.2.1 xT (by simp); omega
  have neUT : xU ≠ xT := Ne.symm neTU
  have HNT := Lib.hid (HT.out.more hg hx1 hx2); clear HT; have HT := HNT; clear HNT
  have HNG := Lib.hid (gw_trans HG.out hg); clear HG hg; have HG := HNG; clear HNG
  have HU := Lib.hid ht; clear ht hx1 hx2
  go_wp2_with fail
  refine (m_ _ _ _ _).mono ?_
  rintro e w2 ⟨rfl, hg⟩
  have HNT := Lib.hid (HT.out.gw hg); clear HT; have HT := HNT; clear HNT
  have HNU := Lib.hid (HU.out.gw hg); clear HU; have HU := HNU; clear HNU
  have HNG := Lib.hid (gw_trans HG.out hg); clear HG hg; have HG := HNG; clear HNG
  go_wp2_with fail
  (with_reducible refine (put_n HT.out 2047 4611686018427387904 2048 0 ?_ true [⟨2047, 4611686018427387904, 2048, 0⟩] ?_ ?_).mono ?_)
  (· unfold Wf; simp)
  (· decide)
  (· decide)
  rintro e w3 ⟨rfl, ht, hf⟩
  have HNU := Lib.hid (HU.out.fx HT.out.1 neUT hf); clear HU; have HU := HNU; clear HNU
  have HNG := Lib.hid (gw_fx HG.out HT.out.2.1 hf); clear HG; have HG := HNG; clear HNG
  clear HT hf; have HT := Lib.hid ht; clear ht
  go_wp2_with fail
  refine (m_ _ _ _ _).mono ?_
  rintro e w4 ⟨rfl, hg⟩
  have HNT := Lib.hid (HT.out.gw hg); clear HT; have HT := HNT; clear HNT
  have HNU := Lib.hid (HU.out.gw hg); clear HU; have HU := HNU; clear HNU
  have HNG := Lib.hid (gw_trans HG.out hg); clear HG hg; have HG := HNG; clear HNG
  go_wp2_with fail
  (with_reducible refine (put_n HT.out 2048 0 1 0 ?_ false [⟨2047, 4611686018427387904, 2048, 0⟩] ?_ ?_).mono ?_)
  (· unfold Wf; simp)
  (· decide)
  (· decide)
  rintro e w5 ⟨rfl, ht, hf⟩
  have HNU := Lib.hid (HU.out.fx HT.out.1 neUT hf); clear HU; have HU := HNU; clear HNU
  have HNG := Lib.hid (gw_fx HG.out HT.out.2.1 hf); clear HG; have HG := HNG; clear HNG
  clear HT hf; have HT := Lib.hid ht; clear ht
  go_wp2_with fail
  refine (m_ _ _ _ _).mono ?_
  rintro e w6 ⟨rfl, hg⟩
  have HNT := Lib.hid (HT.out.gw hg); clear HT; have HT := HNT; clear HNT
  have HNU := Lib.hid (HU.out.gw hg); clear HU; have HU := HNU; clear HNU
  have HNG := Lib.hid (gw_trans HG.out hg); clear HG hg; have HG := HNG; clear HNG
  go_wp2_with fail
  (with_reducible refine (put_n HT.out (-1) 0 1 0 ?_ false [⟨2047, 4611686018427387904, 2048, 0⟩] ?_ ?_).mono ?_)
  (· unfold Wf; simp)
  (· decide)
  (· decide)
  rintro e w7 ⟨rfl, ht, hf⟩
  have HNU := Lib.hid (HU.out.fx HT.out.1 neUT hf); clear HU; have HU := HNU; clear HNU
  have HNG := Lib.hid (gw_fx HG.out HT.out.2.1 hf); clear HG; have HG := HNG; clear HNG
  clear HT hf; have HT := Lib.hid ht; clear ht
  go_wp2_with fail
  refine (m_ _ _ _ _).mono ?_
  rintro e w8 ⟨rfl, hg⟩
  have HNT := Lib.hid (HT.out.gw hg); clear HT; have HT := HNT; clear HNT
  have HNU := Lib.hid (HU.out.gw hg); clear HU; have HU := HNU; clear HNU
  have HNG := Lib.hid (gw_trans HG.out hg); clear HG hg; have HG := HNG; clear HNG
  go_wp2_with fail
  (with_reducible refine (put_n HT.out 4611686018427387904 0 1 0 ?_ false [⟨2047, 4611686018427387904, 2048, 0⟩] ?_ ?_).mono ?_)
  (· unfold Wf; simp)
  (· decide)
  (· decide)
  rintro e w9 ⟨rfl, ht, hf⟩
  have HNU := Lib.hid (HU.out.fx HT.out.1 neUT hf); clear HU; have HU := HNU; clear HNU
  have HNG := Lib.hid (gw_fx HG.out HT.out.2.1 hf); clear HG; have HG := HNG; clear HNG
  clear HT hf; have HT := Lib.hid ht; clear ht
  go_wp2_with fail
  refine (m_ _ _ _ _).mono ?_
  rintro e w10 ⟨rfl, hg⟩
  have HNT := Lib.hid (HT.out.gw hg); clear HT; have HT := HNT; clear HNT
  have HNU := Lib.hid (HU.out.gw hg); clear HU; have HU := HNU; clear HNU
  have HNG := Lib.hid (gw_trans HG.out hg); clear HG hg; have HG := HNG; clear HNG
  go_wp2_with fail
  (with_reducible refine (put_n HT.out (-9223372036854775808) 0 1 0 ?_ false [⟨2047, 4611686018427387904, 2048, 0⟩] ?_ ?_).mono ?_)
  (· unfold Wf; simp)
  (· decide)
  (· decide)
  rintro e w11 ⟨rfl, ht, hf⟩
  have HNU := Lib.hid (HU.out.fx HT.out.1 neUT hf); clear HU; have HU := HNU; clear HNU
  have HNG := Lib.hid (gw_fx HG.out HT.out.2.1 hf); clear HG; have HG := HNG; clear HNG
  clear HT hf; have HT := Lib.hid ht; clear ht
  go_wp2_with fail
  refine (m_ _ _ _ _).mono ?_
  rintro e w12 ⟨rfl, hg⟩
  have HNT := Lib.hid (HT.out.gw hg); clear HT; have HT := HNT; clear HNT
  have HNU := Lib.hid (HU.out.gw hg); clear HU; have HU := HNU; clear HNU
  have HNG := Lib.hid (gw_trans HG.out hg); clear HG hg; have HG := HNG; clear HNG
  go_wp2_with fail
  (with_reducible refine (put_n HT.out 0 0 2049 0 ?_ false [⟨2047, 4611686018427387904, 2048, 0⟩] ?_ ?_).mono ?_)
  (· unfold Wf; simp)
  (· decide)
  (· decide)
  rintro e w13 ⟨rfl, ht, hf⟩
  have HNU := Lib.hid (HU.out.fx HT.out.1 neUT hf); clear HU; have HU := HNU; clear HNU
  have HNG := Lib.hid (gw_fx HG.out HT.out.2.1 hf); clear HG; have HG := HNG; clear HNG
  clear HT hf; have HT := Lib.hid ht; clear ht
  go_wp2_with fail
  refine (m_ _ _ _ _).mono ?_
  rintro e w14 ⟨rfl, hg⟩
  have HNT := Lib.hid (HT.out.gw hg); clear HT; have HT := HNT; clear HNT
  have HNU := Lib.hid (HU.out.gw hg); clear HU; have HU := HNU; clear HNU
  have HNG := Lib.hid (gw_trans HG.out hg); clear HG hg; have HG := HNG; clear HNG
  go_wp2_with fail
  (with_reducible refine (put_n HT.out 0 0 (-9223372036854775808) 0 ?_ false [⟨2047, 4611686018427387904, 2048, 0⟩] ?_ ?_).mono ?_)
  (· unfold Wf; simp)
  (· decide)
  (· decide)
  rintro e w15 ⟨rfl, ht, hf⟩
  have HNU := Lib.hid (HU.out.fx HT.out.1 neUT hf); clear HU; have HU := HNU; clear HNU
  have HNG := Lib.hid (gw_fx HG.out HT.out.2.1 hf); clear HG; have HG := HNG; clear HNG
  clear HT hf; have HT := Lib.hid ht; clear ht
  go_wp2_with fail
  refine (cut_n HT.out (-5) (by omega) 0 [⟨2047, 4611686018427387904, 2048, 0⟩] (by decide) (by decide)).mono ?_
  rintro e w16 ⟨rfl, ht, hf⟩
  have HNU := Lib.hid (HU.out.fx HT.out.1 neUT hf); clear HU; have HU := HNU; clear HNU
  have HNG := Lib.hid (gw_fx HG.out HT.out.2.1 hf); clear HG; have HG := HNG; clear HNG
  clear HT hf; have HT := Lib.hid ht; clear ht
  go_wp2_with fail
  refine (begin_ HT.out).mono ?_
  rintro e w17 ⟨rfl, rfl⟩
  go_wp2_with fail
  refine (len_ HT.out).mono ?_
  rintro e w18 ⟨rfl, rfl⟩
  go_wp2_with fail
  refine (cut_n HT.out (9223372036854775807) (by omega) 2305843009213693952 [] (by decide) (by decide)).mono ?_
  rintro e w19 ⟨rfl, ht, hf⟩
  have HNU := Lib.hid (HU.out.fx HT.out.1 neUT hf); clear HU; have HU := HNU; clear HNU
  have HNG := Lib.hid (gw_fx HG.out HT.out.2.1 hf); clear HG; have HG := HNG; clear HNG
  clear HT hf; have HT := Lib.hid ht; clear ht
  go_wp2_with fail
  refine (begin_ HT.out).mono ?_
  rintro e w20 ⟨rfl, rfl⟩
  go_wp2_with fail
  refine (len_ HT.out).mono ?_
  rintro e w21 ⟨rfl, rfl⟩
  go_wp2_with fail
  refine (m_ _ _ _ _).mono ?_
  rintro e w22 ⟨rfl, hg⟩
  have HNT := Lib.hid (HT.out.gw hg); clear HT; have HT := HNT; clear HNT
  have HNU := Lib.hid (HU.out.gw hg); clear HU; have HU := HNU; clear HNU
  have HNG := Lib.hid (gw_trans HG.out hg); clear HG hg; have HG := HNG; clear HNG
  go_wp2_with fail
  (with_reducible refine (put_n HT.out 2305843009213695999 0 1 0 ?_ true [⟨2305843009213695999, 0, 1, 0⟩] ?_ ?_).mono ?_)
  (· unfold Wf; simp)
  (· decide)
  (· decide)
  rintro e w23 ⟨rfl, ht, hf⟩
  have HNU := Lib.hid (HU.out.fx HT.out.1 neUT hf); clear HU; have HU := HNU; clear HNU
  have HNG := Lib.hid (gw_fx HG.out HT.out.2.1 hf); clear HG; have HG := HNG; clear HNG
  clear HT hf; have HT := Lib.hid ht; clear ht
  go_wp2_with fail
  refine (m_ _ _ _ _).mono ?_
  rintro e w24 ⟨rfl, hg⟩
  have HNT := Lib.hid (HT.out.gw hg); clear HT; have HT := HNT; clear HNT
  have HNU := Lib.hid (HU.out.gw hg); clear HU; have HU := HNU; clear HNU
  have HNG := Lib.hid (gw_trans HG.out hg); clear HG hg; have HG := HNG; clear HNG
  go_wp2_with fail
  (with_reducible refine (put_n HT.out 2305843009213696000 0 1 0 ?_ false [⟨2305843009213695999, 0, 1, 0⟩] ?_ ?_).mono ?_)
  (· unfold Wf; simp)
  (· decide)
  (· decide)
  rintro e w25 ⟨rfl, ht, hf⟩
  have HNU := Lib.hid (HU.out.fx HT.out.1 neUT hf); clear HU; have HU := HNU; clear HNU
  have HNG := Lib.hid (gw_fx HG.out HT.out.2.1 hf); clear HG; have HG := HNG; clear HNG
  clear HT hf; have HT := Lib.hid ht; clear ht
  go_wp2_with fail
  refine (m_ _ _ _ _).mono ?_
  rintro e w26 ⟨rfl, hg⟩
  have HNT := Lib.hid (HT.out.gw hg); clear HT; have HT := HNT; clear HNT
  have HNU := Lib.hid (HU.out.gw hg); clear HU; have HU := HNU; clear HNU
  have HNG := Lib.hid (gw_trans HG.out hg); clear HG hg; have HG := HNG; clear HNG
  go_wp2_with fail
  (with_reducible refine (put_n HU.out 0 5 1 0 ?_ true [⟨0, 5, 1, 0⟩] ?_ ?_).mono ?_)
  (· unfold Wf; simp)
  (· decide)
  (· decide)
  rintro e w27 ⟨rfl, ht, hf⟩
  have HNT := Lib.hid (HT.out.fx HU.out.1 neTU hf); clear HT; have HT := HNT; clear HNT
  have HNG := Lib.hid (gw_fx HG.out HU.out.2.1 hf); clear HG; have HG := HNG; clear HNG
  clear HU hf; have HU := Lib.hid ht; clear ht
  go_wp2_with fail
  refine (m_ _ _ _ _).mono ?_
  rintro e w28 ⟨rfl, hg⟩
  have HNT := Lib.hid (HT.out.gw hg); clear HT; have HT := HNT; clear HNT
  have HNU := Lib.hid (HU.out.gw hg); clear HU; have HU := HNU; clear HNU
  have HNG := Lib.hid (gw_trans HG.out hg); clear HG hg; have HG := HNG; clear HNG
  go_wp2_with fail
  (with_reducible refine (put_n HU.out 1 0 1 0 ?_ false [⟨0, 5, 1, 0⟩] ?_ ?_).mono ?_)
  (· unfold Wf; simp)
  (· decide)
  (· decide)
  rintro e w29 ⟨rfl, ht, hf⟩
  have HNT := Lib.hid (HT.out.fx HU.out.1 neTU hf); clear HT; have HT := HNT; clear HNT
  have HNG := Lib.hid (gw_fx HG.out HU.out.2.1 hf); clear HG; have HG := HNG; clear HNG
  clear HU hf; have HU := Lib.hid ht; clear ht
  go_wp2_with fail
  refine (m_ _ _ _ _).mono ?_
  rintro e w30 ⟨rfl, hg⟩
  have HNT := Lib.hid (HT.out.gw hg); clear HT; have HT := HNT; clear HNT
  have HNU := Lib.hid (HU.out.gw hg); clear HU; have HU := HNU; clear HNU
  have HNG := Lib.hid (gw_trans HG.out hg); clear HG hg; have HG := HNG; clear HNG
  go_wp2_with fail
  (with_reducible refine (put_n HU.out 0 5 1 0 ?_ false [⟨0, 5, 1, 0⟩] ?_ ?_).mono ?_)
  (· unfold Wf; simp)
  (· decide)
  (· decide)
  rintro e w31 ⟨rfl, ht, hf⟩
  have HNT := Lib.hid (HT.out.fx HU.out.1 neTU hf); clear HT; have HT := HNT; clear HNT
  have HNG := Lib.hid (gw_fx HG.out HU.out.2.1 hf); clear HG; have HG := HNG; clear HNG
  clear HU hf; have HU := Lib.hid ht; clear ht
  go_wp2_with fail
  refine (cut_n HU.out (1) (by omega) 1 [] (by decide) (by decide)).mono ?_
  rintro e w32 ⟨rfl, ht, hf⟩
  have HNT := Lib.hid (HT.out.fx HU.out.1 neTU hf); clear HT; have HT := HNT; clear HNT
  have HNG := Lib.hid (gw_fx HG.out HU.out.2.1 hf); clear HG; have HG := HNG; clear HNG
  clear HU hf; have HU := Lib.hid ht; clear ht
  go_wp2_with fail
  refine (at_n HU.out 0 ⟨0, 0, 0, 0⟩ false (by decide) (by decide)).mono ?_
  rintro e w33 ⟨rfl, hg⟩
  have HNT := Lib.hid (HT.out.gw hg); clear HT; have HT := HNT; clear HNT
  have HNU := Lib.hid (HU.out.gw hg); clear HU; have HU := HNU; clear HNU
  have HNG := Lib.hid (gw_trans HG.out hg); clear HG hg; have HG := HNG; clear HNG
  go_wp2_with fail
  have HP := Lib.hid (map_new w33 ⟨0, 0, 0, 0⟩ w33.heap.size rfl 60)
  have hg := gw_alloc1 w33 (.cells #[.int .i64 0, .int .i64 0, .int .i64 0, .int .u16 0] 60)
  have nePT : w33.heap.size ≠ xT := by have := HT.out.2.2.1 xT HT.out.1; omega
  have nePU : w33.heap.size ≠ xU := by have := HU.out.2.2.1 xU HU.out.1; omega
  have HNT := Lib.hid (HT.out.gw hg); clear HT; have HT := HNT; clear HNT
  have HNU := Lib.hid (HU.out.gw hg); clear HU; have HU := HNU; clear HNU
  have HNG := Lib.hid (gw_trans HG.out hg); clear HG hg; have HG := HNG; clear HNG
  go_wp2_with fail
  refine (cutNil 4 _).mono ?_
  rintro e w34 ⟨rfl, rfl⟩
  go_wp2_with fail
  refine (atNil 0 _).mono ?_
  rintro e w35 ⟨rfl, hg⟩
  have HNT := Lib.hid (HT.out.gw hg); clear HT; have HT := HNT; clear HNT
  have HNU := Lib.hid (HU.out.gw hg); clear HU; have HU := HNU; clear HNU
  have HNP := Lib.hid (mapat_gw HP.out hg); clear HP; have HP := HNP; clear HNP
  have HNG := Lib.hid (gw_trans HG.out hg); clear HG hg; have HG := HNG; clear HNG
  go_wp2_with fail
  have HQ := Lib.hid (map_new w35 ⟨0, 0, 0, 0⟩ w35.heap.size rfl 60)
  have hg := gw_alloc1 w35 (.cells #[.int .i64 0, .int .i64 0, .int .i64 0, .int .u16 0] 60)
  have neQT : w35.heap.size ≠ xT := by have := HT.out.2.2.1 xT HT.out.1; omega
  have neQU : w35.heap.size ≠ xU := by have := HU.out.2.2.1 xU HU.out.1; omega
  have HNT := Lib.hid (HT.out.gw hg); clear HT; have HT := HNT; clear HNT
  have HNU := Lib.hid (HU.out.gw hg); clear HU; have HU := HNU; clear HNU
  have HNP := Lib.hid (mapat_gw HP.out hg); clear HP; have HP := HNP; clear HNP
  have HNG := Lib.hid (gw_trans HG.out hg); clear HG hg; have HG := HNG; clear HNG
  go_wp2_with fail
  refine (works _).mono ?_
  rintro e w36 ⟨rfl, hg⟩
  have HNT := Lib.hid (HT.out.gw hg); clear HT; have HT := HNT; clear HNT
  have HNU := Lib.hid (HU.out.gw hg); clear HU; have HU := HNU; clear HNU
  have HNP := Lib.hid (mapat_gw HP.out hg); clear HP; have HP := HNP; clear HNP
  have HNQ := Lib.hid (mapat_gw HQ.out hg); clear HQ; have HQ := HNQ; clear HNQ
  have HNG := Lib.hid (gw_trans HG.out hg); clear HG hg; have HG := HNG; clear HNG
  obtain ⟨p0, p1, p2, p3⟩ := HP.out
  obtain ⟨q0, q1, q2, q3⟩ := HQ.out
  go_wp2_with fail
  refine (len_ HU.out).mono ?_
  rintro e w37 ⟨rfl, rfl⟩
  go_wp2_with fail
  refine (m_ _ _ _ _).mono ?_
  rintro e w38 ⟨rfl, hg⟩
  have HNT := Lib.hid (HT.out.gw hg); clear HT; have HT := HNT; clear HNT
  have HNU := Lib.hid (HU.out.gw hg); clear HU; have HU := HNU; clear HNU
  have HNP := Lib.hid (mapat_gw HP.out hg); clear HP; have HP := HNP; clear HNP
  have HNQ := Lib.hid (mapat_gw HQ.out hg); clear HQ; have HQ := HNQ; clear HNQ
  have HNG := Lib.hid (gw_trans HG.out hg); clear HG hg; have HG := HNG; clear HNG
  go_wp2_with fail
  refine (putNil ⟨_, _, _, _⟩ _).mono ?_
  rintro e w39 ⟨rfl, hg⟩
  have HNT := Lib.hid (HT.out.gw hg); clear HT; have HT := HNT; clear HNT
  have HNU := Lib.hid (HU.out.gw hg); clear HU; have HU := HNU; clear HNU
  have HNP := Lib.hid (mapat_gw HP.out hg); clear HP; have HP := HNP; clear HNP
  have HNQ := Lib.hid (mapat_gw HQ.out hg); clear HQ; have HQ := HNQ; clear HNQ
  have HNG := Lib.hid (gw_trans HG.out hg); clear HG hg; have HG := HNG; clear HNG
  obtain ⟨p0, p1, p2, p3⟩ := HP.out
  obtain ⟨q0, q1, q2, q3⟩ := HQ.out
  go_wp2_with fail
  refine (beginNil _).mono ?_
  rintro e w40 ⟨rfl, rfl⟩
  go_wp2_with fail
  refine (lenNil _).mono ?_
  rintro e w41 ⟨rfl, rfl⟩
  go_wp2_with fail
  refine (allNil _).mono ?_
  rintro e w42 ⟨rfl, rfl⟩
  go_wp2_with fail
  go_ret
  exact ⟨rfl, HG.out⟩
end Go.Proofs.Ytdaodpojcjbggaa.Rm
