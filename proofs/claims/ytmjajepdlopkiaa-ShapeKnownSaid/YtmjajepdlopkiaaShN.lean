/- The walk of ShapeKnown (printed by shapeknown.py). -/
import Derived.Test.YtmjajepdlopkiaaShI
namespace Go.Proofs.Ytmjajepdlopkiaa.Sh
open Go.RowKit
set_option linter.unusedVariables false
set_option linter.unusedSimpArgs false

theorem manyNil (off : Int) (w : World) : Calls Try.prog 33 #[.pointer none, .int .i64 off] w fun e w' => e = .returned (.int .i64 0) ∧ Gw w w' := by
  have hz : setV (fun _ => false) = .agg #[.int .u64 0, .int .u64 0, .int .u64 0, .int .u64 0] := by simp only [setV, wd_none]; rfl
  have HZ := Lib.hid hz
  have he : ∀ w, (Op.equalIn 10000 84 (.agg #[.int .u64 0, .int .u64 0, .int .u64 0, .int .u64 0]) (.agg #[.int .u64 0, .int .u64 0, .int .u64 0, .int .u64 0])).run Try.prog w = .ok true w := fun w => eq4 0 0 0 0 w
  clear hz
  go_enter Try.func33, Try.ntmps33
  go_wp2_with fail
  refine (atNil _ _).mono ?_
  unfold SetP
  rw [HZ.out]
  rintro e w1 ⟨rfl, hg1⟩
  have HG1 := Lib.hid hg1
  clear hg1
  go_wp2_with fail
  go_ret
  exact ⟨rfl, gw_trans HG1.out (gw_alloc1 _ _)⟩
/-- What came in ShapeKnown. -/
def kC : Nat → Nat → Bool := und (und (fun _ _ => false) (brings 4294967293 4294967292 (bs [95, 95, 97, 98, 99, 100, 101, 102]))) (brings 4294967293 1073741824 (bs [102, 97, 114]))
theorem kh0 : row 4 kC (0) 97 = true := by decide +kernel
theorem kh1 : row 4 kC (3) 100 = true := by decide +kernel
theorem kh2 : row 4 kC (4) 101 = false := by decide +kernel
theorem kh3 : row 4 kC (-1) 95 = false := by decide +kernel
theorem kh4 : row 4 kC (0) 122 = false := by decide +kernel
theorem km0 : cnt (row 4 kC (0)) 256 = 1 := by decide +kernel
theorem km1 : cnt (row 4 kC (-1)) 256 = 0 := by decide +kernel
theorem km2 : cnt (row 4 kC (4)) 256 = 0 := by decide +kernel
theorem km3 : cnt (row 4 kC (4611686018427387904)) 256 = 0 := by decide +kernel
theorem kf0 : fitsF (fun off b => row 4 kC off b) [97, 98, 99, 100] [] (0) = true := by decide +kernel
theorem kf1 : fitsF (fun off b => row 4 kC off b) [97, 98, 99, 100, 101] [97, 98, 99, 100, 101] (0) = false := by decide +kernel
theorem kf2 : fitsF (fun off b => row 4 kC off b) [97, 98, 99, 100, 101] [97, 98, 99, 100, 101, 102] (4611686018427387904) = true := by decide +kernel
theorem kf3 : fitsF (fun off b => row 4 kC off b) [] [] (0) = true := by decide +kernel
theorem kf4 : fitsF (fun off b => row 4 kC off b) [] [120] (-9223372036854775808) = true := by decide +kernel
theorem kf5 : fitsF (fun off b => row 4 kC off b) [120] [] (-1) = false := by decide +kernel
theorem kf6 : fitsF (fun off b => row 4 kC off b) [120, 98] [] (1) = false := by decide +kernel
theorem kf7 : fitsF (fun off b => row 4 kC off b) [120, 98] [120] (1) = true := by decide +kernel
theorem kn0 : fitsF (fun _ _ => false) [97] [97, 98] (-1) = true := by decide +kernel
theorem kn1 : fitsF (fun _ _ => false) [97] [97, 98] (1) = true := by decide +kernel
theorem kn2 : fitsF (fun _ _ => false) [97] [97, 98] (0) = false := by decide +kernel
theorem kn3 : fitsF (fun _ _ => false) [] [] (0) = true := by decide +kernel
theorem fitsNil_eq (w : World) (r tx : ByteArray) (fell : Int) (hr : r.size ≤ 9223372036854775807) (ht : tx.size ≤ 9223372036854775807) (v : Bool) (hv : fitsF (fun _ _ => false) r.data.toList tx.data.toList fell = v) :
    Calls Try.prog 35 #[.pointer none, .string r, .string tx, .int .i64 fell] w fun e w' => e = .returned (.bool v) ∧ Gw w w' := (fitsNil w r tx fell hr ht).mono fun e w' ⟨he, hg⟩ => ⟨by rw [he, hv], hg⟩
set_option maxRecDepth 100000 in
set_option maxHeartbeats 8000000 in
theorem shapeKnown (w : World) : Calls Try.prog 10 #[] w fun e w' => e = .returned (.bool true) ∧ Gw w w' := by
  go_enter Try.func10, Try.ntmps10
  go_wp2_with fail
  refine (new_ 4294967293 4 (by omega) (by omega) _).mono ?_
  rintro e u0 ⟨X, g, rfl, hc, hX, hg, hgw⟩
  have HC := Lib.hid hc
  have HG := Lib.hid hgw
  have HGE := Lib.hid hg
  clear hc hgw hX hg
  go_wp2_with fail
  refine (newBad 0 0 (by omega) _).mono ?_
  rintro e w' ⟨rfl, rfl⟩
  go_wp2_with fail
  refine (newBad 0 65537 (by omega) _).mono ?_
  rintro e w' ⟨rfl, rfl⟩
  go_wp2_with fail
  refine (new_ 0 65536 (by omega) (by omega) _).mono ?_
  rintro e u1 ⟨X2, g2, rfl, _, _, _, hgw⟩
  have hc := HC.out.gw hgw
  have hgw := gw_trans HG.out hgw
  clear HC HG
  have HC := Lib.hid hc
  have HG := Lib.hid hgw
  clear hc hgw
  go_wp2_with fail
  refine (add_ HC.out _ _ _ _ _ _ _ _ _ 4294967292 (bs [95, 95, 97, 98, 99, 100, 101, 102]) (show (8 : Nat) ≤ 1000000 by omega)).mono ?_
  rintro e u2 ⟨rfl, hc, hf⟩
  have hgw := gw_fr HG.out HGE.out hf
  clear HC HG hf
  have HC := Lib.hid hc
  have HG := Lib.hid hgw
  clear hc hgw
  go_wp2_with fail
  refine (addSyn HC.out _ _ _ _ _ _ _ _ _ 4294967294 (bs [122])).mono ?_
  rintro e u3 ⟨rfl, hc, hf⟩
  have hgw := gw_fr HG.out HGE.out hf
  clear HC HG hf
  have HC := Lib.hid hc
  have HG := Lib.hid hgw
  clear hc hgw
  go_wp2_with fail
  refine (add_ HC.out _ _ _ _ _ _ _ _ _ 1073741824 (bs [102, 97, 114]) (show (3 : Nat) ≤ 1000000 by omega)).mono ?_
  rintro e u4 ⟨rfl, hc, hf⟩
  have hc : CameAt u4 X g 4 4294967293 4 kC := hc
  have hgw := gw_fr HG.out HGE.out hf
  clear HC HG hf
  have HC := Lib.hid hc
  have HG := Lib.hid hgw
  clear hc hgw
  go_wp2_with fail
  refine (has_eq HC.out (0) 97 (by omega) true kh0).mono ?_
  rintro e u5 ⟨rfl, hc, hgw⟩
  have hgw := gw_trans HG.out hgw
  clear HC HG
  have HC := Lib.hid hc
  have HG := Lib.hid hgw
  clear hc hgw
  go_wp2_with fail
  refine (has_eq HC.out (3) 100 (by omega) true kh1).mono ?_
  rintro e u6 ⟨rfl, hc, hgw⟩
  have hgw := gw_trans HG.out hgw
  clear HC HG
  have HC := Lib.hid hc
  have HG := Lib.hid hgw
  clear hc hgw
  go_wp2_with fail
  refine (has_eq HC.out (4) 101 (by omega) false kh2).mono ?_
  rintro e u7 ⟨rfl, hc, hgw⟩
  have hgw := gw_trans HG.out hgw
  clear HC HG
  have HC := Lib.hid hc
  have HG := Lib.hid hgw
  clear hc hgw
  go_wp2_with fail
  refine (has_eq HC.out (-1) 95 (by omega) false kh3).mono ?_
  rintro e u8 ⟨rfl, hc, hgw⟩
  have hgw := gw_trans HG.out hgw
  clear HC HG
  have HC := Lib.hid hc
  have HG := Lib.hid hgw
  clear hc hgw
  go_wp2_with fail
  refine (has_eq HC.out (0) 122 (by omega) false kh4).mono ?_
  rintro e u9 ⟨rfl, hc, hgw⟩
  have hgw := gw_trans HG.out hgw
  clear HC HG
  have HC := Lib.hid hc
  have HG := Lib.hid hgw
  clear hc hgw
  go_wp2_with fail
  refine (many_eq HC.out (0) 1 km0).mono ?_
  rintro e u10 ⟨rfl, hc, hgw⟩
  have hgw := gw_trans HG.out hgw
  clear HC HG
  have HC := Lib.hid hc
  have HG := Lib.hid hgw
  clear hc hgw
  go_wp2_with fail
  refine (many_eq HC.out (-1) 0 km1).mono ?_
  rintro e u11 ⟨rfl, hc, hgw⟩
  have hgw := gw_trans HG.out hgw
  clear HC HG
  have HC := Lib.hid hc
  have HG := Lib.hid hgw
  clear hc hgw
  go_wp2_with fail
  refine (many_eq HC.out (4) 0 km2).mono ?_
  rintro e u12 ⟨rfl, hc, hgw⟩
  have hgw := gw_trans HG.out hgw
  clear HC HG
  have HC := Lib.hid hc
  have HG := Lib.hid hgw
  clear hc hgw
  go_wp2_with fail
  refine (many_eq HC.out (4611686018427387904) 0 km3).mono ?_
  rintro e u13 ⟨rfl, hc, hgw⟩
  have hgw := gw_trans HG.out hgw
  clear HC HG
  have HC := Lib.hid hc
  have HG := Lib.hid hgw
  clear hc hgw
  go_wp2_with fail
  refine (fits_eq HC.out (bs [97, 98, 99, 100]) (bs []) (0) (by decide) (by decide) true kf0).mono ?_
  rintro e u14 ⟨rfl, hc, hgw⟩
  have hgw := gw_trans HG.out hgw
  clear HC HG
  have HC := Lib.hid hc
  have HG := Lib.hid hgw
  clear hc hgw
  go_wp2_with fail
  refine (fits_eq HC.out (bs [97, 98, 99, 100, 101]) (bs [97, 98, 99, 100, 101]) (0) (by decide) (by decide) false kf1).mono ?_
  rintro e u15 ⟨rfl, hc, hgw⟩
  have hgw := gw_trans HG.out hgw
  clear HC HG
  have HC := Lib.hid hc
  have HG := Lib.hid hgw
  clear hc hgw
  go_wp2_with fail
  refine (fits_eq HC.out (bs [97, 98, 99, 100, 101]) (bs [97, 98, 99, 100, 101, 102]) (4611686018427387904) (by decide) (by decide) true kf2).mono ?_
  rintro e u16 ⟨rfl, hc, hgw⟩
  have hgw := gw_trans HG.out hgw
  clear HC HG
  have HC := Lib.hid hc
  have HG := Lib.hid hgw
  clear hc hgw
  go_wp2_with fail
  refine (fits_eq HC.out (bs []) (bs []) (0) (by decide) (by decide) true kf3).mono ?_
  rintro e u17 ⟨rfl, hc, hgw⟩
  have hgw := gw_trans HG.out hgw
  clear HC HG
  have HC := Lib.hid hc
  have HG := Lib.hid hgw
  clear hc hgw
  go_wp2_with fail
  refine (fits_eq HC.out (bs []) (bs [120]) (-9223372036854775808) (by decide) (by decide) true kf4).mono ?_
  rintro e u18 ⟨rfl, hc, hgw⟩
  have hgw := gw_trans HG.out hgw
  clear HC HG
  have HC := Lib.hid hc
  have HG := Lib.hid hgw
  clear hc hgw
  go_wp2_with fail
  refine (fits_eq HC.out (bs [120]) (bs []) (-1) (by decide) (by decide) false kf5).mono ?_
  rintro e u19 ⟨rfl, hc, hgw⟩
  have hgw := gw_trans HG.out hgw
  clear HC HG
  have HC := Lib.hid hc
  have HG := Lib.hid hgw
  clear hc hgw
  go_wp2_with fail
  refine (fits_eq HC.out (bs [120, 98]) (bs []) (1) (by decide) (by decide) false kf6).mono ?_
  rintro e u20 ⟨rfl, hc, hgw⟩
  have hgw := gw_trans HG.out hgw
  clear HC HG
  have HC := Lib.hid hc
  have HG := Lib.hid hgw
  clear hc hgw
  go_wp2_with fail
  refine (fits_eq HC.out (bs [120, 98]) (bs [120]) (1) (by decide) (by decide) true kf7).mono ?_
  rintro e u21 ⟨rfl, hc, hgw⟩
  have hgw := gw_trans HG.out hgw
  clear HC HG
  have HC := Lib.hid hc
  have HG := Lib.hid hgw
  clear hc hgw
  go_wp2_with fail
  clear HC
  refine (addNil _ _ _ _ _ _ _ _ _ 0 false (bs [97]) _).mono ?_
  rintro e u22 ⟨rfl, hgw⟩
  have hgw := gw_trans HG.out hgw
  clear HG
  have HG := Lib.hid hgw
  clear hgw
  go_wp2_with fail
  refine (works _).mono ?_
  rintro e u23 ⟨rfl, hgw⟩
  have hgw := gw_trans HG.out hgw
  clear HG
  have HG := Lib.hid hgw
  clear hgw
  go_wp2_with fail
  refine (manyNil 0 _).mono ?_
  rintro e u24 ⟨rfl, hgw⟩
  have hgw := gw_trans HG.out hgw
  clear HG
  have HG := Lib.hid hgw
  clear hgw
  go_wp2_with fail
  refine (hasNil 0 97 (by omega) _).mono ?_
  rintro e u25 ⟨rfl, hgw⟩
  have hgw := gw_trans HG.out hgw
  clear HG
  have HG := Lib.hid hgw
  clear hgw
  go_wp2_with fail
  refine (copyNil _).mono ?_
  rintro e w' ⟨rfl, rfl⟩
  go_wp2_with fail
  refine (fitsNil_eq _ (bs [97]) (bs [97, 98]) (-1) (by decide) (by decide) true kn0).mono ?_
  rintro e u26 ⟨rfl, hgw⟩
  have hgw := gw_trans HG.out hgw
  clear HG
  have HG := Lib.hid hgw
  clear hgw
  go_wp2_with fail
  refine (fitsNil_eq _ (bs [97]) (bs [97, 98]) (1) (by decide) (by decide) true kn1).mono ?_
  rintro e u27 ⟨rfl, hgw⟩
  have hgw := gw_trans HG.out hgw
  clear HG
  have HG := Lib.hid hgw
  clear hgw
  go_wp2_with fail
  refine (fitsNil_eq _ (bs [97]) (bs [97, 98]) (0) (by decide) (by decide) false kn2).mono ?_
  rintro e u28 ⟨rfl, hgw⟩
  have hgw := gw_trans HG.out hgw
  clear HG
  have HG := Lib.hid hgw
  clear hgw
  go_wp2_with fail
  refine (fitsNil_eq _ (bs []) (bs []) (0) (by decide) (by decide) true kn3).mono ?_
  rintro e u29 ⟨rfl, hgw⟩
  have hgw := gw_trans HG.out hgw
  clear HG
  have HG := Lib.hid hgw
  clear hgw
  go_wp2_with fail
  go_ret
  exact ⟨rfl, HG.out⟩
end Go.Proofs.Ytmjajepdlopkiaa.Sh
