/- The chapter's examples of shape. -/
import Derived.Test.YtmjajepdlopkiaaShH
namespace Go.Proofs.Ytmjajepdlopkiaa.Sh
open Go.RowKit
set_option linter.unusedVariables false
set_option linter.unusedSimpArgs false

abbrev bs (l : List UInt8) : ByteArray := ⟨l.toArray⟩
/-- What came in the chapter's examples. -/
def wC : Nat → Nat → Bool := und (und (fun _ _ => false) (brings 99 100 (bs [97, 98, 99]))) (brings 99 102 (bs [120, 100]))
theorem m0 : cnt (row 10 wC 0) 256 = 1 := by decide +kernel
theorem m2 : cnt (row 10 wC 2) 256 = 2 := by decide +kernel
theorem m3 : cnt (row 10 wC 3) 256 = 1 := by decide +kernel
theorem m4 : cnt (row 10 wC 4) 256 = 0 := by decide +kernel
abbrev fw (r t : List UInt8) (fell : Int) : Bool := fitsF (fun off b => row 10 wC off b) r t fell
theorem f1 : fw [97, 98] [97, 98, 113] (-1) = true := by decide +kernel
theorem f2 : fw [97, 99] [97, 98, 113] (-1) = false := by decide +kernel
theorem f3 : fw [97, 98, 120] [97, 98] 2 = true := by decide +kernel
theorem f4 : fw [97, 98, 99, 100] [97, 98] 2 = true := by decide +kernel
theorem f5 : fw [97, 98, 121] [97, 98] 2 = false := by decide +kernel
theorem f6 : fw [97, 98, 99, 100, 101] [97, 98, 99, 100, 101] 3 = false := by decide +kernel
theorem f7 : fw [97, 98, 99, 100, 101] [97, 98, 99, 100, 101] 5 = true := by decide +kernel
theorem f8 : fw [65, 98, 99] [65, 120, 120] 1 = true := by decide +kernel

theorem many_eq {w X g cp isn n C} (h : CameAt w X g cp isn n C) (off : Int) (v : Nat) (hv : cnt (row n C off) 256 = v) : Calls Try.prog 33 #[.pointer (some ⟨X, 0, none⟩), .int .i64 off] w fun e w' => e = .returned (.int .i64 v) ∧ CameAt w' X g cp isn n C ∧ Gw w w' :=
  (many_ h off).mono fun e w' ⟨he, hg⟩ => ⟨by rw [he, hv], h.gw hg, hg⟩
theorem has_eq {w X g cp isn n C} (h : CameAt w X g cp isn n C) (off : Int) (b : Nat) (hb : b < 256) (v : Bool) (hv : row n C off b = v) : Calls Try.prog 34 #[.pointer (some ⟨X, 0, none⟩), .int .i64 off, .int .u8 b] w fun e w' => e = .returned (.bool v) ∧ CameAt w' X g cp isn n C ∧ Gw w w' :=
  (has_ h off b hb).mono fun e w' ⟨he, hg⟩ => ⟨by rw [he, hv], h.gw hg, hg⟩
theorem fits_eq {w X g cp isn n C} (h : CameAt w X g cp isn n C) (r tx : ByteArray) (fell : Int) (hr : r.size ≤ 9223372036854775807) (ht : tx.size ≤ 9223372036854775807) (v : Bool) (hv : fitsF (fun off b => row n C off b) r.data.toList tx.data.toList fell = v) :
    Calls Try.prog 35 #[.pointer (some ⟨X, 0, none⟩), .string r, .string tx, .int .i64 fell] w fun e w' => e = .returned (.bool v) ∧ CameAt w' X g cp isn n C ∧ Gw w w' :=
  (fits_ h r tx fell hr ht).mono fun e w' ⟨he, hg⟩ => ⟨by rw [he, hv], h.gw hg, hg⟩
/-- What has turned since w0 is at blocks from there on. -/
theorem gw_fr {w0 w w' : World} {g : Nat} (hg : Gw w0 w) (hge : w0.heap.size ≤ g) (hf : Fr (fun k => k = g) w w') : Gw w0 w' := Fr.trans hg hf (fun x hx e => by show False; omega)
set_option maxRecDepth 100000 in
set_option maxHeartbeats 4000000 in
theorem works (w : World) : Calls Try.prog 29 #[] w fun e w' => e = .returned (.bool true) ∧ Gw w w' := by
  go_enter Try.func29, Try.ntmps29
  go_wp2_with fail
  refine (new_ 99 10 (by omega) (by omega) _).mono ?_
  rintro e w1 ⟨X, g, rfl, hc, hX, hg, hgw⟩
  have HC := Lib.hid hc
  have HG := Lib.hid hgw
  have HGE := Lib.hid hg
  clear hc hgw hX hg
  go_wp2_with fail
  refine (add_ HC.out _ _ _ _ _ _ _ _ _ 100 (bs [97, 98, 99]) (by decide)).mono ?_
  rintro e w2 ⟨rfl, hc, hf⟩
  have hgw := gw_fr HG.out HGE.out hf
  clear HC HG hf
  have HC := Lib.hid hc
  have HG := Lib.hid hgw
  clear hc hgw
  go_wp2_with fail
  refine (add_ HC.out _ _ _ _ _ _ _ _ _ 102 (bs [120, 100]) (by decide)).mono ?_
  rintro e w3 ⟨rfl, hc, hf⟩
  have hc : CameAt w3 X g 10 99 10 wC := hc
  have hgw := gw_fr HG.out HGE.out hf
  clear HC HG hf
  have HC := Lib.hid hc
  have HG := Lib.hid hgw
  clear hc hgw
  go_wp2_with fail
  refine (many_eq HC.out 0 1 m0).mono ?_
  rintro e w4 ⟨rfl, hc, hgw⟩
  have hgw := gw_trans HG.out hgw
  clear HC HG
  have HC := Lib.hid hc
  have HG := Lib.hid hgw
  clear hc hgw
  go_wp2_with fail
  refine (many_eq HC.out 2 2 m2).mono ?_
  rintro e w5 ⟨rfl, hc, hgw⟩
  have hgw := gw_trans HG.out hgw
  clear HC HG
  have HC := Lib.hid hc
  have HG := Lib.hid hgw
  clear hc hgw
  go_wp2_with fail
  refine (many_eq HC.out 3 1 m3).mono ?_
  rintro e w6 ⟨rfl, hc, hgw⟩
  have hgw := gw_trans HG.out hgw
  clear HC HG
  have HC := Lib.hid hc
  have HG := Lib.hid hgw
  clear hc hgw
  go_wp2_with fail
  refine (many_eq HC.out 4 0 m4).mono ?_
  rintro e w7 ⟨rfl, hc, hgw⟩
  have hgw := gw_trans HG.out hgw
  clear HC HG
  have HC := Lib.hid hc
  have HG := Lib.hid hgw
  clear hc hgw
  go_wp2_with fail
  refine (fits_eq HC.out (bs [97, 98]) (bs [97, 98, 113]) (-1) (by decide) (by decide) true f1).mono ?_
  rintro e w8 ⟨rfl, hc, hgw⟩
  have hgw := gw_trans HG.out hgw
  clear HC HG
  have HC := Lib.hid hc
  have HG := Lib.hid hgw
  clear hc hgw
  go_wp2_with fail
  refine (fits_eq HC.out (bs [97, 99]) (bs [97, 98, 113]) (-1) (by decide) (by decide) false f2).mono ?_
  rintro e w9 ⟨rfl, hc, hgw⟩
  have hgw := gw_trans HG.out hgw
  clear HC HG
  have HC := Lib.hid hc
  have HG := Lib.hid hgw
  clear hc hgw
  go_wp2_with fail
  refine (fits_eq HC.out (bs [97, 98, 120]) (bs [97, 98]) (2) (by decide) (by decide) true f3).mono ?_
  rintro e w10 ⟨rfl, hc, hgw⟩
  have hgw := gw_trans HG.out hgw
  clear HC HG
  have HC := Lib.hid hc
  have HG := Lib.hid hgw
  clear hc hgw
  go_wp2_with fail
  refine (fits_eq HC.out (bs [97, 98, 99, 100]) (bs [97, 98]) (2) (by decide) (by decide) true f4).mono ?_
  rintro e w11 ⟨rfl, hc, hgw⟩
  have hgw := gw_trans HG.out hgw
  clear HC HG
  have HC := Lib.hid hc
  have HG := Lib.hid hgw
  clear hc hgw
  go_wp2_with fail
  refine (fits_eq HC.out (bs [97, 98, 121]) (bs [97, 98]) (2) (by decide) (by decide) false f5).mono ?_
  rintro e w12 ⟨rfl, hc, hgw⟩
  have hgw := gw_trans HG.out hgw
  clear HC HG
  have HC := Lib.hid hc
  have HG := Lib.hid hgw
  clear hc hgw
  go_wp2_with fail
  refine (fits_eq HC.out (bs [97, 98, 99, 100, 101]) (bs [97, 98, 99, 100, 101]) (3) (by decide) (by decide) false f6).mono ?_
  rintro e w13 ⟨rfl, hc, hgw⟩
  have hgw := gw_trans HG.out hgw
  clear HC HG
  have HC := Lib.hid hc
  have HG := Lib.hid hgw
  clear hc hgw
  go_wp2_with fail
  refine (fits_eq HC.out (bs [97, 98, 99, 100, 101]) (bs [97, 98, 99, 100, 101]) (5) (by decide) (by decide) true f7).mono ?_
  rintro e w14 ⟨rfl, hc, hgw⟩
  have hgw := gw_trans HG.out hgw
  clear HC HG
  have HC := Lib.hid hc
  have HG := Lib.hid hgw
  clear hc hgw
  go_wp2_with fail
  refine (fits_eq HC.out (bs [65, 98, 99]) (bs [65, 120, 120]) (1) (by decide) (by decide) true f8).mono ?_
  rintro e w15 ⟨rfl, hc, hgw⟩
  have hgw := gw_trans HG.out hgw
  clear HC HG
  have HC := Lib.hid hc
  have HG := Lib.hid hgw
  clear hc hgw
  go_wp2_with fail
  go_ret
  exact ⟨rfl, HG.out⟩
end Go.Proofs.Ytmjajepdlopkiaa.Sh
