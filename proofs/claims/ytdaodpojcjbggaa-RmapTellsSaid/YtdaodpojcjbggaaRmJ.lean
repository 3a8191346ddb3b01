/- The examples of a table (printed by rmapknown.py). -/
import Derived.Test.YtdaodpojcjbggaaRmI
import Derived.Deep.RegionHeld3
namespace Go.Proofs.Ytdaodpojcjbggaa.Rm
open Go.RowKit Go.Proofs.Ytdaodpojcjbggaa.Ln
set_option linter.unusedVariables false
set_option linter.unusedSimpArgs false
theorem m_ (a o n : Int) (w : World) : Calls Try.prog 38 #[.int .i64 a, .int .i64 o, .int .i64 n] w fun e w' => e = .returned (.agg #[.int .i64 a, .int .i64 o, .int .i64 n, .int .u16 0]) ∧ Gw w w' := by
  have e0 : w.heap.size < (w.alloc (.cells #[.int .i64 a, .int .i64 o, .int .i64 n, .int .u16 0] 60)).heap.size := by rw [World.size_alloc]; omega
  go_enter Try.func38, Try.ntmps38
  go_wp2
  exact bodyPost_ret (v := .agg #[.int .i64 a, .int .i64 o, .int .i64 n, .int .u16 0]) (by simp [results, Try.results38, go_sem]) rfl ⟨rfl, gw_alloc1 _ _⟩
theorem put_n {w0 w H X r b l} (h : TS w0 w H X r b l) (a o n s : Int) (hw : Wf ⟨a, o, n, s⟩) (v : Bool) (l' : List M) (hv : putB r b l ⟨a, o, n, s⟩ = v) (hl : putL r b l ⟨a, o, n, s⟩ = l') :
    Calls Try.prog 31 #[.pointer (some ⟨X, 0, none⟩), .agg #[.int .i64 a, .int .i64 o, .int .i64 n, .int .u16 s]] w (TabP w0 w H X r b l' (.returned (.bool v))) := by
  subst hv hl; exact put_ h ⟨a, o, n, s⟩ hw
theorem cut_n {w0 w H X r b l} (h : TS w0 w H X r b l) (n : Int) (hn : -9223372036854775808 ≤ n ∧ n < 9223372036854775808) (b' : Int) (l' : List M) (hb : cutB b n = b') (hl : l.drop (pos l b') = l') :
    Calls Try.prog 36 #[.pointer (some ⟨X, 0, none⟩), .int .i64 n] w (TabP w0 w H X r b' l' (.returned (.tuple #[]))) := by
  subst hb hl; exact cut_ h n hn
theorem at_n {w0 w H X r b l} (h : TS w0 w H X r b l) (a : Int) (m : M) (is : Bool) (hm : get l a = m) (hi : has l a = is) : Calls Try.prog 34 #[.pointer (some ⟨X, 0, none⟩), .int .i64 a] w (AtP m is w) := by
  subst hm hi; exact at_ h a
theorem mapat_gw {w w' : World} {g o : Nat} {m : M} (h : MapAt w g o m) (hg : Gw w w') : MapAt w' g o m := h.blk (hg.block g (World.block_lt_of_cell? _ _ h.1) (fun h => h))
theorem mapat_fx {w w' : World} {g o X : Nat} {m : M} (h : MapAt w g o m) (hf : Fx X w w') (hn : g ≠ X) : MapAt w' g o m := h.blk (hf.block g (World.block_lt_of_cell? _ _ h.1) hn)
set_option maxRecDepth 100000 in
set_option maxHeartbeats 8000000 in
theorem works (w : World) : Calls Try.prog 28 #[] w fun e w' => e = .returned (.bool true) ∧ Gw w w' := by
  have HG : Hid (Gw w w) := Lib.hid (Fr.refl _ _)
  go_enter Try.func28, Try.ntmps28
  go_wp2_with fail
  refine (new_ (w0 := w) (H := []) HG.out (by simp) 10 (by omega)).mono ?_
  rintro e w0 ⟨xT, rfl, hx1, hx2, hg, ht⟩
  have HNG := Lib.hid (gw_trans HG.out hg); clear HG hg; have HG := HNG; clear HNG
  have HT := Lib.hid ht; clear ht hx1 hx2
  go_wp2_with fail
  refine (m_ _ _ _ _).mono ?_
  rintro e w1 ⟨rfl, hg⟩
  have HNT := Lib.hid (HT.out.gw hg); clear HT; have HT := HNT; clear HNT
  have HNG := Lib.hid (gw_trans HG.out hg); clear HG hg; have HG := HNG; clear HNG
  go_wp2_with fail
  (with_reducible refine (put_n HT.out 4 0 3 0 ?_ true [⟨4, 0, 3, 0⟩] ?_ ?_).mono ?_)
  (· unfold Wf; simp)
  (· decide)
  (· decide)
  rintro e w2 ⟨rfl, ht, hf⟩
  have HNG := Lib.hid (gw_fx HG.out HT.out.2.1 hf); clear HG; have HG := HNG; clear HNG
  clear HT hf; have HT := Lib.hid ht; clear ht
  go_wp2_with fail
  refine (m_ _ _ _ _).mono ?_
  rintro e w3 ⟨rfl, hg⟩
  have HNT := Lib.hid (HT.out.gw hg); clear HT; have HT := HNT; clear HNT
  have HNG := Lib.hid (gw_trans HG.out hg); clear HG hg; have HG := HNG; clear HNG
  go_wp2_with fail
  (with_reducible refine (put_n HT.out 0 7 4 0 ?_ true [⟨0, 7, 4, 0⟩, ⟨4, 0, 3, 0⟩] ?_ ?_).mono ?_)
  (· unfold Wf; simp)
  (· decide)
  (· decide)
  rintro e w4 ⟨rfl, ht, hf⟩
  have HNG := Lib.hid (gw_fx HG.out HT.out.2.1 hf); clear HG; have HG := HNG; clear HNG
  clear HT hf; have HT := Lib.hid ht; clear ht
  go_wp2_with fail
  refine (m_ _ _ _ _).mono ?_
  rintro e w5 ⟨rfl, hg⟩
  have HNT := Lib.hid (HT.out.gw hg); clear HT; have HT := HNT; clear HNT
  have HNG := Lib.hid (gw_trans HG.out hg); clear HG hg; have HG := HNG; clear HNG
  go_wp2_with fail
  (with_reducible refine (put_n HT.out 4 9 1 0 ?_ false [⟨0, 7, 4, 0⟩, ⟨4, 0, 3, 0⟩] ?_ ?_).mono ?_)
  (· unfold Wf; simp)
  (· decide)
  (· decide)
  rintro e w6 ⟨rfl, ht, hf⟩
  have HNG := Lib.hid (gw_fx HG.out HT.out.2.1 hf); clear HG; have HG := HNG; clear HNG
  clear HT hf; have HT := Lib.hid ht; clear ht
  go_wp2_with fail
  refine (m_ _ _ _ _).mono ?_
  rintro e w7 ⟨rfl, hg⟩
  have HNT := Lib.hid (HT.out.gw hg); clear HT; have HT := HNT; clear HNT
  have HNG := Lib.hid (gw_trans HG.out hg); clear HG hg; have HG := HNG; clear HNG
  go_wp2_with fail
  (with_reducible refine (put_n HT.out 10 0 1 0 ?_ false [⟨0, 7, 4, 0⟩, ⟨4, 0, 3, 0⟩] ?_ ?_).mono ?_)
  (· unfold Wf; simp)
  (· decide)
  (· decide)
  rintro e w8 ⟨rfl, ht, hf⟩
  have HNG := Lib.hid (gw_fx HG.out HT.out.2.1 hf); clear HG; have HG := HNG; clear HNG
  clear HT hf; have HT := Lib.hid ht; clear ht
  go_wp2_with fail
  refine (m_ _ _ _ _).mono ?_
  rintro e w9 ⟨rfl, hg⟩
  have HNT := Lib.hid (HT.out.gw hg); clear HT; have HT := HNT; clear HNT
  have HNG := Lib.hid (gw_trans HG.out hg); clear HG hg; have HG := HNG; clear HNG
  go_wp2_with fail
  (with_reducible refine (put_n HT.out 1 0 0 0 ?_ false [⟨0, 7, 4, 0⟩, ⟨4, 0, 3, 0⟩] ?_ ?_).mono ?_)
  (· unfold Wf; simp)
  (· decide)
  (· decide)
  rintro e w10 ⟨rfl, ht, hf⟩
  have HNG := Lib.hid (gw_fx HG.out HT.out.2.1 hf); clear HG; have HG := HNG; clear HNG
  clear HT hf; have HT := Lib.hid ht; clear ht
  go_wp2_with fail
  refine (m_ _ _ _ _).mono ?_
  rintro e w11 ⟨rfl, hg⟩
  have HNT := Lib.hid (HT.out.gw hg); clear HT; have HT := HNT; clear HNT
  have HNG := Lib.hid (gw_trans HG.out hg); clear HG hg; have HG := HNG; clear HNG
  go_wp2_with fail
  (with_reducible refine (put_n HT.out 1 0 11 0 ?_ false [⟨0, 7, 4, 0⟩, ⟨4, 0, 3, 0⟩] ?_ ?_).mono ?_)
  (· unfold Wf; simp)
  (· decide)
  (· decide)
  rintro e w12 ⟨rfl, ht, hf⟩
  have HNG := Lib.hid (gw_fx HG.out HT.out.2.1 hf); clear HG; have HG := HNG; clear HNG
  clear HT hf; have HT := Lib.hid ht; clear ht
  go_wp2_with fail
  refine (m_ _ _ _ _).mono ?_
  rintro e w13 ⟨rfl, hg⟩
  have HNT := Lib.hid (HT.out.gw hg); clear HT; have HT := HNT; clear HNT
  have HNG := Lib.hid (gw_trans HG.out hg); clear HG hg; have HG := HNG; clear HNG
  go_wp2_with fail
  (with_reducible refine (put_n HT.out 1 (-1) 1 0 ?_ false [⟨0, 7, 4, 0⟩, ⟨4, 0, 3, 0⟩] ?_ ?_).mono ?_)
  (· unfold Wf; simp)
  (· decide)
  (· decide)
  rintro e w14 ⟨rfl, ht, hf⟩
  have HNG := Lib.hid (gw_fx HG.out HT.out.2.1 hf); clear HG; have HG := HNG; clear HNG
  clear HT hf; have HT := Lib.hid ht; clear ht
  go_wp2_with fail
  refine (at_n HT.out 4 ⟨4, 0, 3, 0⟩ true (by decide) (by decide)).mono ?_
  rintro e w15 ⟨rfl, hg⟩
  have HNT := Lib.hid (HT.out.gw hg); clear HT; have HT := HNT; clear HNT
  have HNG := Lib.hid (gw_trans HG.out hg); clear HG hg; have HG := HNG; clear HNG
  go_wp2_with fail
  have HP := Lib.hid (map_new w15 ⟨4, 0, 3, 0⟩ w15.heap.size rfl 60)
  have hg := gw_alloc1 w15 (.cells #[.int .i64 4, .int .i64 0, .int .i64 3, .int .u16 0] 60)
  have nePT : w15.heap.size ≠ xT := by have := HT.out.2.2.1 xT HT.out.1; omega
  have HNT := Lib.hid (HT.out.gw hg); clear HT; have HT := HNT; clear HNT
  have HNG := Lib.hid (gw_trans HG.out hg); clear HG hg; have HG := HNG; clear HNG
  go_wp2_with fail
  refine (at_n HT.out 5 ⟨0, 0, 0, 0⟩ false (by decide) (by decide)).mono ?_
  rintro e w16 ⟨rfl, hg⟩
  have HNT := Lib.hid (HT.out.gw hg); clear HT; have HT := HNT; clear HNT
  have HNP := Lib.hid (mapat_gw HP.out hg); clear HP; have HP := HNP; clear HNP
  have HNG := Lib.hid (gw_trans HG.out hg); clear HG hg; have HG := HNG; clear HNG
  go_wp2_with fail
  have HQ := Lib.hid (map_new w16 ⟨0, 0, 0, 0⟩ w16.heap.size rfl 60)
  have hg := gw_alloc1 w16 (.cells #[.int .i64 0, .int .i64 0, .int .i64 0, .int .u16 0] 60)
  have neQT : w16.heap.size ≠ xT := by have := HT.out.2.2.1 xT HT.out.1; omega
  have HNT := Lib.hid (HT.out.gw hg); clear HT; have HT := HNT; clear HNT
  have HNP := Lib.hid (mapat_gw HP.out hg); clear HP; have HP := HNP; clear HNP
  have HNG := Lib.hid (gw_trans HG.out hg); clear HG hg; have HG := HNG; clear HNG
  go_wp2_with fail
  refine (len_ HT.out).mono ?_
  rintro e w17 ⟨rfl, rfl⟩
  go_wp2_with fail
  refine (cut_n HT.out (1) (by omega) 1 [⟨4, 0, 3, 0⟩] (by decide) (by decide)).mono ?_
  rintro e w18 ⟨rfl, ht, hf⟩
  have HNP := Lib.hid (mapat_fx HP.out hf nePT); clear HP; have HP := HNP; clear HNP
  have HNG := Lib.hid (gw_fx HG.out HT.out.2.1 hf); clear HG; have HG := HNG; clear HNG
  clear HT hf; have HT := Lib.hid ht; clear ht
  go_wp2_with fail
  refine (newBad 0 (by omega) _).mono ?_
  rintro e w19 ⟨rfl, rfl⟩
  go_wp2_with fail
  refine (newBad 2049 (by omega) _).mono ?_
  rintro e w20 ⟨rfl, rfl⟩
  go_wp2_with fail
  have hg := gw_drew w18
  have HNT := Lib.hid (HT.out.gw hg); clear HT; have HT := HNT; clear HNT
  have HNP := Lib.hid (mapat_gw HP.out hg); clear HP; have HP := HNP; clear HNP
  have HNG := Lib.hid (gw_trans HG.out hg); clear HG hg; have HG := HNG; clear HNG
  obtain ⟨p0, p1, p2, p3⟩ := HP.out
  go_region_held3 (fun v => v.cell? ⟨w15.heap.size, 0, none⟩ = some (.int .i64 4) ∧ v.cell? ⟨w15.heap.size, 1, none⟩ = some (.int .i64 0) ∧ v.cell? ⟨w15.heap.size, 2, none⟩ = some (.int .i64 3) ∧ v.cell? ⟨w15.heap.size, 3, none⟩ = some (.int .u16 0)) (first | exact ⟨HP.out.1, HP.out.2.1, HP.out.2.2.1, HP.out.2.2.2⟩ | go_keep) (first | (go_at_call 38; refine (m_ _ _ _ _).mono ?_; rintro e w21 ⟨rfl, hg⟩; have HNT := Lib.hid (HT.out.gw hg); clear HT; have HT := HNT; clear HNT; have HNP := Lib.hid (mapat_gw HP.out hg); clear HP; have HP := HNP; clear HNP; have HNG := Lib.hid (gw_trans HG.out hg); clear HG hg; have HG := HNG; clear HNG) | (go_at_call 33; refine (len_ HT.out).mono ?_; rintro e w22 ⟨rfl, rfl⟩) | (go_at_call 37; refine (begin_ HT.out).mono ?_; rintro e w23 ⟨rfl, rfl⟩) | (go_at_call 31; (with_reducible refine (put_n HT.out 0 0 1 0 ?_ false [⟨4, 0, 3, 0⟩] ?_ ?_).mono ?_); (· unfold Wf; simp); (· decide); (· decide); rintro e w24 ⟨rfl, ht, hf⟩; have HNP := Lib.hid (mapat_fx HP.out hf nePT); clear HP; have HP := HNP; clear HNP; have HNG := Lib.hid (gw_fx HG.out HT.out.2.1 hf); clear HG; have HG := HNG; clear HNG; clear HT hf; have HT := Lib.hid ht; clear ht) | (go_at_call 31; (with_reducible refine (put_n HT.out 10 0 10 0 ?_ true [⟨4, 0, 3, 0⟩, ⟨10, 0, 10, 0⟩] ?_ ?_).mono ?_); (· unfold Wf; simp); (· decide); (· decide); rintro e w25 ⟨rfl, ht, hf⟩; have HNP := Lib.hid (mapat_fx HP.out hf nePT); clear HP; have HP := HNP; clear HNP; have HNG := Lib.hid (gw_fx HG.out HT.out.2.1 hf); clear HG; have HG := HNG; clear HNG; clear HT hf; have HT := Lib.hid ht; clear ht))
  go_wp2_with fail
  go_ret
  exact ⟨rfl, HG.out⟩
end Go.Proofs.Ytdaodpojcjbggaa.Rm
