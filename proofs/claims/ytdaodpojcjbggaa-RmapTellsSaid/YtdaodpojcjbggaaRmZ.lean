/- An act at both tables. -/
import Derived.Test.YtdaodpojcjbggaaRmY
import Derived.Deep.RegionHeld3
import Derived.Deep.DeepCutAuto
import Derived.Deep.LoopGhost
namespace Go.Proofs.Ytdaodpojcjbggaa.Rm
open Go.RowKit Go.Proofs.Ytdaodpojcjbggaa.Ln
set_option linter.unusedVariables false
set_option linter.unusedSimpArgs false

def AlikeP (w0 : World) (X Y : Nat) (r : Int) (e : Ending) (w' : World) : Prop := e = .returned (.bool true) ∧ ∃ b' l' k', D w0 w' [] X Y r b' l' b' k' ∧ l'.Perm k'
theorem D.act {w0 w Bx X Y r b l b2 k} {Z : Nat} {wh n : Int} {m : M} (h : D w0 w Bx X Y r b l b2 k) (hz : (Z, actBox wh m n) ∈ Bx) :
    w.cell? ⟨Z, 0, none⟩ = some (.int .u8 wh) ∧ w.cell? ⟨Z, 1, none⟩ = some (.int .i64 m.at') ∧ w.cell? ⟨Z, 2, none⟩ = some (.int .i64 m.off) ∧ w.cell? ⟨Z, 3, none⟩ = some (.int .i64 m.len) ∧ w.cell? ⟨Z, 4, none⟩ = some (.int .u16 m.sum) ∧ w.cell? ⟨Z, 5, none⟩ = some (.int .i64 n) := by
  have hb := h.blk hz
  exact ⟨cellAt hb 0 _ rfl, cellAt hb 1 _ rfl, cellAt hb 2 _ rfl, cellAt hb 3 _ rfl, cellAt hb 4 _ rfl, cellAt hb 5 _ rfl⟩
theorem D.boxAt {w0 w w' Bx X Y r b l b2 k} (h : D w0 w Bx X Y r b l b2 k) (hg : Gw w w') {B : Nat} (hB : w.heap.size ≤ B) {o : Obj} (ho : w'.heap[B]? = some o) : D w0 w' ((B, o) :: Bx) X Y r b l b2 k := by
  obtain ⟨H, P, C, h0, h1, h2, h3, h4, h5, h6, h7⟩ := h
  refine ⟨H, P, C, gw_trans h0 hg, h1.gw hg, h2.gw hg, h3, h4, h5, h6, fun p hp => ?_⟩
  rcases List.mem_cons.1 hp with rfl | hp
  · exact ⟨fun e => by have := h1.2.2.1 _ e; simp at this; omega, ho⟩
  · exact ⟨(h7 p hp).1, (hg.block _ (Array.getElem?_eq_some_iff.1 (h7 p hp).2).1 (fun h => h)).trans (h7 p hp).2⟩
theorem fresh4 {V w4 : World} {o : Obj} (hg : Gw (V.alloc o) w4) : w4.heap[V.heap.size]? = some o := (hg.block _ (by rw [World.size_alloc]; omega) (fun h => h)).trans (heap_alloc_new V o)
theorem D.sub {w0 w Bx Bx' X Y r b l b2 k} (h : D w0 w Bx X Y r b l b2 k) (hs : ∀ p ∈ Bx', p ∈ Bx) : D w0 w Bx' X Y r b l b2 k := by
  obtain ⟨H, P, C, h0, h1, h2, h3, h4, h5, h6, h7⟩ := h
  exact ⟨H, P, C, h0, h1, h2, h3, h4, h5, h6, fun p hp => h7 p (hs p hp)⟩
theorem set4z {W w : World} (hg : Gw W w) {a b c d : Value} (h : w.heap[W.heap.size]? = some (.cells #[a, b, c, d] 60 (0, 0))) (q0 q1 q2 q3 : Value) :
    Hid (W.heap.size ≤ W.heap.size ∧ Gw W ((((w.setCell ⟨W.heap.size, 0, none⟩ q0).setCell ⟨W.heap.size, 1, none⟩ q1).setCell ⟨W.heap.size, 2, none⟩ q2).setCell ⟨W.heap.size, 3, none⟩ q3) ∧ ((((w.setCell ⟨W.heap.size, 0, none⟩ q0).setCell ⟨W.heap.size, 1, none⟩ q1).setCell ⟨W.heap.size, 2, none⟩ q2).setCell ⟨W.heap.size, 3, none⟩ q3).heap[W.heap.size]? = some (.cells #[q0, q1, q2, q3] 60)) := by
  refine Lib.hid ⟨Nat.le_refl _, gw_set (gw_set (gw_set (gw_set hg _ (Nat.le_refl _) _) _ (Nat.le_refl _) _) _ (Nat.le_refl _) _) _ (Nat.le_refl _) _, ?_⟩
  rw [heapSet (heapSet (heapSet (heapSet h _) _) _) _]
  simp
theorem neqB (is : Bool) (w : World) : (binOp .neq 4 (.bool is) (.bool is)).run Try.prog w = .ok (.bool false) w := by
  cases is <;> kernel_rfl
theorem neqM (g0 g1 g2 g3 : Int) (w : World) : (binOp .neq 60 (.agg #[.int .i64 g0, .int .i64 g1, .int .i64 g2, .int .u16 g3]) (.agg #[.int .i64 g0, .int .i64 g1, .int .i64 g2, .int .u16 g3])).run Try.prog w = .ok (.bool false) w := by
  go_simp
attribute [local go_sem] neqB neqM
set_option maxRecDepth 100000 in
set_option maxHeartbeats 8000000 in
theorem alike_ {w0 w X Y r b l k} (h : D w0 w [] X Y r b l b k) (hp : l.Perm k) (wh n : Int) (m : M) (hwh : 0 ≤ wh ∧ wh < 256) (hn : -9223372036854775808 ≤ n ∧ n < 9223372036854775808) (hm : Wf m) :
    Calls Try.prog 29 #[actAgg wh m n, .pointer (some ⟨X, 0, none⟩), .pointer (some ⟨Y, 0, none⟩)] w (AlikeP w0 X Y r) := by
  have hok := h.ok
  have hbb := hok.b
  have hlen := hok.len
  have hkl : k.length ≤ 2900 := by rw [← hp.length_eq]; omega
  have HD := Lib.hid (h.box (actBox wh m n))
  have HP := Lib.hid hp
  have HM := Lib.hid hm
  obtain ⟨m0, m1, m2, m3⟩ := m
  obtain ⟨z0, z1, z2, z3, z4, z5⟩ := HD.out.act List.mem_cons_self
  have HOK := Lib.hid hok
  obtain ⟨t, ht⟩ : ∃ t, wh.tmod 8 = t := ⟨_, rfl⟩
  have ht8 : 0 ≤ t ∧ t < 8 := by rw [← ht]; exact tmod_rng hwh.1 (by omega)
  simp only at z0 z1 z2 z3 z4 z5
  clear h hok hp hm
  show Calls Try.prog 29 #[.agg #[.int .u8 wh, .int .i64 m0, .int .i64 m1, .int .i64 m2, .int .u16 m3, .int .i64 n], .pointer (some ⟨X, 0, none⟩), .pointer (some ⟨Y, 0, none⟩)] w _
  go_enter Try.func29, Try.ntmps29
  go_upto_region 2 with fail
  generalize w.alloc (.cells #[.int .u8 wh, .int .i64 m0, .int .i64 m1, .int .i64 m2, .int .u16 m3, .int .i64 n] 62) = W at *
  generalize w.heap.size = Z at *
  rename_i K hK
  have HK := Lib.hid hK
  clear hK
  go_wp2_with fail
  refine HK.out _ _ ?_
  clear HK
  go_cut [7] (fun v7 wx => v7 = .bool true ∧ ∃ b' l' k', Hid (D w0 wx [(Z, actBox wh ⟨m0, m1, m2, m3⟩ n)] X Y r b' l' b' k' ∧ l'.Perm k'))
  case first =>
    have hq : t = 0 ∨ t = 1 ∨ t = 2 ∨ 3 ≤ t := by omega
    rcases hq with rfl | rfl | rfl | hq
    · obtain ⟨p, hp⟩ : ∃ p, putB r b l ⟨m0, m1, m2, m3⟩ = p := ⟨_, rfl⟩
      obtain ⟨L, hL⟩ : ∃ L, putL r b l ⟨m0, m1, m2, m3⟩ = L := ⟨_, rfl⟩
      obtain ⟨K2, hK2⟩ : ∃ K2, (if putB r b k ⟨m0, m1, m2, m3⟩ then k ++ [⟨m0, m1, m2, m3⟩] else k) = K2 := ⟨_, rfl⟩
      have hpp := perm_put HP.out r b ⟨m0, m1, m2, m3⟩
      have HPP : Hid (L.Perm K2) := Lib.hid (by rw [← hL, ← hK2]; exact hpp.2)
      have HC1 : Hid (∀ V, D w0 V [(Z, actBox wh ⟨m0, m1, m2, m3⟩ n)] X Y r b l b k → Calls Try.prog 31 #[.pointer (some ⟨X, 0, none⟩), agg ⟨m0, m1, m2, m3⟩] V (DP w0 [(Z, actBox wh ⟨m0, m1, m2, m3⟩ n)] X Y r b L b k (.returned (.bool p)))) := Lib.hid (fun V hV => by rw [← hp, ← hL]; exact d_put hV _ HM.out)
      have HC2 : Hid (∀ V, D w0 V [(Z, actBox wh ⟨m0, m1, m2, m3⟩ n)] X Y r b L b k → Calls Try.prog 45 #[.pointer (some ⟨Y, 0, none⟩), agg ⟨m0, m1, m2, m3⟩] V (DP w0 [(Z, actBox wh ⟨m0, m1, m2, m3⟩ n)] X Y r b L b K2 (.returned (.bool p)))) := Lib.hid (fun V hV => by rw [← hp, hpp.1, ← hK2]; exact d_rput hV hkl hbb _)
      clear hp hL hK2 hpp
      go_wp2_with fail
      go_region_held3 (fun v => v.cell? ⟨Z, 1, none⟩ = some (.int .i64 m0) ∧ v.cell? ⟨Z, 2, none⟩ = some (.int .i64 m1) ∧ v.cell? ⟨Z, 3, none⟩ = some (.int .i64 m2) ∧ v.cell? ⟨Z, 4, none⟩ = some (.int .u16 m3))
        (first | exact ⟨(HD5.out.act List.mem_cons_self).2.1, (HD5.out.act List.mem_cons_self).2.2.1, (HD5.out.act List.mem_cons_self).2.2.2.1, (HD5.out.act List.mem_cons_self).2.2.2.2.1⟩ | exact ⟨(HD4.out.act List.mem_cons_self).2.1, (HD4.out.act List.mem_cons_self).2.2.1, (HD4.out.act List.mem_cons_self).2.2.2.1, (HD4.out.act List.mem_cons_self).2.2.2.2.1⟩ | go_keep)
        (first | (go_at_call 31; refine (HC1.out _ (HD.out.gw (gw_drew _))).mono ?_; rintro e w4 ⟨rfl, hd⟩; have HD4 := Lib.hid hd; clear hd) | (go_at_call 45; refine (HC2.out _ HD4.out).mono ?_; rintro e w5 ⟨rfl, hd⟩; have HD5 := Lib.hid hd; clear hd))
      all_goals (go_wp2_with fail; go_meet; exact ⟨by simp, b, L, K2, Lib.hid ⟨HD5.out, HPP.out⟩⟩)
    · have HPP := Lib.hid (perm_cut HOK.out.srt HP.out (cutB b n))
      go_wp2_with fail
      refine (d_cut HD.out n hn).mono ?_
      rintro e w4 ⟨rfl, hd⟩
      have z5 := (hd.act List.mem_cons_self).2.2.2.2.2
      have HD4 := Lib.hid hd
      clear hd
      go_wp2_with fail
      refine (d_rcut HD4.out hkl n hn).mono ?_
      rintro e w5 ⟨rfl, hd⟩
      have HD5 := Lib.hid hd
      clear hd
      go_wp2_with fail
      go_meet
      exact ⟨rfl, _, _, _, Lib.hid ⟨HD5.out, HPP.out⟩⟩
    · have c1 := HD.out.cells.1
      obtain ⟨u, hu⟩ : ∃ u, IntKind.u64.wrap n = u := ⟨_, rfl⟩
      have hu0 : 0 ≤ u := by rw [← hu]; exact u64_nn n
      obtain ⟨s, hs⟩ : ∃ s, u.tmod 9 = s := ⟨_, rfl⟩
      have hs9 : 0 ≤ s ∧ s < 9 := by rw [← hs]; exact tmod_rng hu0 (by omega)
      have w1 : IntKind.i64.wrap s = s := IntWalk.i64_in _ (by omega)
      have w2 : IntKind.i64.wrap (b + s) = b + s := IntWalk.i64_in _ (by omega)
      have w3 : IntKind.i64.wrap (b + s - 2) = b + s - 2 := IntWalk.i64_in _ (by omega)
      have HPP := Lib.hid (perm_cut HOK.out.srt HP.out (cutB b (b + s - 2)))
      go_wp2_with fail
      go_quiet (fail)
      have HDQ := Lib.hid (HD.out.gw (gw_drewN (Fr.refl _ W) nq))
      clear z0 z1 z2 z3 z4 z5 c1 HD
      generalize W.drewN nq = V at *
      go_wp2_with fail
      refine (d_cut HDQ.out (b + s - 2) (by omega)).mono ?_
      rintro e w4 ⟨rfl, hd⟩
      have HD4 := Lib.hid hd
      clear hd
      go_wp2_with fail
      refine (d_rcut HD4.out hkl (b + s - 2) (by omega)).mono ?_
      rintro e w5 ⟨rfl, hd⟩
      have HD5 := Lib.hid hd
      clear hd
      go_wp2_with fail
      go_meet
      exact ⟨rfl, _, _, _, Lib.hid ⟨HD5.out, HPP.out⟩⟩
    · have b0 : (t == 0) = false := by rw [beq_eq_false_iff_ne]; omega
      have b1 : (t == 1) = false := by rw [beq_eq_false_iff_ne]; omega
      have b2 : (t == 2) = false := by rw [beq_eq_false_iff_ne]; omega
      have c1 := HD.out.cells.1
      obtain ⟨M', hM'⟩ : ∃ M', nearM b ⟨m0, m1, m2, m3⟩ = M' := ⟨_, rfl⟩
      have hwf' := nearM_wf hbb HM.out
      rw [hM'] at hwf'
      obtain ⟨p, hp⟩ : ∃ p, putB r b l M' = p := ⟨_, rfl⟩
      obtain ⟨L, hL⟩ : ∃ L, putL r b l M' = L := ⟨_, rfl⟩
      obtain ⟨K2, hK2⟩ : ∃ K2, (if putB r b k M' then k ++ [M'] else k) = K2 := ⟨_, rfl⟩
      have hpp := perm_put HP.out r b M'
      have HPP : Hid (L.Perm K2) := Lib.hid (by rw [← hL, ← hK2]; exact hpp.2)
      have HC0 : Hid (∀ V, Calls Try.prog 47 #[actAgg wh ⟨m0, m1, m2, m3⟩ n, .int .i64 b] V (NearP M' V)) := Lib.hid (fun V => by rw [← hM']; exact near_ wh _ n b hbb V)
      have HC1 : Hid (∀ V Bx, D w0 V Bx X Y r b l b k → Calls Try.prog 31 #[.pointer (some ⟨X, 0, none⟩), agg M'] V (DP w0 Bx X Y r b L b k (.returned (.bool p)))) := Lib.hid (fun V Bx hV => by rw [← hp, ← hL]; exact d_put hV _ hwf')
      have HC2 : Hid (∀ V Bx, D w0 V Bx X Y r b L b k → Calls Try.prog 45 #[.pointer (some ⟨Y, 0, none⟩), agg M'] V (DP w0 Bx X Y r b L b K2 (.returned (.bool p)))) := Lib.hid (fun V Bx hV => by rw [← hp, hpp.1, ← hK2]; exact d_rput hV hkl hbb _)
      clear hp hL hK2 hpp hM' hwf' hq
      obtain ⟨q0, q1, q2, q3⟩ := M'
      have HC0 : Hid (∀ V, Calls Try.prog 47 #[.agg #[.int .u8 wh, .int .i64 m0, .int .i64 m1, .int .i64 m2, .int .u16 m3, .int .i64 n], .int .i64 b] V (fun e w' => e = .returned (.agg #[.int .i64 q0, .int .i64 q1, .int .i64 q2, .int .u16 q3]) ∧ Gw V w')) := HC0
      have HZS : Hid (∀ v, Gw W v → v.cell? ⟨Z, 0, none⟩ = some (.int .u8 wh) ∧ v.cell? ⟨Z, 1, none⟩ = some (.int .i64 m0) ∧ v.cell? ⟨Z, 2, none⟩ = some (.int .i64 m1) ∧ v.cell? ⟨Z, 3, none⟩ = some (.int .i64 m2) ∧ v.cell? ⟨Z, 4, none⟩ = some (.int .u16 m3) ∧ v.cell? ⟨Z, 5, none⟩ = some (.int .i64 n) ∧ v.cell? ⟨Y, 1, none⟩ = some (.int .i64 b)) := Lib.hid (fun v hg => ⟨cell_gw hg z0, cell_gw hg z1, cell_gw hg z2, cell_gw hg z3, cell_gw hg z4, cell_gw hg z5, cell_gw hg c1⟩)
      go_upto_region 3 with fail
      go_cut [9] (fun v9 wx => ∃ B, v9 = .pointer (some ⟨B, 0, none⟩) ∧ Hid (W.heap.size ≤ B ∧ Gw W wx ∧ wx.heap[B]? = some (.cells #[.int .i64 q0, .int .i64 q1, .int .i64 q2, .int .u16 q3] 60)))
      case first =>
        go_region_held3 (fun v => v.cell? ⟨Z, 0, none⟩ = some (.int .u8 wh) ∧ v.cell? ⟨Z, 1, none⟩ = some (.int .i64 m0) ∧ v.cell? ⟨Z, 2, none⟩ = some (.int .i64 m1) ∧ v.cell? ⟨Z, 3, none⟩ = some (.int .i64 m2) ∧ v.cell? ⟨Z, 4, none⟩ = some (.int .u16 m3) ∧ v.cell? ⟨Z, 5, none⟩ = some (.int .i64 n) ∧ v.cell? ⟨Y, 1, none⟩ = some (.int .i64 b))
          ((refine HZS.out _ ?_; first | exact gw_drew _ | exact HG4.out | exact gw_trans HG4.out (gw_alloc1 _ _) | exact gw_trans (gw_drew _) (gw_alloc1 _ _) | exact gw_set (gw_set (gw_set (gw_set HG4.out _ (Nat.le_refl _) _) _ (Nat.le_refl _) _) _ (Nat.le_refl _) _) _ (Nat.le_refl _) _))
          (first | (go_at_call 47; refine (HC0.out _).mono ?_; rintro e w4 ⟨rfl, hg⟩; have HG4 : Hid (Gw W w4) := Lib.hid (by first | exact gw_trans (gw_drew _) hg | exact gw_trans (gw_trans (gw_drew _) (gw_alloc1 _ _)) hg); (try (have hz : w4.heap[W.heap.size]? = some (.cells #[.int .i64 0, .int .i64 0, .int .i64 0, .int .u16 0] 60) := fresh4 (gw_undrew hg); have e0 := cellAt hz 0 _ rfl; have e1 := cellAt hz 1 _ rfl; have e2 := cellAt hz 2 _ rfl; have e3 := cellAt hz 3 _ rfl; have f0 := frozenAt hz 0; have f1 := frozenAt hz 1; have f2 := frozenAt hz 2; have f3 := frozenAt hz 3; have HZ4 := Lib.hid hz; clear hz)); clear hg))
        all_goals
          go_wp2_with fail
          go_meet
          first
            | exact ⟨W.heap.size, rfl, set4z HG4.out HZ4.out _ _ _ _⟩
            | exact ⟨w4.heap.size, rfl, Lib.hid ⟨HG4.out.size, gw_trans HG4.out (gw_alloc1 _ _), heap_alloc_new _ _⟩⟩
      case rest =>
      obtain ⟨B, rfl, HCB⟩ := hcut
      have HDB := Lib.hid (HD.out.boxAt HCB.out.2.1 HCB.out.1 HCB.out.2.2)
      clear HD HCB HC0 HZS z0 z1 z2 z3 z4 z5 c1 b0 b1 b2
      generalize wc = V at *
      have hbb2 := HDB.out.blk List.mem_cons_self
      have y0 : V.cell? ⟨B, 0, none⟩ = some (.int .i64 q0) := cellAt hbb2 0 _ rfl
      have y1 : V.cell? ⟨B, 1, none⟩ = some (.int .i64 q1) := cellAt hbb2 1 _ rfl
      have y2 : V.cell? ⟨B, 2, none⟩ = some (.int .i64 q2) := cellAt hbb2 2 _ rfl
      have y3 : V.cell? ⟨B, 3, none⟩ = some (.int .u16 q3) := cellAt hbb2 3 _ rfl
      clear hbb2
      go_wp2_with fail
      go_region_held3 (fun v => v.cell? ⟨B, 0, none⟩ = some (.int .i64 q0) ∧ v.cell? ⟨B, 1, none⟩ = some (.int .i64 q1) ∧ v.cell? ⟨B, 2, none⟩ = some (.int .i64 q2) ∧ v.cell? ⟨B, 3, none⟩ = some (.int .u16 q3))
        (first | exact ⟨cellAt (HD5.out.blk List.mem_cons_self) 0 _ rfl, cellAt (HD5.out.blk List.mem_cons_self) 1 _ rfl, cellAt (HD5.out.blk List.mem_cons_self) 2 _ rfl, cellAt (HD5.out.blk List.mem_cons_self) 3 _ rfl⟩ | exact ⟨cellAt (HD4.out.blk List.mem_cons_self) 0 _ rfl, cellAt (HD4.out.blk List.mem_cons_self) 1 _ rfl, cellAt (HD4.out.blk List.mem_cons_self) 2 _ rfl, cellAt (HD4.out.blk List.mem_cons_self) 3 _ rfl⟩ | go_keep)
        (first | (go_at_call 31; refine (HC1.out _ _ (HDB.out.gw (gw_drew _))).mono ?_; rintro e w5 ⟨rfl, hd⟩; have HD4 := Lib.hid hd; clear hd) | (go_at_call 45; refine (HC2.out _ _ HD4.out).mono ?_; rintro e w6 ⟨rfl, hd⟩; have HD5 := Lib.hid hd; clear hd))
      all_goals (go_wp2_with fail; go_meet; exact ⟨by simp, b, L, K2, Lib.hid ⟨HD5.out.sub (fun p hp => List.mem_cons_of_mem _ hp), HPP.out⟩⟩)
  case rest =>
    obtain ⟨rfl, b', l', k', HC⟩ := hcut
    have HDC := Lib.hid HC.out.1
    have HPC := Lib.hid HC.out.2
    clear HC HD HP HOK z0 z1 z2 z3 z4 z5 hlen hkl hbb
    have hbb := HDC.out.ok.b
    have hlen := HDC.out.ok.len
    have hkl : k'.length ≤ 2900 := by rw [← HPC.out.length_eq]; omega
    obtain ⟨z0, z1, z2, z3, z4, z5⟩ := HDC.out.act List.mem_cons_self
    have c1 := HDC.out.cells.1
    simp only at z0 z1 z2 z3 z4 z5
    have HC0 : Hid (∀ V, Calls Try.prog 47 #[actAgg wh ⟨m0, m1, m2, m3⟩ n, .int .i64 b'] V (NearP (nearM b' ⟨m0, m1, m2, m3⟩) V)) := Lib.hid (fun V => near_ wh _ n b' hbb V)
    generalize nearM b' ⟨m0, m1, m2, m3⟩ = M' at *
    obtain ⟨q0, q1, q2, q3⟩ := M'
    have HC0 : Hid (∀ V, Calls Try.prog 47 #[.agg #[.int .u8 wh, .int .i64 m0, .int .i64 m1, .int .i64 m2, .int .u16 m3, .int .i64 n], .int .i64 b'] V (fun e w' => e = .returned (.agg #[.int .i64 q0, .int .i64 q1, .int .i64 q2, .int .u16 q3]) ∧ Gw V w')) := HC0
    have hfld : ∀ V : World, (Instr.field 60 (.agg #[.int .i64 q0, .int .i64 q1, .int .i64 q2, .int .u16 q3]) 0).run Try.prog V = .ok (.int .i64 q0) V := fun V => by kernel_rfl
    go_wp2_with fail
    go_region_held3 (fun v => v.cell? ⟨Z, 0, none⟩ = some (.int .u8 wh) ∧ v.cell? ⟨Z, 1, none⟩ = some (.int .i64 m0) ∧ v.cell? ⟨Z, 2, none⟩ = some (.int .i64 m1) ∧ v.cell? ⟨Z, 3, none⟩ = some (.int .i64 m2) ∧ v.cell? ⟨Z, 4, none⟩ = some (.int .u16 m3) ∧ v.cell? ⟨Z, 5, none⟩ = some (.int .i64 n) ∧ v.cell? ⟨Y, 1, none⟩ = some (.int .i64 b'))
      (first | exact ⟨cell_gw HG4.out z0, cell_gw HG4.out z1, cell_gw HG4.out z2, cell_gw HG4.out z3, cell_gw HG4.out z4, cell_gw HG4.out z5, cell_gw HG4.out c1⟩ | go_keep)
      (first | (go_at_call 47; refine (HC0.out _).mono ?_; rintro e w4 ⟨rfl, hg⟩; have HG4 := Lib.hid (gw_undrew hg); clear hg))
    have HDL := Lib.hid (HDC.out.gw HG4.out)
    clear HDC HG4 z0 z1 z2 z3 z4 z5 c1 HC0
    have HPG : Hid (∀ a, get k' a = get l' a ∧ has k' a = has l' a) := Lib.hid (fun a => ⟨(perm_get HDL.out.ok.srt HPC.out a).symm, (perm_has HPC.out a).symm⟩)
    have HKL := Lib.hid hkl
    have hln : l'.length = k'.length := HPC.out.length_eq
    have HROW : Hid (rows k' b' r.toNat = l') := Lib.hid (perm_rows HDL.out.ok HPC.out)
    obtain ⟨N, hN⟩ : ∃ N, k'.length = N := ⟨_, rfl⟩
    rw [hN] at hln hkl
    have HN := Lib.hid hN
    have HLN := Lib.hid hln
    clear hN hln hlen
    go_wp2_with fail
    go_loopw [85] (fun v85 wr => ∃ i : Nat, i ≤ 3 ∧ v85 = .int .i64 i ∧ Hid (Gw w4 wr)) (fun v85 _ => 3 - (intOf v85).toNat)
    case atStart => exact ⟨0, by omega, rfl, Lib.hid (Fr.refl _ _)⟩
    case round =>
      obtain ⟨i, hi, rfl, HG⟩ := hrel
      have HDR := Lib.hid (HDL.out.gw HG.out)
      by_cases hi3 : i < 3
      · have hz3 : (i : Int) < 3 := by omega
        obtain ⟨f, hf⟩ : ∃ f : Int, ∀ V : World, (Instr.index 93 (.agg #[.int .i64 n, .int .i64 m0, .int .i64 q0]) (.int .i64 i)).run Try.prog V = .ok (.int .i64 f) V := by
          have h3 : i = 0 ∨ i = 1 ∨ i = 2 := by omega
          rcases h3 with rfl | rfl | rfl
          · exact ⟨n, fun V => by kernel_rfl⟩
          · exact ⟨m0, fun V => by kernel_rfl⟩
          · exact ⟨q0, fun V => by kernel_rfl⟩
        have HC34 := Lib.hid (d_at HDR.out f)
        have HC48 : Hid (∀ V, D w0 V [(Z, actBox wh ⟨m0, m1, m2, m3⟩ n)] X Y r b' l' b' k' → Calls Try.prog 48 #[.pointer (some ⟨Y, 0, none⟩), .int .i64 f] V (AtP (get l' f) (has l' f) V)) := Lib.hid (fun V hV => by rw [← (HPG.out f).1, ← (HPG.out f).2]; exact d_rat hV HKL.out f)
        generalize get l' f = g at *
        generalize has l' f = is at *
        obtain ⟨g0, g1, g2, g3⟩ := g
        go_wp2_with fail
        refine HC34.out.mono ?_
        rintro e w5 ⟨rfl, hg⟩
        have HD5 := Lib.hid (HDR.out.gw hg)
        have HG5 := Lib.hid (gw_trans HG.out hg)
        clear hg HC34
        go_wp2_with fail
        have hb5 := heap_alloc_new w5 (.cells #[.int .i64 g0, .int .i64 g1, .int .i64 g2, .int .u16 g3] 60)
        have y0 := cellAt hb5 0 _ rfl
        have y1 := cellAt hb5 1 _ rfl
        have y2 := cellAt hb5 2 _ rfl
        have y3 := cellAt hb5 3 _ rfl
        have HD6 := Lib.hid (HD5.out.gw (gw_alloc1 w5 (.cells #[.int .i64 g0, .int .i64 g1, .int .i64 g2, .int .u16 g3] 60)))
        have HG6 := Lib.hid (gw_trans HG5.out (gw_alloc1 w5 (.cells #[.int .i64 g0, .int .i64 g1, .int .i64 g2, .int .u16 g3] 60)))
        clear hb5 HD5 HG5
        generalize w5.alloc (.cells #[.int .i64 g0, .int .i64 g1, .int .i64 g2, .int .u16 g3] 60) = w6 at *
        refine (HC48.out _ HD6.out).mono ?_
        rintro e w7 ⟨rfl, hg⟩
        have y0 := cell_gw hg y0
        have y1 := cell_gw hg y1
        have y2 := cell_gw hg y2
        have y3 := cell_gw hg y3
        have HG7 := Lib.hid (gw_trans HG6.out hg)
        clear hg HC48 HD6 HG6
        go_upto_region 19 with fail
        have hg8 := gw_alloc1 w7 (.cells #[.int .i64 g0, .int .i64 g1, .int .i64 g2, .int .u16 g3] 60)
        have hb8 := heap_alloc_new w7 (.cells #[.int .i64 g0, .int .i64 g1, .int .i64 g2, .int .u16 g3] 60)
        have y0 := cell_gw hg8 y0
        have y1 := cell_gw hg8 y1
        have y2 := cell_gw hg8 y2
        have y3 := cell_gw hg8 y3
        have x0 := cellAt hb8 0 _ rfl
        have x1 := cellAt hb8 1 _ rfl
        have x2 := cellAt hb8 2 _ rfl
        have x3 := cellAt hb8 3 _ rfl
        have HG8 := Lib.hid (gw_trans HG7.out hg8)
        clear hg8 hb8 HG7
        generalize w7.alloc (.cells #[.int .i64 g0, .int .i64 g1, .int .i64 g2, .int .u16 g3] 60) = w8 at *
        generalize w7.heap.size = B7 at *
        generalize w5.heap.size = B5 at *
        go_wp2_with fail
        go_roundw
        case rel => exact ⟨i + 1, by omega, by go_num, HG8⟩
        case measure => simp [intOf]; omega
      · obtain rfl : i = 3 := by omega
        have c1 := HDR.out.cells.1
        obtain ⟨P, C, c2⟩ := HDR.out.cells.2
        rw [HN.out] at c2
        have HCS : Hid (∀ v, Gw wr v → v.cell? ⟨Y, 1, none⟩ = some (.int .i64 b') ∧ v.cell? ⟨Y, 2, none⟩ = some (.slice P N C)) := Lib.hid (fun v hg => ⟨cell_gw hg c1, cell_gw hg c2⟩)
        have HC33 : Hid (∀ V, D w0 V [(Z, actBox wh ⟨m0, m1, m2, m3⟩ n)] X Y r b' l' b' k' → Calls Try.prog 33 #[.pointer (some ⟨X, 0, none⟩)] V (fun e w' => e = .returned (.int .i64 (N : Int)) ∧ V = w')) := Lib.hid (fun V hV => by rw [← HLN.out]; exact d_len hV)
        have HC49 : Hid (∀ V, D w0 V [(Z, actBox wh ⟨m0, m1, m2, m3⟩ n)] X Y r b' l' b' k' → Calls Try.prog 49 #[.pointer (some ⟨Y, 0, none⟩)] V (CloneP V l')) := Lib.hid (fun V hV => by rw [← HROW.out]; exact d_rall hV HKL.out hbb)
        have HC37 : Hid (∀ V, D w0 V [(Z, actBox wh ⟨m0, m1, m2, m3⟩ n)] X Y r b' l' b' k' → Calls Try.prog 37 #[.pointer (some ⟨X, 0, none⟩)] V (fun e w' => e = .returned (.int .i64 b') ∧ V = w')) := Lib.hid (fun V hV => d_begin hV)
        have HC32 : Hid (∀ V, D w0 V [(Z, actBox wh ⟨m0, m1, m2, m3⟩ n)] X Y r b' l' b' k' → Calls Try.prog 32 #[.pointer (some ⟨X, 0, none⟩)] V (CloneP V l')) := Lib.hid (fun V hV => d_all hV)
        have hN48 : N ≤ 2048 := by rw [← HLN.out]; exact HDR.out.ok.len
        clear HDL hfld HC0
        go_wp2_with fail
        go_region_held3 (fun v => v.cell? ⟨Y, 1, none⟩ = some (.int .i64 b') ∧ v.cell? ⟨Y, 2, none⟩ = some (.slice P N C))
          ((refine HCS.out _ ?_; first | exact gw_drew _ | exact HG7.out | exact HG8.out | exact HG9.out))
          (first | (go_at_call 37; refine (HC37.out _ (HDR.out.gw (gw_drew _))).mono ?_; rintro e w6 ⟨rfl, rfl⟩) | (go_at_call 33; refine (HC33.out _ (HDR.out.gw (gw_drew _))).mono ?_; rintro e w6 ⟨rfl, rfl⟩) | (go_at_call 32; refine (HC32.out _ (HDR.out.gw (gw_drew _))).mono ?_; rintro e w7 ⟨P7, n7, C7, rfl, hr7, hg, _⟩; have e7 : n7 = N := (by rw [← hr7.2, HLN.out]); subst e7; have HR7 := Lib.hid hr7; have HG7 := Lib.hid (gw_trans (gw_drew _) hg); clear hr7 hg) | (go_at_call 49; refine (HC49.out _ (HDR.out.gw HG7.out)).mono ?_; rintro e w8 ⟨P8, n8, C8, rfl, hr8, hg, _⟩; have e8 : n8 = n7 := (by rw [← hr8.2, HLN.out]); subst e8; have HR8 := Lib.hid hr8; have HR7b : Hid (Row w8 P7 n8 C7 l') := Lib.hid ⟨own_gw' HR7.out.1 hg, HR7.out.2⟩; have HG8 := Lib.hid (gw_trans HG7.out hg); clear hr8 hg) | (go_at_call 35; refine (same _ _ _ _ _ l' _ HR7b.out.maps HR8.out.maps (by omega)).mono ?_; rintro e w9 ⟨rfl, hg⟩; have HG9 := Lib.hid (gw_trans HG8.out hg); clear hg))
        all_goals
          go_wp2_with fail
          go_ret
          exact ⟨rfl, b', l', k', (HDR.out.gw HG9.out).drop, HPC.out⟩
end Go.Proofs.Ytdaodpojcjbggaa.Rm
