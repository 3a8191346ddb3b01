/- Put: a mapping more. -/
import Derived.Test.YtdaodpojcjbggaaRmG
namespace Go.Proofs.Ytdaodpojcjbggaa.Rm
open Go.RowKit Go.Proofs.Ytdaodpojcjbggaa.Ln
set_option linter.unusedVariables false
set_option linter.unusedSimpArgs false

theorem src_one {W : World} {b c : Nat} {m : M} (h : MapAt W b 0 m) (hb : b < W.heap.size) (hc : 1 ≤ c ∧ c ≤ 9223372036854775807) : Src Try.prog 4 66 (.slice (some ⟨b, 0, none⟩) 1 c) 1 (cells m) W := by
  have hm : Maps W (some ⟨b, 0, none⟩) 1 c [m] := ⟨rfl, hc.1, hc.2, .inr ⟨b, 0, rfl, hb, fun i hi => by
    have : i = 0 := by simpa using hi
    subst this; exact h⟩⟩
  have := src_maps hm
  rwa [flat_one] at this
theorem map_new (W : World) (m : M) (b : Nat) (h : W.heap.size = b) (t : TypeId) : MapAt (W.alloc (.cells #[.int .i64 m.at', .int .i64 m.off, .int .i64 m.len, .int .u16 m.sum] t)) b 0 m := by
  subst h
  exact ⟨by rw [World.cell?_alloc_new]; rfl, by rw [World.cell?_alloc_new]; rfl, by rw [World.cell?_alloc_new]; rfl, by rw [World.cell?_alloc_new]; rfl⟩
/-- What the first append leaves. -/
def R1 (W0 : World) (B i : Nat) (k : List M) (v : Value) (w : World) : Prop := ∃ cap, v = .slice (some ⟨B, 0, none⟩) (i + 1) cap ∧ Own w 60 4 (.slice (some ⟨B, 0, none⟩) (i + 1) cap) (i + 1) (flat k) ∧ Gw W0 w
theorem app_r1 {w0 : World} {A : Option Addr} {n C i : Nat} {l : List M} (h : Maps w0 A n C l) (hi : i ≤ n) (hn : n ≤ 2048) (m : M) (t : TypeId) :
    ∃ v' w', (Builtin.append_ #[66, 66] t #[.slice A i i, .slice (some ⟨w0.heap.size, 0, none⟩) 1 1]).run Try.prog (w0.drew.alloc (.cells #[.int .i64 m.at', .int .i64 m.off, .int .i64 m.len, .int .u16 m.sum] 60)) = .ok v' w' ∧
      R1 (w0.drew.alloc (.cells #[.int .i64 m.at', .int .i64 m.off, .int .i64 m.len, .int .u16 m.sum] 60)) (w0.heap.size + 1) i (l.take i ++ [m]) v' w' := by
  have e : (w0.drew.alloc (.cells #[.int .i64 m.at', .int .i64 m.off, .int .i64 m.len, .int .u16 m.sum] 60)).heap.size = w0.heap.size + 1 := by rw [World.size_alloc]; rfl
  obtain ⟨cap, w1, h1, h2, h3, _⟩ := app_first ((h.gw (gw_trans (gw_drew _) (gw_alloc1 _ (.cells #[.int .i64 m.at', .int .i64 m.off, .int .i64 m.len, .int .u16 m.sum] 60)))).part i hi) (by omega) t _ m (src_one (c := 1) (map_new w0.drew m w0.heap.size rfl 60) (by rw [e]; omega) (by omega))
  rw [e] at h1 h2
  exact ⟨_, w1, h1, cap, rfl, h2, h3⟩
/-- What the second one leaves. -/
def R2 (W0 : World) (n : Nat) (k : List M) (v : Value) (w : World) : Prop := ∃ P cap, v = .slice P n cap ∧ Own w 60 4 (.slice P n cap) n (flat k) ∧ Gw W0 w ∧ (∀ j, blk P = some j → W0.heap.size ≤ j)
theorem app_r2 {W0 w1 : World} {B n cap m Cm : Nat} {k l : List M} {P : Option Addr} (h : Own w1 60 4 (.slice (some ⟨B, 0, none⟩) n cap) n (flat k)) (hg : Gw W0 w1) (hB : W0.heap.size ≤ B) (t : TypeId) (hm : Maps w1 P m Cm l) (hn : n + m ≤ 100000) :
    ∃ v' w', (Builtin.append_ #[66, 66] t #[.slice (some ⟨B, 0, none⟩) n cap, .slice P m Cm]).run Try.prog w1 = .ok v' w' ∧ R2 W0 (n + m) (k ++ l) v' w' := by
  obtain ⟨P', cap', w', h1, h2, h3, h4⟩ := app_more h t (.slice P m Cm) m (src_maps hm) hn
  rw [ownBlock_blk] at h3
  have hfr := Fr.of_grown h3
  refine ⟨_, w', h1, P', cap', rfl, h2, Fr.trans hg hfr (fun x hx e => by have e : B = x := Option.some.inj e; show False; omega), fun j hj => ?_⟩
  rw [ownBlock_blk, ownBlock_blk, hj] at h4
  rcases h4 with e | e
  · have e : j = B := Option.some.inj e
    omega
  · have e := Option.some.inj e
    have := hg.size; omega
theorem slice_to (A : Option Addr) (n C i : Nat) (hA : A = none → n = 0 ∧ C = 0) (hin : i ≤ n) (hnC : n ≤ C) (hC : C ≤ 9223372036854775807) (V : World) : (Instr.slice 66 (.slice A n C) none (some (.int .i64 i)) (some (.int .i64 i))).run Try.prog V = .ok (.slice A i i) V := by
  rcases A with _ | ⟨g, off, sp⟩
  · obtain ⟨rfl, rfl⟩ := hA rfl
    obtain rfl : i = 0 := by omega
    kernel_rfl
  · clear hA
    have g1 : (0 : Int) ≤ (i : Int) := by omega
    have g2 : (i : Int) ≤ C := by omega
    have g3 : ¬ (C : Int) < i := by omega
    go_simp
theorem slice_from {W : World} {A : Option Addr} {n C i : Nat} {l : List M} (hm : Maps W A n C l) (him : i ≤ n) :
    ∃ (P : Option Addr) (C' : Nat), (∀ V : World, (Instr.slice 66 (.slice A n C) (some (.int .i64 i)) none none).run Try.prog V = .ok (.slice P (n - i) C') V) ∧ (∀ V, Gw W V → Maps V P (n - i) C' (l.drop i)) ∧ (∀ k, blk P = some k → blk A = some k) := by
  have hC := hm.2.2.1
  have hnC := hm.2.1
  have hln := hm.1
  rcases hm.2.2.2 with ⟨rfl, rfl, rfl⟩ | ⟨g, off, rfl, _⟩
  · obtain rfl : i = 0 := by omega
    exact ⟨none, 0, fun V => by kernel_rfl, fun V hV => ⟨by rw [List.length_drop, hln], by omega, by omega, .inl ⟨rfl, by omega, rfl⟩⟩, fun k h => h⟩
  · by_cases hCi : C = i
    · refine ⟨some ⟨g, off, none⟩, 0, fun V => ?_, fun V hV => ⟨by rw [List.length_drop, hln], by omega, by omega, ?_⟩, fun k h => h⟩
      · obtain rfl : n = i := by omega
        subst hCi
        clear hm hln
        have g1 : (0 : Int) ≤ (C : Int) := by omega
        go_simp
      · rcases (hm.gw hV).2.2.2 with ⟨e, _⟩ | ⟨g', off', e, hg, _⟩
        · cases e
        · cases e
          exact .inr ⟨g, off, rfl, hg, fun j hj => by rw [List.length_drop, hln] at hj; omega⟩
    · refine ⟨some ⟨g, off + i * 4, none⟩, C - i, fun V => ?_, fun V hV => (hm.gw hV).rest i him, fun k h => h⟩
      clear hm hln
      have g1 : (0 : Int) ≤ (i : Int) := by omega
      have g2 : (i : Int) ≤ n := by omega
      have g3 : ¬ (n : Int) < i := by omega
      have g4 : (n : Int) ≤ C := by omega
      have g5 : ¬ (C : Int) < n := by omega
      go_simp

set_option maxRecDepth 100000 in
set_option maxHeartbeats 4000000 in
theorem put_ok {w0 w H X r b l} (h : TS w0 w H X r b l) (m : M) (ho : m.off < 9223372036854775808) (hs : 0 ≤ m.sum ∧ m.sum < 65536) (hm : may r b m) (hh : has l m.at' = false) :
    Calls Try.prog 31 #[.pointer (some ⟨X, 0, none⟩), agg m] w (TabP w0 w H X r b (ins l m) (.returned (.bool true))) := by
  obtain ⟨W, hW⟩ : ∃ W, w.alloc (.cells #[.int .i64 m.at', .int .i64 m.off, .int .i64 m.len, .int .u16 m.sum] 60) = W := ⟨_, rfl⟩
  have hg : Gw w W := by rw [← hW]; exact gw_alloc1 _ _
  have m0 : W.cell? ⟨w.heap.size, 0, none⟩ = some (.int .i64 m.at') := by rw [← hW, World.cell?_alloc_new]; rfl
  have m1 : W.cell? ⟨w.heap.size, 1, none⟩ = some (.int .i64 m.off) := by rw [← hW, World.cell?_alloc_new]; rfl
  have m2 : W.cell? ⟨w.heap.size, 2, none⟩ = some (.int .i64 m.len) := by rw [← hW, World.cell?_alloc_new]; rfl
  have m3 : W.cell? ⟨w.heap.size, 3, none⟩ = some (.int .u16 m.sum) := by rw [← hW, World.cell?_alloc_new]; rfl
  obtain ⟨hin, h0, hH, A, C, T, hA⟩ := h
  have hpB : putB r b l m = true := by unfold putB; rw [hh]; simp [hm]
  have hok : Ok r b (ins l m) := by
    have := T.ok.put m ho hs
    unfold putL at this; rw [if_pos hpB] at this; exact this
  have c0 := cell_gw hg T.c0
  have c1 := cell_gw hg T.c1
  have hb := T.ok.b
  have hr := T.ok.r
  have hlen := T.ok.len
  have HH := Lib.hid hh
  have HF := Lib.hid (fun n : Nat => find (T.gw (gw_drewN hg n)) m.at')
  have HT := Lib.hid T
  have HHd := Lib.hid hH
  have HA := Lib.hid hA
  have HOK := Lib.hid hok
  have HG := Lib.hid hg
  have HW := Lib.hid hW
  obtain ⟨k1, k2, k3, k4, k5⟩ := hm
  have y1 : decide (m.len < 1) = false := decide_eq_false (by omega)
  have y2 : decide (r < m.len) = false := decide_eq_false (by omega)
  have y3 : decide (m.off < 0) = false := decide_eq_false (by omega)
  have y4 : decide (m.at' < b) = false := decide_eq_false (by omega)
  have y5 : decide (r ≤ m.at' - b) = false := decide_eq_false (by omega)
  have h6 : IntKind.i64.wrap (m.at' - b) = m.at' - b := IntWalk.i64_in _ (by omega)
  obtain ⟨n, hn⟩ : ∃ n, l.length = n := ⟨_, rfl⟩
  obtain ⟨i, hi⟩ : ∃ i, pos l m.at' = i := ⟨_, rfl⟩
  have hin2 : i ≤ n := by rw [← hi, ← hn]; exact pos_le _ _
  have hnone : A = none → n = 0 ∧ C = 0 := by
    intro e
    rcases T.maps.2.2.2 with ⟨_, e1, e2⟩ | ⟨g, off, e1, _⟩
    · exact ⟨by omega, e2⟩
    · rw [e] at e1; cases e1
  have hnC : n ≤ C := by rw [← hn]; exact T.maps.2.1
  have hs1 := slice_to A n C i hnone hin2 hnC T.maps.2.2.1
  have hmaps := T.maps
  rw [hn] at hmaps hlen
  obtain ⟨P, C', hs2, hmp, hPA⟩ := slice_from hmaps hin2
  have HM := Lib.hid hmaps
  have HMP := Lib.hid hmp
  have HI := Lib.hid hi
  have HN := Lib.hid hn
  have c2 := cell_gw hg T.c2
  rw [hn] at c2
  have q2 : W.frozen? ⟨X, 2, none⟩ = false := (World.frozen?_of_block (a := ⟨X, 2, none⟩) (hg.block X T.ltX (fun h => h))).trans T.f2
  have HQ2 := Lib.hid q2
  have hXW : X < W.heap.size := Nat.lt_of_lt_of_le T.ltX hg.size
  have hZW : w.heap.size < W.heap.size := World.block_lt_of_cell? _ _ m0
  have HS1 := Lib.hid hs1
  have HS2 := Lib.hid hs2
  clear T hW hg hh hH hA hok hpB k1 k2 k3 k4 k5 hn hi hmaps hmp hPA q2 hs1 hs2 hnone
  go_enter Try.func31, Try.ntmps31
  go_wp2_with fail
  rw [HW.out]
  go_quiet (fail)
  have x0 : (W.drewN nq).cell? ⟨w.heap.size, 0, none⟩ = some (.int .i64 m.at') := m0
  clear y1 y2 y3 y4 y5 h6
  go_wp2_with ((go_at_call 50; refine (HF.out nq).mono ?_; rw [show FindP l m.at' (W.drewN nq) = fun e w' => e = .returned (.tuple #[.int .i64 (pos l m.at'), .bool (has l m.at')]) ∧ Gw (W.drewN nq) w' from rfl, HH.out, HI.out]; rintro e w' ⟨rfl, hg2⟩; have HG2 := Lib.hid (gw_undrewN hg2); clear hg2))
  have z2 := cell_gw HG2.out c2
  have b0 := cell_gw HG2.out m0
  have b1 := cell_gw HG2.out m1
  have b2 := cell_gw HG2.out m2
  have b3 := cell_gw HG2.out m3
  have hs1 := HS1.out
  have hs2 := HS2.out
  clear x0 m0 m1 m2 m3 c0 c1 c2
  have hgW : Gw w w' := gw_trans HG.out HG2.out
  have HGW := Lib.hid hgW
  have f2 : w'.frozen? ⟨X, 2, none⟩ = false := (World.frozen?_of_block (a := ⟨X, 2, none⟩) (HG2.out.block X hXW (fun h => h))).trans HQ2.out
  have HF2 := Lib.hid f2
  have hXw : X < w'.heap.size := Nat.lt_of_lt_of_le hXW HG2.out.size
  have hend : ∀ (w2 : World) (P2 : Option Addr) (cap2 : Nat), w2.cell? ⟨X, 2, none⟩ = some (.slice A n C) → w2.frozen? ⟨X, 2, none⟩ = false → Gw w' w2 → Own w2 60 4 (.slice P2 (i + 1 + (n - i)) cap2) (i + 1 + (n - i)) (flat (l.take i ++ [m] ++ l.drop i)) → (∀ j, blk P2 = some j → w'.heap.size ≤ j) →
      TabP w0 w H X r b (ins l m) (.returned (.bool true)) (.returned (.bool true)) (w2.setCell ⟨X, 2, none⟩ (.slice P2 (i + 1 + (n - i)) cap2)) := by
    intro w2 P2 cap2 e2 f2 hg2 ho2 hP2
    have hI : l.take i ++ [m] ++ l.drop i = ins l m := by unfold ins; rw [HI.out]; simp
    rw [hI] at ho2
    have hgw2 := gw_trans hgW hg2
    have hln : (ins l m).length = i + 1 + (n - i) := by rw [length_ins, HN.out]; omega
    have hT := HT.out
    obtain ⟨t1, t2⟩ := lay_tab hin h0 HHd.out hT (hgw2.mono (fun _ h => h.elim)) hln (cell_gw hgw2 hT.c0) (cell_gw hgw2 hT.c1) e2
      ((World.frozen?_of_block (a := ⟨X, 1, none⟩) (hgw2.block X hT.ltX (fun h => h))).trans hT.f1) f2 (own_maps ho2 hln)
      (fun j hj => ⟨fun e => by have := HHd.out j e; have := hP2 j hj; have := hgW.size; omega, by have := hP2 j hj; have := hgW.size; have := hT.ltX; omega⟩) HOK.out
    exact ⟨rfl, t1, t2⟩
  have HEND := Lib.hid hend
  clear hgW f2 hend
  go_region_law ((first | (refine step_app rfl (.tmp 66) (.tmp 68) rfl _ _ rfl rfl _ (app_r1 (HM.out.gw HGW.out) hin2 hlen m 66) ?_; rintro v1 w1 ⟨cap1, rfl, ho1, hg1⟩; have HO1 := Lib.hid ho1; have HGA := Lib.hid (gw_trans (gw_trans (gw_drew _) (gw_alloc1 _ _)) hg1); have a2 := cell_gw HGA.out z2; have a0 := cell_gw HGA.out b0; have a1 := cell_gw HGA.out b1; have a3 := cell_gw HGA.out b2; have a4 := cell_gw HGA.out b3; have HW1 := Lib.hid hg1; clear ho1 hg1) | (refine step_app rfl (.tmp 69) (.tmp 75) rfl _ _ rfl rfl _ (app_r2 HO1.out HGA.out (Nat.le_succ _) 66 (HMP.out _ (gw_trans HGW.out HGA.out)) (by omega)) ?_; rintro v2 w2 ⟨P2, cap2, rfl, ho2, hg2, hP2⟩; have HO2 := Lib.hid ho2; have HGB := Lib.hid hg2; have HP2 := Lib.hid hP2; have f2 : w2.frozen? ⟨X, 2, none⟩ = false := (World.frozen?_of_block (a := ⟨X, 2, none⟩) (hg2.block X hXw (fun h => h))).trans HF2.out; have e2 := cell_gw hg2 z2; clear ho2 hg2 hP2)))
  all_goals
    go_wp2_with fail
    go_ret
    exact HEND.out w2 P2 cap2 e2 f2 HGB.out HO2.out HP2.out
end Go.Proofs.Ytdaodpojcjbggaa.Rm
