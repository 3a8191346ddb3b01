/- The document's table: Cut. -/
import Derived.Test.YtdaodpojcjbggaaRmU
namespace Go.Proofs.Ytdaodpojcjbggaa.Rm
open Go.RowKit Go.Proofs.Ytdaodpojcjbggaa.Ln
set_option linter.unusedVariables false
set_option linter.unusedSimpArgs false

theorem heapSet {w : World} {b o e : Nat} {cur : Array Value} {fr : Nat × Nat} (h : w.heap[b]? = some (.cells cur e fr)) (v : Value) : (w.setCell ⟨b, o, none⟩ v).heap[b]? = some (.cells (cur.setIfInBounds o v) e fr) := by
  obtain ⟨hb, h⟩ := Array.getElem?_eq_some_iff.1 h
  simp [World.setCell, hb, Array.getElem_modify, h]
theorem frozenAt {W : World} {Z e : Nat} {cur : Array Value} (h : W.heap[Z]? = some (.cells cur e (0, 0))) (j : Nat) : W.frozen? ⟨Z, j, none⟩ = false := by
  unfold World.frozen?; simp only [h]; simp
theorem own_blk {w w' : World} {e size : Nat} {v : Value} {n : Nat} {xs : List Value} (h : Own w e size v n xs) (hb : ∀ j, v.ownBlock = some j → w'.heap[j]? = w.heap[j]?) : Own w' e size v n xs := by
  refine ⟨h.1, h.2.imp id ?_⟩
  rintro ⟨g, cap, cur, hv, h1, h2, h3⟩
  exact ⟨g, cap, cur, hv, h1, (hb g (by rw [hv]; rfl)).trans h2, h3⟩
theorem own_cap {w : World} {e size : Nat} {P : Option Addr} {n C : Nat} {xs : List Value} (h : Own w e size (.slice P n C) n xs) : n ≤ C ∧ C ≤ 9223372036854775807 := by
  rcases h.2 with ⟨e, e0⟩ | ⟨g, cap, cur, hv, _, _, hnc, hcm, _⟩
  · injection e with e1 e2 e3; omega
  · injection hv with e1 e2 e3; simp [maxLen] at hcm; omega
def RCutP (w : World) (Y : Nat) (r b : Int) (k : List M) (e : Ending) (w' : World) : Prop :=
  e = .returned (.tuple #[]) ∧ ∃ P C, RTab w' Y r b P C k ∧ Fr (fun j => j = Y) w w' ∧ ∀ x, (Value.slice P k.length C).ownBlock = some x → w.heap.size ≤ x
set_option maxRecDepth 100000 in
set_option maxHeartbeats 4000000 in
theorem rcut {w Y r b P C k} (h : RTab w Y r b P C k) (hk : k.length ≤ 3000) (n : Int) (hn : -9223372036854775808 ≤ n ∧ n < 9223372036854775808) :
    Calls Try.prog 46 #[.pointer (some ⟨Y, 0, none⟩), .int .i64 n] w (RCutP w Y r (cutB b n) (k.filter fun x => decide (cutB b n ≤ x.at'))) := by
  obtain ⟨B, hB⟩ : ∃ B, cutB b n = B := ⟨_, rfl⟩
  rw [hB]
  obtain ⟨q, hq⟩ : ∃ q : Int, (if 2305843009213693952 < n then (2305843009213693952 : Int) else n) = q := ⟨_, rfl⟩
  have hB2 : (if b < q then q else b) = B := by
    rw [← hB]; unfold cutB; rw [← hq]; split <;> split <;> omega
  have c1 : w.cell? ⟨Y, 1, none⟩ = some (.int .i64 b) := cellAt h.blkY 1 _ rfl
  have f1 := frozenAt h.blkY 1
  obtain ⟨W, hW⟩ : ∃ W, w.setCell ⟨Y, 1, none⟩ (.int .i64 B) = W := ⟨_, rfl⟩
  have hbW : W.heap[Y]? = some (.cells #[.int .i64 r, .int .i64 B, .slice P k.length C] 90) := by rw [← hW]; exact heapSet h.blkY _
  have hfW : Fr (fun j => j = Y) w W := by rw [← hW]; exact Fr.setCell (Fr.refl _ _) _ _ rfl
  have hoW : Own W 60 4 (.slice P k.length C) k.length (flat k) := own_blk h.own (fun j hj => by
    rcases h.own.2 with ⟨e, _⟩ | ⟨g, cap, cur, hv, _, hg, _⟩
    · rw [e] at hj; cases hj
    · rw [hv] at hj
      have hj := Option.some.inj hj
      subst hj
      exact hfW.block _ (Array.getElem?_eq_some_iff.1 hg).1 (h.ne _ (by rw [hv]; rfl)))
  have hcap := own_cap hoW
  have HMW := Lib.hid (own_maps hoW rfl)
  have HBW := Lib.hid hbW
  have HFW := Lib.hid hfW
  have HWW := Lib.hid hW
  have HSZ : Hid (W.heap.size = w.heap.size) := Lib.hid (by rw [← hW]; simp [World.setCell])
  have d1 : W.cell? ⟨Y, 1, none⟩ = some (.int .i64 B) := cellAt hbW 1 _ rfl
  have d2 : W.cell? ⟨Y, 2, none⟩ = some (.slice P k.length C) := cellAt hbW 2 _ rfl
  have g2 := frozenAt hbW 2
  obtain ⟨m, hm⟩ : ∃ m, k.length = m := ⟨_, rfl⟩
  rw [hm] at d2 hcap hk
  have HM := Lib.hid hm
  have hY := h.ltY
  have HYY := Lib.hid hY
  clear hB h hW hbW hfW hoW hm hY
  go_enter Try.func46, Try.ntmps46
  go_wp2_with fail
  rw [HWW.out]
  generalize hflt : (fun l : List M => l.filter fun x => decide (B ≤ x.at')) = flt
  have HT : Hid (∀ i, (hi : i < k.length) → flt (k.take (i + 1)) = flt (k.take i) ++ (if B ≤ k[i].at' then [k[i]] else [])) := Lib.hid (fun i hi => by
    subst hflt
    simp only
    rw [List.take_succ_eq_append_getElem hi, List.filter_append]
    congr 1
    by_cases e : B ≤ k[i].at'
    · simp [e]
    · simp [e])
  have HFL : Hid (k.filter (fun x => decide (B ≤ x.at')) = flt k ∧ flt [] = []) := Lib.hid ⟨by subst hflt; rfl, by subst hflt; rfl⟩
  clear hflt
  go_loopw [4, 5] (fun v4 v5 wr => ∃ (i c : Nat) (PR : Option Addr) (CR : Nat), i ≤ m ∧ c ≤ i ∧ v5 = .int .i64 i ∧ v4 = .slice PR c CR ∧ Hid (Own wr 60 4 (.slice PR c CR) c (flat (flt (k.take i))) ∧ (flt (k.take i)).length = c ∧ Gw W wr ∧ ∀ x, (Value.slice PR c CR).ownBlock = some x → w.heap.size ≤ x)) (fun _ v5 _ => m - (intOf v5).toNat)
  case atStart => exact ⟨0, 0, none, 0, Nat.zero_le _, Nat.le_refl _, rfl, rfl, Lib.hid ⟨by rw [List.take_zero, HFL.out.2]; exact World.ownsRow_nil _ _ _ _, by rw [List.take_zero, HFL.out.2]; rfl, Fr.refl _ _, by simp [Value.ownBlock]⟩⟩
  case round =>
    obtain ⟨i, c, PR, CR, hi, hci, rfl, rfl, HI⟩ := hrel
    have d1 := cell_gw HI.out.2.2.1 d1
    have d2 := cell_gw HI.out.2.2.1 d2
    by_cases hlt : i < m
    · have z0 : (i : Int) < m := by omega
      have zc : (m : Int) ≤ C := by omega
      have hik : i < k.length := by rw [HM.out]; exact hlt
      obtain ⟨g, off, rfl, m0, m1, m2, m3⟩ := (Maps.gw HI.out.2.2.1 HMW.out).at' hik
      have ht := HT.out i hik
      generalize k[i] = x at *
      obtain ⟨g0, g1, g2, g3⟩ := x
      simp only at m0 m1 m2 m3 ht
      go_wp2_with fail
      go_quiet (fail)
      have hg1 := gw_drewN HI.out.2.2.1 nq
      have HO : Hid (Own (wr.drewN nq) 60 4 (.slice PR c CR) c (flat (flt (k.take i)))) := Lib.hid HI.out.1
      have HL := Lib.hid HI.out.2.1
      have HB := Lib.hid HI.out.2.2.2
      have HG := Lib.hid hg1
      have d2 : (wr.drewN nq).cell? ⟨Y, 2, none⟩ = some (.slice (some ⟨g, off, none⟩) m C) := d2
      have m0 : (wr.drewN nq).cell? ⟨g, off + i * 4, none⟩ = some (.int .i64 g0) := m0
      have m1 : (wr.drewN nq).cell? ⟨g, off + i * 4 + 1, none⟩ = some (.int .i64 g1) := m1
      have m2 : (wr.drewN nq).cell? ⟨g, off + i * 4 + 2, none⟩ = some (.int .i64 g2) := m2
      have m3 : (wr.drewN nq).cell? ⟨g, off + i * 4 + 3, none⟩ = some (.int .u16 g3) := m3
      clear hg1 HI d1
      generalize wr.drewN nq = w1 at *
      by_cases he : B ≤ g0
      · rw [if_pos he] at ht
        have HTT := Lib.hid ht
        clear ht
        go_upto_region 6 with fail
        have hgx : Gw w1 (w1.alloc (.cells #[.int .i64 g0, .int .i64 g1, .int .i64 g2, .int .u16 g3] 60)) := gw_alloc1 _ _
        have hbx : (w1.alloc (.cells #[.int .i64 g0, .int .i64 g1, .int .i64 g2, .int .u16 g3] 60)).heap[w1.heap.size]? = some (.cells #[.int .i64 g0, .int .i64 g1, .int .i64 g2, .int .u16 g3] 60) := heap_alloc_new _ _
        have hsz2 : (w1.alloc (.cells #[.int .i64 g0, .int .i64 g1, .int .i64 g2, .int .u16 g3] 60)).heap.size = w1.heap.size + 1 := World.size_alloc _ _
        have hmp : Maps (w1.alloc (.cells #[.int .i64 g0, .int .i64 g1, .int .i64 g2, .int .u16 g3] 60)) (some ⟨w1.heap.size, 0, none⟩) 1 1 [⟨g0, g1, g2, g3⟩] := ⟨rfl, Nat.le_refl _, by omega, .inr ⟨_, 0, rfl, by omega, fun i hi => by
          obtain rfl : i = 0 := by simpa using hi
          exact ⟨cellAt hbx 0 _ rfl, cellAt hbx 1 _ rfl, cellAt hbx 2 _ rfl, cellAt hbx 3 _ rfl⟩⟩⟩
        have HAPP : Hid (∃ v' w', (Builtin.append_ #[66, 66] 66 #[.slice PR c CR, (.slice (some ⟨w1.heap.size, 0, none⟩) 1 1)]).run Try.prog (w1.alloc (.cells #[.int .i64 g0, .int .i64 g1, .int .i64 g2, .int .u16 g3] 60)) = .ok v' w' ∧ ∃ P2 C2, v' = .slice P2 (c + 1) C2 ∧ Hid (Own w' 60 4 (.slice P2 (c + 1) C2) (c + 1) (flat (flt (k.take (i + 1)))) ∧ (flt (k.take (i + 1))).length = c + 1 ∧ Gw W w' ∧ ∀ x, (Value.slice P2 (c + 1) C2).ownBlock = some x → w.heap.size ≤ x)) := Lib.hid (by
          obtain ⟨P2, cap, w', h1, h2, h3, h4⟩ := app_more (own_gw' HO.out hgx) 66 (.slice (some ⟨w1.heap.size, 0, none⟩) 1 1) 1 (src_maps hmp) (by omega)
          refine ⟨_, w', h1, P2, cap, rfl, Lib.hid ⟨by rw [HTT.out]; exact h2, by rw [HTT.out, List.length_append, HL.out]; rfl, Fr.trans (gw_trans HG.out hgx) (Fr.of_grown h3) (fun x hx e => ?_), fun x hx => ?_⟩⟩
          · have h6 := HB.out x e
            have h7 := HSZ.out
            show False; omega
          · rcases h4 with e | e
            · exact HB.out x (by rw [← e]; exact hx)
            · rw [hx, hsz2] at e
              have e := Option.some.inj e
              have := HG.out.size; have := HFW.out.size; omega)
        clear hgx hbx hsz2 hmp
        go_wp2_with (at_builtin; refine wpList_app rfl (.tmp 38) (.tmp 46) rfl (.slice PR c CR) (.slice (some ⟨w1.heap.size, 0, none⟩) 1 1) rfl rfl _ HAPP.out ?_; rintro v' w' ⟨P2, C2, rfl, HN⟩)
        go_roundw
        case rel => exact ⟨i + 1, c + 1, P2, C2, by omega, by omega, by go_num, rfl, HN⟩
        case measure => simp [intOf]; omega
      · rw [if_neg he, List.append_nil] at ht
        have HTT := Lib.hid ht
        clear ht
        have b1 : decide (B ≤ g0) = false := decide_eq_false he
        go_wp2_with fail
        go_roundw
        case rel => exact ⟨i + 1, c, PR, CR, by omega, by omega, by go_num, rfl, Lib.hid ⟨by rw [HTT.out]; exact HO.out, by rw [HTT.out]; exact HL.out, HG.out, HB.out⟩⟩
        case measure => simp [intOf]; omega
    · obtain rfl : i = m := by omega
      have hbr : wr.heap[Y]? = some (.cells #[.int .i64 r, .int .i64 B, .slice P k.length C] 90) := (HI.out.2.2.1.block Y (by rw [HSZ.out]; exact HYY.out) (fun h => h)).trans HBW.out
      have g2 := frozenAt hbr 2
      have HBR := Lib.hid hbr
      clear hbr
      have b6 : decide (i < i) = false := by simp
      go_wp2_with fail
      refine bodyPost_ret (v := .tuple #[]) (by simp [results, Try.results46, go_sem]) rfl ?_
      have htk : k.take i = k := List.take_of_length_le (by rw [HM.out]; exact Nat.le_refl _)
      have ho := HI.out.1
      have hl := HI.out.2.1
      rw [htk] at ho hl
      have hne : ∀ x, (Value.slice PR c CR).ownBlock = some x → x ≠ Y := fun x hx => by have := HI.out.2.2.2 x hx; have := HYY.out; omega
      refine ⟨rfl, PR, CR, ?_⟩
      rw [HFL.out.1, hl]
      refine ⟨⟨by rw [hl]; exact heapSet HBR.out _, ?_, by rw [hl]; exact hne⟩, Fr.setCell (Fr.trans HFW.out HI.out.2.2.1 (fun _ _ h => h.elim)) _ _ rfl, HI.out.2.2.2⟩
      rw [hl]
      exact own_blk ho (fun j hj => Below.heap_setCell wr ⟨Y, 2, none⟩ _ j (fun e => hne j hj (by first | exact e | exact e.symm)))
end Go.Proofs.Ytdaodpojcjbggaa.Rm
