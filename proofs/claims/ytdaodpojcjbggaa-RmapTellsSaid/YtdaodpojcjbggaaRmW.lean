/- The document's table: Put. -/
import Derived.Test.YtdaodpojcjbggaaRmV
import Derived.Test.YtdaodpojcjbggaaRmI
namespace Go.Proofs.Ytdaodpojcjbggaa.Rm
open Go.RowKit Go.Proofs.Ytdaodpojcjbggaa.Ln
set_option linter.unusedVariables false
set_option linter.unusedSimpArgs false

/-- What the document's Put leaves. -/
def RPutP (w : World) (Y : Nat) (r b : Int) (row : Option Nat) (k : List M) (t : Bool) (e : Ending) (w' : World) : Prop :=
  e = .returned (.bool t) ∧ ∃ P C, RTab w' Y r b P C k ∧ Fr (fun j => j = Y ∨ row = some j) w w' ∧ ∀ x, (Value.slice P k.length C).ownBlock = some x → row = some x ∨ w.heap.size ≤ x
theorem rput_keep {w w' : World} {Y : Nat} {r b : Int} {P : Option Addr} {C : Nat} {k : List M} (h : RTab w Y r b P C k) (hg : Gw w w') (t : Bool) : RPutP w Y r b (Value.slice P k.length C).ownBlock k t (.returned (.bool t)) w' :=
  ⟨rfl, P, C, h.gw hg, Fr.mono hg (fun _ h => h.elim), fun x hx => .inl hx⟩
/-- What the append leaves, ahead of the store. -/
def R3 (w : World) (Y : Nat) (r b : Int) (P : Option Addr) (n C : Nat) (row : Option Nat) (k2 : List M) (v : Value) (w' : World) : Prop :=
  ∃ P2 C2, v = .slice P2 (n + 1) C2 ∧ w'.heap[Y]? = some (.cells #[.int .i64 r, .int .i64 b, .slice P n C] 90) ∧ Own w' 60 4 (.slice P2 (n + 1) C2) (n + 1) (flat k2) ∧ Fr (fun j => row = some j) w w' ∧ ∀ x, (Value.slice P2 (n + 1) C2).ownBlock = some x → row = some x ∨ w.heap.size ≤ x
theorem app_r3 {w w4 : World} {Y : Nat} {r b : Int} {P : Option Addr} {n C : Nat} {k : List M} (h : RTab w Y r b P C k) (hg : Gw w w4) (hn : k.length = n) (hn2 : n ≤ 3000) (m : M) (t : TypeId) :
    ∃ v' w', (Builtin.append_ #[66, 66] t #[.slice P n C, .slice (some ⟨w4.heap.size, 0, none⟩) 1 1]).run Try.prog (w4.drew.alloc (.cells #[.int .i64 m.at', .int .i64 m.off, .int .i64 m.len, .int .u16 m.sum] 60)) = .ok v' w' ∧
      R3 w Y r b P n C (Value.slice P n C).ownBlock (k ++ [m]) v' w' := by
  subst hn
  have e : (w4.drew.alloc (.cells #[.int .i64 m.at', .int .i64 m.off, .int .i64 m.len, .int .u16 m.sum] 60)).heap.size = w4.heap.size + 1 := by rw [World.size_alloc]; rfl
  have hg1 : Gw w (w4.drew.alloc (.cells #[.int .i64 m.at', .int .i64 m.off, .int .i64 m.len, .int .u16 m.sum] 60)) := gw_trans hg (gw_trans (gw_drew _) (gw_alloc1 _ _))
  have hsrc := src_one (c := 1) (map_new w4.drew m w4.heap.size rfl 60) (by rw [e]; omega) (by omega)
  rw [← flat_one] at hsrc
  obtain ⟨P2, C2, w', h1, h2, h3, h4⟩ := app_more (own_gw' h.own hg1) t _ 1 hsrc (by omega)
  have hfr := Fr.of_grown h3
  refine ⟨_, w', h1, P2, C2, rfl, ?_, h2, Fr.trans (Fr.mono hg1 (fun _ h => h.elim)) hfr (fun x _ e => e), fun x hx => ?_⟩
  · refine (hfr.block Y (Nat.lt_of_lt_of_le h.ltY hg1.size) (fun e => h.ne Y e rfl)).trans ((hg1.block Y h.ltY (fun h => h)).trans h.blkY)
  · rcases h4 with e4 | e4
    · exact .inl (by rw [← e4]; exact hx)
    · rw [hx, e] at e4
      have := Option.some.inj e4
      have := hg.size
      exact .inr (by omega)
theorem rput_end {w w' : World} {Y : Nat} {r b : Int} {P : Option Addr} {n C : Nat} {k k2 : List M} {v : Value} (h : RTab w Y r b P C k) (hn : k.length = n) (hk2 : k2.length = n + 1) (h3 : R3 w Y r b P n C (Value.slice P n C).ownBlock k2 v w') :
    RPutP w Y r b (Value.slice P n C).ownBlock k2 true (.returned (.bool true)) (w'.setCell ⟨Y, 2, none⟩ v) := by
  obtain ⟨P2, C2, rfl, hY, ho, hf, hx⟩ := h3
  have hYw := h.ltY
  have hne : ∀ j, (Value.slice P2 (n + 1) C2).ownBlock = some j → j ≠ Y := fun j hj e => by
    subst e
    rcases hx j hj with e | e
    · subst hn; exact h.ne j e rfl
    · omega
  refine ⟨rfl, P2, C2, ⟨by rw [hk2]; exact heapSet hY _, ?_, by rw [hk2]; exact hne⟩, ?_, by rw [hk2]; exact hx⟩
  · rw [hk2]
    exact own_blk ho (fun j hj => Below.heap_setCell w' ⟨Y, 2, none⟩ _ j (fun e => hne j hj (by first | exact e | exact e.symm)))
  · exact Fr.setCell (Fr.mono hf (fun _ h => .inr h)) _ _ (.inl rfl)
set_option maxRecDepth 100000 in
set_option maxHeartbeats 4000000 in
theorem rput {w Y r b P C k} (h : RTab w Y r b P C k) (hk : k.length ≤ 2900) (hr : 1 ≤ r ∧ r ≤ 2048) (hb : 0 ≤ b ∧ b ≤ 2305843009213693952) (m : M) :
    Calls Try.prog 45 #[.pointer (some ⟨Y, 0, none⟩), agg m] w (RPutP w Y r b (Value.slice P k.length C).ownBlock (if putB r b k m then k ++ [m] else k) (putB r b k m)) := by
  obtain ⟨t, ht⟩ : ∃ t, putB r b k m = t := ⟨_, rfl⟩
  have HT := Lib.hid ht
  obtain ⟨hs, hhs⟩ : ∃ hs, has k m.at' = hs := ⟨_, rfl⟩
  obtain ⟨gt, hgt⟩ : ∃ gt, get k m.at' = gt := ⟨_, rfl⟩
  have HHS := Lib.hid hhs
  have HGT := Lib.hid hgt
  rw [ht]
  obtain ⟨k2, hk2⟩ : ∃ k2, (if t = true then k ++ [m] else k) = k2 := ⟨_, rfl⟩
  have HK2 := Lib.hid hk2
  rw [hk2]
  have HNOT : Hid (t = false → ∀ W, Gw w W → RPutP w Y r b (Value.slice P k.length C).ownBlock k2 t (.returned (.bool false)) W) := Lib.hid (fun e W hg => by
    subst e; rw [← hk2]; exact rput_keep h hg false)
  have HFN : Hid (putB r b k m = t → (hs = true ∨ m.len < 1 ∨ r < m.len ∨ m.off < 0 ∨ m.at' < b ∨ b + r ≤ m.at') → t = false) := Lib.hid (fun e hc => by
    rw [← e]; unfold putB
    rcases hc with hc | hc
    · rw [hhs, hc]; simp
    · rw [decide_eq_false (by unfold may; omega)]; rfl)
  clear ht hhs hgt hk2
  have c0 : w.cell? ⟨Y, 0, none⟩ = some (.int .i64 r) := cellAt h.blkY 0 _ rfl
  have c1 : w.cell? ⟨Y, 1, none⟩ = some (.int .i64 b) := cellAt h.blkY 1 _ rfl
  have H := Lib.hid h
  clear h
  obtain ⟨m0, m1, m2, m3⟩ := m
  have hg0 : Gw w (w.alloc (.cells #[.int .i64 m0, .int .i64 m1, .int .i64 m2, .int .u16 m3] 60)) := gw_alloc1 _ _
  have hb0 := heap_alloc_new w (.cells #[.int .i64 m0, .int .i64 m1, .int .i64 m2, .int .u16 m3] 60)
  have z0 : (w.alloc (.cells #[.int .i64 m0, .int .i64 m1, .int .i64 m2, .int .u16 m3] 60)).cell? ⟨w.heap.size, 0, none⟩ = some (.int .i64 m0) := cellAt hb0 0 _ rfl
  have z1 : (w.alloc (.cells #[.int .i64 m0, .int .i64 m1, .int .i64 m2, .int .u16 m3] 60)).cell? ⟨w.heap.size, 1, none⟩ = some (.int .i64 m1) := cellAt hb0 1 _ rfl
  have z2 : (w.alloc (.cells #[.int .i64 m0, .int .i64 m1, .int .i64 m2, .int .u16 m3] 60)).cell? ⟨w.heap.size, 2, none⟩ = some (.int .i64 m2) := cellAt hb0 2 _ rfl
  have z3 : (w.alloc (.cells #[.int .i64 m0, .int .i64 m1, .int .i64 m2, .int .u16 m3] 60)).cell? ⟨w.heap.size, 3, none⟩ = some (.int .u16 m3) := cellAt hb0 3 _ rfl
  have HG0 := Lib.hid hg0
  clear hg0 hb0
  go_enter Try.func45, Try.ntmps45
  go_wp2_with fail
  refine (rat (H.out.gw HG0.out) (by omega) m0).mono ?_
  rw [show get k m0 = gt from HGT.out, show has k m0 = hs from HHS.out]
  obtain ⟨g0, g1, g2, g3⟩ := gt
  rintro e w2 ⟨rfl, hg⟩
  have HG2 := Lib.hid (gw_trans HG0.out hg)
  have c0 := cell_gw HG2.out c0
  have c1 := cell_gw HG2.out c1
  have z0 := cell_gw hg z0
  have z1 := cell_gw hg z1
  have z2 := cell_gw hg z2
  have z3 := cell_gw hg z3
  clear hg
  go_wp2_with fail
  have hga := gw_alloc1 w2 (.cells #[.int .i64 g0, .int .i64 g1, .int .i64 g2, .int .u16 g3] 60)
  have HG3 := Lib.hid (gw_trans HG2.out hga)
  have c0 := cell_gw hga c0
  have c1 := cell_gw hga c1
  have z0 := cell_gw hga z0
  have z1 := cell_gw hga z1
  have z2 := cell_gw hga z2
  have z3 := cell_gw hga z3
  clear hga HG2 HG0
  generalize w2.alloc (.cells #[.int .i64 g0, .int .i64 g1, .int .i64 g2, .int .u16 g3] 60) = w3 at *
  cases hs with
  | true =>
    have htf := HFN.out HT.out (by first | (left; rfl) | (right; omega))
    have HQ := Lib.hid (HNOT.out htf)
    clear htf
    go_quiet (fail)
    have hg4 := gw_drewN HG3.out nq
    generalize w3.drewN nq = w4 at *
    go_wp2_with fail
    go_ret
    exact HQ.out _ hg4
  | false =>
    by_cases e1 : m2 < 1
    · have htf := HFN.out HT.out (by first | (left; rfl) | (right; omega))
      have HQ := Lib.hid (HNOT.out htf)
      clear htf
      go_quiet (fail)
      have hg4 := gw_drewN HG3.out nq
      generalize w3.drewN nq = w4 at *
      go_wp2_with fail
      go_ret
      exact HQ.out _ hg4
    · by_cases e2 : r < m2
      · have htf := HFN.out HT.out (by first | (left; rfl) | (right; omega))
        have HQ := Lib.hid (HNOT.out htf)
        clear htf
        go_quiet (fail)
        have hg4 := gw_drewN HG3.out nq
        generalize w3.drewN nq = w4 at *
        go_wp2_with fail
        go_ret
        exact HQ.out _ hg4
      · by_cases e3 : m1 < 0
        · have htf := HFN.out HT.out (by first | (left; rfl) | (right; omega))
          have HQ := Lib.hid (HNOT.out htf)
          clear htf
          go_quiet (fail)
          have hg4 := gw_drewN HG3.out nq
          generalize w3.drewN nq = w4 at *
          go_wp2_with fail
          go_ret
          exact HQ.out _ hg4
        · by_cases e4 : m0 < b
          · have htf := HFN.out HT.out (by first | (left; rfl) | (right; omega))
            have HQ := Lib.hid (HNOT.out htf)
            clear htf
            go_quiet (fail)
            have hg4 := gw_drewN HG3.out nq
            generalize w3.drewN nq = w4 at *
            go_wp2_with fail
            go_ret
            exact HQ.out _ hg4
          · by_cases e5 : b + r ≤ m0
            · have htf := HFN.out HT.out (by first | (left; rfl) | (right; omega))
              have HQ := Lib.hid (HNOT.out htf)
              clear htf
              go_quiet (fail)
              have hg4 := gw_drewN HG3.out nq
              generalize w3.drewN nq = w4 at *
              go_wp2_with fail
              go_ret
              exact HQ.out _ hg4
            · go_quiet (fail)
              have hg4 := gw_drewN HG3.out nq
              have z0 : (w3.drewN nq).cell? ⟨w.heap.size, 0, none⟩ = some (.int .i64 m0) := z0
              have z1 : (w3.drewN nq).cell? ⟨w.heap.size, 1, none⟩ = some (.int .i64 m1) := z1
              have z2 : (w3.drewN nq).cell? ⟨w.heap.size, 2, none⟩ = some (.int .i64 m2) := z2
              have z3 : (w3.drewN nq).cell? ⟨w.heap.size, 3, none⟩ = some (.int .u16 m3) := z3
              have HG4 := Lib.hid hg4
              clear hg4 c0 c1
              generalize w3.drewN nq = w4 at *
              have htt : t = true := by
                rw [← HT.out]
                unfold putB
                rw [decide_eq_true (by unfold may; simp only; omega), show has k m0 = false from HHS.out]; rfl
              have hkk : k ++ [⟨m0, m1, m2, m3⟩] = k2 := by rw [← HK2.out, if_pos htt]
              subst htt
              obtain ⟨n, hn⟩ : ∃ n, k.length = n := ⟨_, rfl⟩
              rw [hn] at hk ⊢
              have hlen : k2.length = n + 1 := by rw [← hkk, List.length_append, hn]; rfl
              have HAPP := Lib.hid (app_r3 H.out HG4.out hn (by omega) ⟨m0, m1, m2, m3⟩ 66)
              rw [hkk] at HAPP
              have HEND : Hid (∀ v W, R3 w Y r b P n C (Value.slice P n C).ownBlock k2 v W → RPutP w Y r b (Value.slice P n C).ownBlock k2 true (.returned (.bool true)) (W.setCell ⟨Y, 2, none⟩ v)) := Lib.hid (fun v W h3 => rput_end H.out hn hlen h3)
              have HY : Hid (∀ v W, R3 w Y r b P n C (Value.slice P n C).ownBlock k2 v W → W.cell? ⟨Y, 2, none⟩ = some (.slice P n C) ∧ W.frozen? ⟨Y, 2, none⟩ = false) := Lib.hid (fun v W h3 => by
                obtain ⟨P2, C2, _, hY, _⟩ := h3
                exact ⟨cellAt hY 2 _ rfl, frozenAt hY 2⟩)
              have c2 : w4.cell? ⟨Y, 2, none⟩ = some (.slice P n C) := by rw [← hn]; exact cell_gw HG4.out (cellAt H.out.blkY 2 _ rfl)
              have hYw : Y < w4.heap.size := World.block_lt_of_cell? _ _ c2
              have c2a : (w4.alloc (.cells #[.int .i64 m0, .int .i64 m1, .int .i64 m2, .int .u16 m3] 60)).cell? ⟨Y, 2, none⟩ = some (.slice P n C) := cell_gw (gw_alloc1 _ _) c2
              have HN := Lib.hid hn
              clear hn hlen hkk HFN HNOT HT HHS HGT HK2
              go_upto_region 4 with fail
              go_region_law ((refine step_app rfl (.tmp 61) (.tmp 63) rfl _ _ rfl rfl _ HAPP.out ?_; rintro v1 w5 hr3; have e2 := (HY.out v1 w5 hr3).1; have f2 := (HY.out v1 w5 hr3).2; obtain ⟨P2, C2, hv, _⟩ := id hr3; subst hv; have HR3 := Lib.hid hr3; clear hr3))
              all_goals
                go_wp2_with fail
                go_ret
                show RPutP w Y r b (Value.slice P k.length C).ownBlock k2 true (.returned (.bool true)) _
                rw [HN.out]
                exact HEND.out _ _ HR3.out
end Go.Proofs.Ytdaodpojcjbggaa.Rm
