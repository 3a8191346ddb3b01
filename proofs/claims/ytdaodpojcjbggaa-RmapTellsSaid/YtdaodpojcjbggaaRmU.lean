/- The document's table: All. -/
import Derived.Test.YtdaodpojcjbggaaRmT
import Derived.Deep.DeepCutAuto
namespace Go.Proofs.Ytdaodpojcjbggaa.Rm
open Go.RowKit Go.Proofs.Ytdaodpojcjbggaa.Ln
set_option linter.unusedVariables false
set_option linter.unusedSimpArgs false

theorem RTab.gw {w w' Y r b P C k} (h : RTab w Y r b P C k) (hg : Gw w w') : RTab w' Y r b P C k := by
  refine ⟨(hg.block Y h.ltY (fun h => h)).trans h.blkY, ⟨h.own.1, h.own.2.imp id ?_⟩, h.ne⟩
  rintro ⟨g, cap, cur, hv, h1, h2, h3⟩
  exact ⟨g, cap, cur, hv, h1, (hg.block g (Array.getElem?_eq_some_iff.1 h2).1 (fun h => h)).trans h2, h3⟩
theorem own_gw' {w w' : World} {e size : Nat} {v : Value} {n : Nat} {xs : List Value} (h : Own w e size v n xs) (hg : Gw w w') : Own w' e size v n xs := by
  refine ⟨h.1, h.2.imp id ?_⟩
  rintro ⟨g, cap, cur, hv, h1, h2, h3⟩
  exact ⟨g, cap, cur, hv, h1, (hg.block g (Array.getElem?_eq_some_iff.1 h2).1 (fun h => h)).trans h2, h3⟩
/-- What the document's All has gathered after j places. -/
def rows (k : List M) (b : Int) (j : Nat) : List M := (List.range j).flatMap fun (i : Nat) => if has k (b + (i : Int)) then [get k (b + (i : Int))] else []
theorem rows_succ (k : List M) (b : Int) (j : Nat) : rows k b (j + 1) = rows k b j ++ (if has k (b + j) then [get k (b + j)] else []) := by
  unfold rows; rw [List.range_succ, List.flatMap_append]; simp
theorem rows_len (k : List M) (b : Int) (j : Nat) : (rows k b j).length ≤ j := by
  induction j with
  | zero => exact Nat.le_refl _
  | succ j ih => rw [rows_succ, List.length_append]; split <;> simp <;> omega
set_option maxRecDepth 100000 in
set_option maxHeartbeats 4000000 in
theorem rall {w Y r b P C k} (h : RTab w Y r b P C k) (hk : k.length ≤ 3000) (hr : 1 ≤ r ∧ r ≤ 2048) (hb : 0 ≤ b ∧ b ≤ 2305843009213693952) : Calls Try.prog 49 #[.pointer (some ⟨Y, 0, none⟩)] w (CloneP w (rows k b r.toNat)) := by
  obtain ⟨r, rfl⟩ := Int.eq_ofNat_of_zero_le (a := r) (by omega)
  rw [show ((r : Int)).toNat = r from rfl]
  have c0 : w.cell? ⟨Y, 0, none⟩ = some (.int .i64 r) := cellAt h.blkY 0 _ rfl
  have c1 : w.cell? ⟨Y, 1, none⟩ = some (.int .i64 b) := cellAt h.blkY 1 _ rfl
  have H := Lib.hid h
  clear h
  go_enter Try.func49, Try.ntmps49
  go_wp2_with fail
  go_loopw [3, 4] (fun v3 v4 wr => ∃ (j m : Nat) (PR : Option Addr) (CR : Nat), j ≤ r ∧ v4 = .int .i64 (b + j) ∧ v3 = .slice PR m CR ∧ Hid (Own wr 60 4 (.slice PR m CR) m (flat (rows k b j)) ∧ (rows k b j).length = m ∧ Gw w wr ∧ ∀ x, (Value.slice PR m CR).ownBlock = some x → w.heap.size ≤ x)) (fun _ v4 _ => r - (intOf v4 - b).toNat)
  case atStart => exact ⟨0, 0, none, 0, Nat.zero_le _, by simp, rfl, Lib.hid ⟨World.ownsRow_nil _ _ _ _, rfl, Fr.refl _ _, by simp [Value.ownBlock]⟩⟩
  case round =>
    obtain ⟨j, m, PR, CR, hj, rfl, rfl, HI⟩ := hrel
    have c0 := cell_gw HI.out.2.2.1 c0
    have c1 := cell_gw HI.out.2.2.1 c1
    have hml : m ≤ j := by rw [← HI.out.2.1]; exact rows_len k b j
    by_cases hlt : j < r
    · have z0 : b + (j : Int) < b + r := by omega
      go_wp2_with fail
      go_quiet (fail)
      have hg1 := gw_drewN HI.out.2.2.1 nq
      have HO : Hid (Own (wr.drewN nq) 60 4 (.slice PR m CR) m (flat (rows k b j))) := HI.out.1 |> Lib.hid
      have HL := Lib.hid HI.out.2.1
      have HB := Lib.hid HI.out.2.2.2
      have HG := Lib.hid hg1
      clear hg1 HI c0 c1
      generalize wr.drewN nq = w1 at *
      have HSU := Lib.hid (rows_succ k b j)
      go_wp2_with fail
      refine (rat (H.out.gw HG.out) hk (b + j)).mono ?_
      obtain ⟨x, hx⟩ : ∃ x, has k (b + (j : Int)) = x := ⟨_, rfl⟩
      obtain ⟨g, hgg⟩ : ∃ g, get k (b + (j : Int)) = g := ⟨_, rfl⟩
      rw [hx, hgg] at HSU ⊢
      clear hx hgg
      rintro e w2 ⟨rfl, hg⟩
      have HG2 := Lib.hid (gw_trans HG.out hg)
      have HF := Lib.hid hg
      clear hg
      obtain ⟨g0, g1, g2, g3⟩ := g
      cases x with
      | false =>
        go_wp2_with fail
        have hga := gw_alloc1 w2 (.cells #[.int .i64 g0, .int .i64 g1, .int .i64 g2, .int .u16 g3] 60)
        have hfa : Gw w1 (w2.alloc (.cells #[.int .i64 g0, .int .i64 g1, .int .i64 g2, .int .u16 g3] 60)) := gw_trans HF.out hga
        go_roundw
        case rel => exact ⟨j + 1, m, PR, CR, by omega, by rw [Int.natCast_add]; congr 1; simp; omega, rfl, Lib.hid ⟨by rw [HSU.out]; simpa using own_gw' HO.out hfa, by rw [HSU.out]; simpa using HL.out, gw_trans HG2.out hga, HB.out⟩⟩
        case measure => simp [intOf]; omega
      | true =>
        go_upto_region 7 with fail
        have hsz : (w2.alloc (.cells #[.int .i64 g0, .int .i64 g1, .int .i64 g2, .int .u16 g3] 60)).heap.size = w2.heap.size + 1 := World.size_alloc _ _
        have hgx : Gw w2 ((w2.alloc (.cells #[.int .i64 g0, .int .i64 g1, .int .i64 g2, .int .u16 g3] 60)).alloc (.cells #[.int .i64 g0, .int .i64 g1, .int .i64 g2, .int .u16 g3] 60)) := gw_trans (gw_alloc1 _ _) (gw_alloc1 _ _)
        have hbx : ((w2.alloc (.cells #[.int .i64 g0, .int .i64 g1, .int .i64 g2, .int .u16 g3] 60)).alloc (.cells #[.int .i64 g0, .int .i64 g1, .int .i64 g2, .int .u16 g3] 60)).heap[w2.heap.size + 1]? = some (.cells #[.int .i64 g0, .int .i64 g1, .int .i64 g2, .int .u16 g3] 60) := by rw [← hsz]; exact heap_alloc_new _ _
        have hsz2 : ((w2.alloc (.cells #[.int .i64 g0, .int .i64 g1, .int .i64 g2, .int .u16 g3] 60)).alloc (.cells #[.int .i64 g0, .int .i64 g1, .int .i64 g2, .int .u16 g3] 60)).heap.size = w2.heap.size + 2 := by rw [World.size_alloc, hsz]
        have hmp : Maps ((w2.alloc (.cells #[.int .i64 g0, .int .i64 g1, .int .i64 g2, .int .u16 g3] 60)).alloc (.cells #[.int .i64 g0, .int .i64 g1, .int .i64 g2, .int .u16 g3] 60)) (some ⟨w2.heap.size + 1, 0, none⟩) 1 1 [⟨g0, g1, g2, g3⟩] := ⟨rfl, Nat.le_refl _, by omega, .inr ⟨_, 0, rfl, by omega, fun i hi => by
          obtain rfl : i = 0 := by simpa using hi
          exact ⟨cellAt hbx 0 _ rfl, cellAt hbx 1 _ rfl, cellAt hbx 2 _ rfl, cellAt hbx 3 _ rfl⟩⟩⟩
        have HAPP : Hid (∃ v' w', (Builtin.append_ #[66, 66] 66 #[.slice PR m CR, (.slice (some ⟨w2.heap.size + 1, 0, none⟩) 1 1)]).run Try.prog ((w2.alloc (.cells #[.int .i64 g0, .int .i64 g1, .int .i64 g2, .int .u16 g3] 60)).alloc (.cells #[.int .i64 g0, .int .i64 g1, .int .i64 g2, .int .u16 g3] 60)) = .ok v' w' ∧ ∃ P2 C2, v' = .slice P2 (m + 1) C2 ∧ Hid (Own w' 60 4 (.slice P2 (m + 1) C2) (m + 1) (flat (rows k b (j + 1))) ∧ (rows k b (j + 1)).length = m + 1 ∧ Gw w w' ∧ ∀ x, (Value.slice P2 (m + 1) C2).ownBlock = some x → w.heap.size ≤ x)) := Lib.hid (by
          obtain ⟨P2, cap, w', h1, h2, h3, h4⟩ := app_more (own_gw' HO.out (gw_trans HF.out hgx)) 66 (.slice (some ⟨w2.heap.size + 1, 0, none⟩) 1 1) 1 (src_maps hmp) (by omega)
          have hsu := HSU.out
          rw [if_pos trivial] at hsu
          refine ⟨_, w', h1, P2, cap, rfl, Lib.hid ⟨by rw [hsu]; exact h2, by rw [hsu, List.length_append, HL.out]; rfl, Fr.trans (gw_trans HG2.out hgx) (Fr.of_grown h3) (fun x hx e => by have := HB.out x e; show False; omega), fun x hx => ?_⟩⟩
          rcases h4 with e | e
          · exact HB.out x (by rw [← e]; exact hx)
          · rw [hx, hsz2] at e
            have e := Option.some.inj e
            have := HG2.out.size; omega)
        clear hsz hgx hbx hsz2 hmp
        go_wp2_with (at_builtin; refine wpList_app rfl (.tmp 31) (.tmp 33) rfl (.slice PR m CR) (.slice (some ⟨w2.heap.size + 1, 0, none⟩) 1 1) rfl rfl _ HAPP.out ?_; rintro v' w' ⟨P2, C2, rfl, HN⟩)
        go_roundw
        case rel => exact ⟨j + 1, m + 1, P2, C2, by omega, by rw [Int.natCast_add]; congr 1; simp; omega, rfl, HN⟩
        case measure => simp [intOf]; omega
    · obtain rfl : j = r := by omega
      go_wp2_with fail
      go_quiet (fail)
      go_wp2_with fail
      go_ret
      exact ⟨PR, m, CR, rfl, ⟨HI.out.1, HI.out.2.1⟩, gw_drewN HI.out.2.2.1 nq, fun x hx => HI.out.2.2.2 x (by rw [ownBlock_blk]; exact hx)⟩
end Go.Proofs.Ytdaodpojcjbggaa.Rm
