/- Short texts. -/
import Derived.Test.YtdaodpojcjbggaaLnS
namespace Go.Proofs.Ytdaodpojcjbggaa.Ln
open Go.RowKit
set_option linter.unusedVariables false
set_option linter.unusedSimpArgs false

def cut50 (s : ByteArray) : ByteArray := if 50 < s.size then s.extract 0 50 else s
theorem cut50_size (s : ByteArray) : (cut50 s).size ≤ 50 := by
  unfold cut50; split
  · rw [ByteArray.size_extract]; omega
  · omega
def shortL (l : List ByteArray) : List ByteArray := (l.take 5).map cut50
theorem shortL_len (l : List ByteArray) : (shortL l).length ≤ 5 := by unfold shortL; rw [List.length_map]; exact List.length_take_le _ _
theorem shortL_size {l : List ByteArray} {s : ByteArray} (h : s ∈ shortL l) : s.size ≤ 50 := by
  obtain ⟨x, _, rfl⟩ := List.mem_map.1 h; exact cut50_size x

def ShortP (l : List ByteArray) (w : World) (e : Ending) (w' : World) : Prop :=
  ∃ S m E, e = .returned (.slice S m E) ∧ Strs w' S m (shortL l) ∧ m ≤ 5 ∧ (S = none → shortL l = []) ∧ Gw w w' ∧ (∀ k, blk S = some k → w.heap.size ≤ k ∧ k < w'.heap.size)
theorem short_end {w wr : World} {P : Option Addr} {k E : Nat} {l : List ByteArray} (hg : Gw w wr) (hs : SinceN w (.slice P k E)) (ho : Own wr 9 1 (.slice P k E) k ((shortL l).map Value.string)) (hk : (shortL l).length = k) (h5 : k ≤ 5) : ShortP l w (.returned (.slice P k E)) wr := by
  have hR : Rw wr P E (shortL l) := ⟨by rw [hk]; exact ho, by omega, fun s h => by have := shortL_size h; omega⟩
  refine ⟨P, k, E, rfl, by have := hR.strs; rwa [hk] at this, h5, fun e => ?_, hg, fun j hj => ⟨hs j (by rw [ownBlock_blk]; exact hj), hR.lt hj⟩⟩
  rcases hR.at with ⟨_, e2, _⟩ | ⟨g, e2, _⟩
  · exact e2
  · rw [e] at e2; cases e2
set_option maxRecDepth 100000 in
set_option maxHeartbeats 4000000 in
theorem short_ {w : World} {A : Option Addr} {n C : Nat} {l : List ByteArray} (h : Strs w A n l) : Calls Try.prog 14 #[.slice A n C] w (ShortP l w) := by
  obtain ⟨ii, hi, hz, hsz, hb⟩ := strInfo
  have H := Lib.hid h
  have hnm : n ≤ 9223372036854775807 := h.2.1
  clear h
  go_enter Try.func14, Try.ntmps14
  go_wp2_with fail
  go_loopw [3, 4] (fun v3 v4 wr => ∃ (k : Nat) (P : Option Addr) (E : Nat), k ≤ n ∧ k ≤ 5 ∧ v3 = .slice P k E ∧ v4 = .int .i64 k ∧ Hid (Own wr 9 1 (.slice P k E) k (((l.take k).map cut50).map Value.string) ∧ SinceN w (.slice P k E) ∧ Gw w wr)) (fun _ v4 _ => 5 - (intOf v4).toNat)
  case atStart => exact ⟨0, none, 0, by omega, by omega, rfl, rfl, Lib.hid ⟨World.ownsRow_nil _ _ _ _, sn_nil w, Fr.refl _ _⟩⟩
  case round =>
    obtain ⟨k, P, E, hk, hk5, rfl, rfl, HO⟩ := hrel
    by_cases hkn : k < n
    · have z0 : (k : Int) < n := by omega
      by_cases h5 : k < 5
      · have z5 : (k : Int) < 5 := by omega
        have hkl : k < l.length := by have := H.out.1; omega
        obtain ⟨bb, o, rfl, hcell⟩ := H.out.2.2.2.resolve_left (by intro e; rw [e] at hkl; simp at hkl)
        have q1 := cell_gw HO.out.2.2 (hcell k hkl)
        have hst : (l.take (k + 1)).map cut50 = (l.take k).map cut50 ++ [cut50 l[k]] := by rw [List.take_add_one, List.getElem?_eq_getElem hkl, List.map_append]; rfl
        have hs9 : l[k].size ≤ 9223372036854775807 := H.out.2.2.1 _ (List.getElem_mem hkl)
        have HST := Lib.hid hst
        obtain ⟨x, hx⟩ : ∃ x, l[k] = x := ⟨_, rfl⟩
        rw [hx] at q1 hs9
        have HX := Lib.hid hx
        obtain ⟨y, hy⟩ : ∃ y, cut50 x = y := ⟨_, rfl⟩
        have HY := Lib.hid hy
        clear hcell hst hx
        by_cases h50 : 50 < x.size
        · have hyx : x.extract 0 50 = y := by rw [← hy]; unfold cut50; rw [if_pos h50]
          have z50 : 50 < (x.size : Int) := by omega
          have z51 : (50 : Int) ≤ x.size := by omega
          clear hy
          go_wp2_with fail
          go_region_law (refine step_append_lies _ rfl (.tmp 15) (.tmp 27) 26 rfl 0 9 ii (.string ⟨#[]⟩) 1 16 Try.underlying26 hi hz hsz hb rfl (by omega) (.slice P k E) k _ rfl (World.ownsRow.alloc (World.ownsRow.drew HO.out.1) _) ⟨wr.heap.size, 0, none⟩ 1 1 [.string y] rfl rfl (news1 (by (repeat (first | (with_reducible refine cell_new_at ?_; first | with_reducible rfl | (simp; done)) | with_reducible refine cell_alloc_old _ ?_ | with_reducible refine cell_drew ?_ | with_reducible refine cell_gw (by with_reducible assumption) ?_)); done)) (one1 y) (by omega) (by simp [maxLen]; omega) (by omega) (Nat.zero_le _) _ rfl ?_; intro g cap w1 hown hgr hat hlt)
          all_goals
            go_wp2_with fail
            go_roundw
            case rel =>
              have hn := sn_next (v' := .slice (some ⟨g, 0, none⟩) (k + 1) cap) HO.out.2.2 HO.out.2.1 (((Fr.refl _ wr).alloc (.cells #[.string y] 9)).drew) hgr (hat.imp (fun e => e.symm) (fun e => congrArg some e))
              exact ⟨k + 1, _, _, by omega, by omega, rfl, by go_num, Lib.hid ⟨by rw [HST.out, HX.out, HY.out, List.map_append]; exact hown, hn⟩⟩
            case measure => simp [intOf]; omega
        · have hyx : x = y := by rw [← hy]; unfold cut50; rw [if_neg h50]
          clear hy
          subst hyx
          have z50 : ¬ 50 < (x.size : Int) := by omega
          have z51 : x.extract 0 x.size = x := by simp
          have z52 : (if 50 < (x.size : Int) then (50 : Int) else (x.size : Int)) = x.size := if_neg z50
          have z53 : (0 : Int) ≤ x.size := by omega
          go_wp2_with fail
          go_region_law (refine step_append_lies _ rfl (.tmp 15) (.tmp 27) 26 rfl 0 9 ii (.string ⟨#[]⟩) 1 16 Try.underlying26 hi hz hsz hb rfl (by omega) (.slice P k E) k _ rfl (World.ownsRow.alloc (World.ownsRow.drew HO.out.1) _) ⟨wr.heap.size, 0, none⟩ 1 1 [.string x] rfl rfl (news1 (by (repeat (first | (with_reducible refine cell_new_at ?_; first | with_reducible rfl | (simp; done)) | with_reducible refine cell_alloc_old _ ?_ | with_reducible refine cell_drew ?_ | with_reducible refine cell_gw (by with_reducible assumption) ?_)); done)) (one1 x) (by omega) (by simp [maxLen]; omega) (by omega) (Nat.zero_le _) _ rfl ?_; intro g cap w1 hown hgr hat hlt)
          all_goals
            go_wp2_with fail
            go_roundw
            case rel =>
              have hn := sn_next (v' := .slice (some ⟨g, 0, none⟩) (k + 1) cap) HO.out.2.2 HO.out.2.1 (((Fr.refl _ wr).alloc (.cells #[.string x] 9)).drew) hgr (hat.imp (fun e => e.symm) (fun e => congrArg some e))
              exact ⟨k + 1, _, _, by omega, by omega, rfl, by go_num, Lib.hid ⟨by rw [HST.out, HX.out, HY.out, List.map_append]; exact hown, hn⟩⟩
            case measure => simp [intOf]; omega
      · have z5 : ¬ (k : Int) < 5 := by omega
        obtain rfl : k = 5 := by omega
        go_wp2_with fail
        go_ret
        have hsh : (l.take 5).map cut50 = shortL l := rfl
        exact short_end HO.out.2.2 HO.out.2.1 (by rw [← hsh]; exact HO.out.1) (by rw [← hsh]; simp; have := H.out.1; omega) (by omega)
    · obtain rfl : k = n := by omega
      go_wp2_with fail
      go_ret
      have hsh : (l.take k).map cut50 = shortL l := by unfold shortL; rw [List.take_of_length_le (by have := H.out.1; omega), List.take_of_length_le (by have := H.out.1; omega)]
      exact short_end HO.out.2.2 HO.out.2.1 (by rw [← hsh]; exact HO.out.1) (by rw [← hsh]; simp; have := H.out.1; omega) hk5
end Go.Proofs.Ytdaodpojcjbggaa.Ln
