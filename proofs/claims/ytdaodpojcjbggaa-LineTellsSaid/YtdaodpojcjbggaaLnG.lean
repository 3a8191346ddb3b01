/- Turn, Take. -/
import Derived.Test.YtdaodpojcjbggaaLnF
import Derived.Laws.MakeOwn
namespace Go.Proofs.Ytdaodpojcjbggaa.Ln
open Go.RowKit
set_option linter.unusedVariables false

theorem make_row (w : World) (c : Nat) (m : Int) (hm : m = c) (hc : c ≤ 2000000) : ∃ w', (Instr.makeSlice 26 (.int .i64 0) (.int .i64 m)).run Try.prog w = .ok (.slice (some ⟨w.heap.size, 0, none⟩) 0 c) w' ∧ Own w' 9 1 (.slice (some ⟨w.heap.size, 0, none⟩) 0 c) 0 [] ∧ Gw w w' ∧ w'.heap.size = w.heap.size + 1 := by
  obtain ⟨i, hi, hz, hsz, hb⟩ := strInfo
  subst hm
  have hr := run_make (P := Try.prog) w 26 9 i (.string ⟨#[]⟩) Try.underlying26 hi hz .i64 .i64 0 (c : Int) (Int.le_refl _) (by omega) (by rw [hb]; omega) (by omega)
  simp only [Int.toNat_zero, Int.toNat_natCast] at hr
  exact ⟨_, hr, World.ownsRow_made w _ c (Nat.zero_le _) (by simp [maxLen]; omega) (by rw [size_madeCells, hsz]), (Fr.refl _ w).alloc _, by simp⟩

theorem src_sub {w : World} {g : Nat} {xs : List ByteArray} (h : ∀ i, (hi : i < xs.length) → w.cell? ⟨g, i, none⟩ = some (.string xs[i])) (o n c : Nat) (hon : o + n ≤ xs.length) {W : World} (hW : Gw w W) :
    Src Try.prog 1 26 (.slice (some ⟨g, o, none⟩) n c) n (((xs.drop o).take n).map Value.string) W := by
  refine src_any (e' := 9) Try.underlying26 (some ⟨g, o, none⟩) n c _ (by simp; omega) (fun e => by cases e) (fun a ha j u hu => ?_) (fun u hu => ?_)
  · cases ha
    have e : (⟨g, o, none⟩ : Addr).add j = ⟨g, o + j, none⟩ := by unfold Addr.add; split <;> simp_all
    rw [e]
    have hj : j < n := by
      have := (List.getElem?_eq_some_iff.1 hu).1
      simp at this; omega
    have e2 : u = .string xs[o + j] := by
      rw [List.getElem?_map, List.getElem?_take, if_pos hj, List.getElem?_drop, List.getElem?_eq_getElem (by omega)] at hu; simpa using hu.symm
    rw [e2]
    exact cell_gw hW (h (o + j) (by omega))
  · obtain ⟨s, _, rfl⟩ := List.mem_map.1 hu
    rfl
/-- Its block has been made since. -/
def Since (w : World) (v : Value) : Prop := ∃ k, v.ownBlock = some k ∧ w.heap.size ≤ k
theorem gw_app {w W W' : World} {v : Value} (hg : Gw w W) (hgr : W.grownBy W' v.ownBlock) (hv : Since w v) : Gw w W' := by
  obtain ⟨k, hk, hle⟩ := hv
  refine Fr.trans hg (Fr.of_grown hgr) (fun x hx h => ?_)
  rw [hk] at h
  have e : k = x := Option.some.inj h
  show False
  omega
theorem own_next {w W : World} {v v' : Value} (hg : Gw w W) (hv : Since w v) (hat : v'.ownBlock = v.ownBlock ∨ v'.ownBlock = some W.heap.size) : Since w v' := by
  rcases hat with h | h
  · obtain ⟨k, hk, hle⟩ := hv
    exact ⟨k, h.trans hk, hle⟩
  · exact ⟨_, h, hg.size⟩

/-- What 'turned' leaves. -/
def TP (w : World) (xs ys : List ByteArray) (i m : Nat) (e : Ending) (w' : World) : Prop :=
  ∃ g cap, e = .returned (.slice (some ⟨g, 0, none⟩) (i + ys.length + (xs.length - (i + m))) cap) ∧
      Own w' 9 1 (.slice (some ⟨g, 0, none⟩) (i + ys.length + (xs.length - (i + m))) cap) (i + ys.length + (xs.length - (i + m))) ((xs.take i ++ ys ++ xs.drop (i + m)).map Value.string) ∧ Gw w w' ∧ w.heap.size ≤ g

set_option maxRecDepth 100000 in
set_option maxHeartbeats 4000000 in
theorem turned {w : World} {A : Option Addr} {C : Nat} {xs ys : List ByteArray} (h : Rw w A C xs) (i m : Nat) (hm : 1 ≤ m ∧ m ≤ 2) (hi : i + m ≤ xs.length) (S : Option Addr) (c : Nat) (hys : ys.length ≤ 900000) (hzs : ∀ s ∈ ys, s.size ≤ 9223372036854775807)
    (hsrc : ∀ W, Gw w W → Src Try.prog 1 26 (.slice S ys.length c) ys.length (ys.map Value.string) W) (hxs : xs.length ≤ 900000) :
    Calls Try.prog 43 #[.slice A xs.length C, .int .i64 i, .int .i64 m, .slice S ys.length c] w (TP w xs ys i m) := by
  obtain ⟨n, hn⟩ : ∃ n : Nat, (xs.length : Int) - m + ys.length = n := ⟨xs.length - m + ys.length, by omega⟩
  obtain ⟨w1, hmk, hown, hg1, hs1⟩ := make_row w n n rfl (by omega)
  rcases h.at with ⟨_, rfl, _⟩ | ⟨g, rfl, hc, hcm, hg, hcell⟩
  · simp at hi; omega
  · have hz1 : ¬ (C : Int) < i := by omega
    have hz2 : ¬ (xs.length : Int) < i + m := by omega
    have HS := Lib.hid hsrc
    have HO := Lib.hid hown
    have H := Lib.hid h
    have HC := Lib.hid hcell
    clear hsrc hown h hcell hzs
    go_enter Try.func43, Try.ntmps43
    have hv0 : Since w (Value.slice (some ⟨w.heap.size, 0, none⟩) 0 n) := ⟨_, rfl, Nat.le_refl _⟩
    have HV0 := Lib.hid hv0
    have HG1 := Lib.hid hg1
    clear hv0 hg1
    by_cases hce : C = i + m
    · subst hce
      go_wp2_with (first | (at_builtin; refine wpList_row rfl (.tmp 18) (.tmp 21) rfl _ 0 [] rfl HO.out _ i (((xs.drop 0).take i).map Value.string) rfl (src_sub HC.out 0 i _ (by omega) HG1.out) (by omega) ?_; rw [Nat.zero_add, List.nil_append, List.drop_zero]; rintro v1 w2 ⟨A1, C1, rfl⟩ ho1 hgr1 hat1; have hg2 := gw_app HG1.out hgr1 HV0.out; have hv1 := own_next HG1.out HV0.out hat1; have HO1 := Lib.hid ho1; have HG2 := Lib.hid hg2; have HV1 := Lib.hid hv1; clear ho1 hgr1 hat1 hg2 hv1) | (at_builtin; refine wpList_row rfl (.tmp 22) (.tmp 23) rfl _ i _ rfl HO1.out _ ys.length (ys.map Value.string) rfl (HS.out _ HG2.out) (by omega) ?_; rintro v2 w3 ⟨A2, C2, rfl⟩ ho2 hgr2 hat2; have hg3 := gw_app HG2.out hgr2 HV1.out; have hv2 := own_next HG2.out HV1.out hat2; have HO2 := Lib.hid ho2; have HG3 := Lib.hid hg3; have HV2 := Lib.hid hv2; clear ho2 hgr2 hat2 hg3 hv2) | (at_builtin; refine wpList_row rfl (.tmp 25) (.tmp 30) rfl _ (i + ys.length) _ rfl HO2.out _ (xs.length - (i + m)) (((xs.drop 0).take (xs.length - (i + m))).map Value.string) rfl (src_sub HC.out 0 _ _ (by omega) HG3.out) (by omega) ?_; rintro v3 w4 ⟨A3, C3, rfl⟩ ho3 hgr3 hat3))
      go_ret
      have hg4 := gw_app HG3.out hgr3 HV2.out
      obtain ⟨gg, hgg, hle⟩ := own_next HG3.out HV2.out hat3
      rcases ho3.2 with ⟨e, _⟩ | ⟨g3, cap, cur, e, _⟩
      · rw [e] at hgg; cases hgg
      · injection e with e1 e2 e3
        subst e1
        refine ⟨g3, C3, by first | rfl | (rw [show xs.length - (i + m) = 0 by omega]; rfl), ?_, hg4, ?_⟩
        · have : (xs.take i ++ ys ++ xs.drop (i + m)).map Value.string = (xs.take i).map Value.string ++ ys.map Value.string ++ ((xs.drop 0).take (xs.length - (i + m))).map Value.string := by
            simp only [List.map_append]
            congr 2
            rw [List.drop_eq_nil_of_le (by omega), show xs.length - (i + m) = 0 by omega, List.take_zero]
          rw [this]; exact ho3
        · have e : g3 = gg := Option.some.inj hgg
          omega
    · go_wp2_with (first | (at_builtin; refine wpList_row rfl (.tmp 18) (.tmp 21) rfl _ 0 [] rfl HO.out _ i (((xs.drop 0).take i).map Value.string) rfl (src_sub HC.out 0 i _ (by omega) HG1.out) (by omega) ?_; rw [Nat.zero_add, List.nil_append, List.drop_zero]; rintro v1 w2 ⟨A1, C1, rfl⟩ ho1 hgr1 hat1; have hg2 := gw_app HG1.out hgr1 HV0.out; have hv1 := own_next HG1.out HV0.out hat1; have HO1 := Lib.hid ho1; have HG2 := Lib.hid hg2; have HV1 := Lib.hid hv1; clear ho1 hgr1 hat1 hg2 hv1) | (at_builtin; refine wpList_row rfl (.tmp 22) (.tmp 23) rfl _ i _ rfl HO1.out _ ys.length (ys.map Value.string) rfl (HS.out _ HG2.out) (by omega) ?_; rintro v2 w3 ⟨A2, C2, rfl⟩ ho2 hgr2 hat2; have hg3 := gw_app HG2.out hgr2 HV1.out; have hv2 := own_next HG2.out HV1.out hat2; have HO2 := Lib.hid ho2; have HG3 := Lib.hid hg3; have HV2 := Lib.hid hv2; clear ho2 hgr2 hat2 hg3 hv2) | (at_builtin; refine wpList_row rfl (.tmp 25) (.tmp 30) rfl _ (i + ys.length) _ rfl HO2.out _ (xs.length - (i + m)) (((xs.drop (i + m)).take (xs.length - (i + m))).map Value.string) rfl (src_sub HC.out (i + m) _ _ (by omega) HG3.out) (by omega) ?_; rintro v3 w4 ⟨A3, C3, rfl⟩ ho3 hgr3 hat3))
      go_ret
      have hg4 := gw_app HG3.out hgr3 HV2.out
      obtain ⟨gg, hgg, hle⟩ := own_next HG3.out HV2.out hat3
      rcases ho3.2 with ⟨e, _⟩ | ⟨g3, cap, cur, e, _⟩
      · rw [e] at hgg; cases hgg
      · injection e with e1 e2 e3
        subst e1
        refine ⟨g3, C3, by first | rfl | (rw [show xs.length - (i + m) = 0 by omega]; rfl), ?_, hg4, ?_⟩
        · have : (xs.take i ++ ys ++ xs.drop (i + m)).map Value.string = (xs.take i).map Value.string ++ ys.map Value.string ++ ((xs.drop (i + m)).take (xs.length - (i + m))).map Value.string := by
            simp only [List.map_append]
            congr 2
            rw [List.take_of_length_le (by simp)]
          rw [this]; exact ho3
        · have e : g3 = gg := Option.some.inj hgg
          omega
end Go.Proofs.Ytdaodpojcjbggaa.Ln
