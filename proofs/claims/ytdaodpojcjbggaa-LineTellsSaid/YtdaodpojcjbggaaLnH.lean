/- Turn (printed by lineturn.py). -/
import Derived.Test.YtdaodpojcjbggaaLnG
import Derived.Deep.RegionWith
namespace Go.Proofs.Ytdaodpojcjbggaa.Ln
open Go.RowKit
set_option linter.unusedVariables false
theorem gw_undrew {w W : World} (h : Gw w.drew W) : Gw w W := ⟨h.os, h.tape, h.output, h.size, h.block⟩
theorem frozen_gw {W W' : World} {p : Addr} (hb : Gw W W') (hl : p.block < W.heap.size) (h : W.frozen? p = false) : W'.frozen? p = false := (World.frozen?_of_block (a := p) (hb.block _ hl (fun h => h))).trans h
theorem turnNil (to i m : Int) (S : Option Addr) (n c : Nat) (w : World) : Calls Try.prog 19 #[.pointer none, .int .i64 to, .int .i64 i, .int .i64 m, .slice S n c] w fun e w' => e = .returned (.int .i64 1) ∧ w = w' := by
  go_enter Try.func19, Try.ntmps19
  go_wp2_with (go_at_call 41; refine (rightNil _ _).mono ?_; rintro e w' ⟨rfl, rfl⟩)
  go_ret
  exact ⟨rfl, rfl⟩
theorem turnBad (X : Nat) (to : Int) (h : to < 0 ∨ 2 ≤ to) (i m : Int) (S : Option Addr) (n c : Nat) (w : World) : Calls Try.prog 19 #[.pointer (some ⟨X, 0, none⟩), .int .i64 to, .int .i64 i, .int .i64 m, .slice S n c] w fun e w' => e = .returned (.int .i64 2) ∧ w = w' := by
  have H := Lib.hid h
  clear h
  go_enter Try.func19, Try.ntmps19
  go_wp2_with (go_at_call 41; refine (rightBad _ _ H.out _).mono ?_; rintro e w' ⟨rfl, rfl⟩)
  go_ret
  exact ⟨rfl, rfl⟩

set_option maxRecDepth 100000 in
set_option maxHeartbeats 4000000 in
theorem turn0 {w : World} {X A C B D a b} (L : LineAt w X A C B D a b) (i m : Nat) (hm : 1 ≤ m ∧ m ≤ 2) (hi : i + m ≤ a.length) (hxs : a.length ≤ 900000) (S : Option Addr) (c : Nat) (ys : List ByteArray) (hys : ys.length ≤ 90000) (hzs : ∀ s ∈ ys, s.size ≤ 9223372036854775807)
    (hsrc : ∀ W, Gw w W → Src Try.prog 1 26 (.slice S ys.length c) ys.length (ys.map Value.string) W) :
    Calls Try.prog 19 #[.pointer (some ⟨X, 0, none⟩), .int .i64 0, .int .i64 i, .int .i64 m, .slice S ys.length c] w fun e w' => e = .returned (.int .i64 0) ∧ Then w X A B (a.take i ++ ys ++ a.drop (i + m)) b w' := by
  have c0 := L.c0
  have f0 := L.f0
  have hX := L.ltX
  have HL := Lib.hid L
  have HS := Lib.hid hsrc
  have HZ := Lib.hid hzs
  have hz1 : ¬ (m : Int) < 1 := by omega
  have hz2 : ¬ (2 : Int) < m := by omega
  have hz3 : ¬ ((a.length : Int) - m < i) := by omega
  clear L hsrc hzs
  go_enter Try.func19, Try.ntmps19
  go_wp2_with (first | (go_at_call 41; refine (rightOk _ _ (by omega) _).mono ?_; rintro e w' ⟨rfl, rfl⟩) | (go_at_call 23; refine (lenOk HL.out _ (by omega)).mono ?_; simp only [sel, if_pos]; rintro e w' ⟨rfl, rfl⟩))
  go_region_with (go_at_call 43; refine (turned (w := w.drew) (HL.out.ra.keep fun _ _ => rfl) i m hm hi S c (by omega) HZ.out (fun W hW => HS.out W (gw_undrew hW)) (by omega)).mono ?_; rintro e w1 ⟨g, cap, rfl, hown, hg, hge⟩; have hg' : Gw w w1 := gw_undrew hg; have k1 := cell_gw hg' c0; have k2 := frozen_gw hg' hX f0)
  all_goals
    go_wp2_with fail
    go_ret
    refine ⟨rfl, ?_⟩
    have el : (a.take i ++ ys ++ a.drop (i + m)).length = i + ys.length + (a.length - (i + m)) := by simp; omega
    have h := lay0 (w1 := w1) (g := g) (cap := cap) (a' := (a.take i ++ ys ++ a.drop (i + m))) HL.out hg' (by rw [el]; omega)
      (by
        intro x hx
        rcases List.mem_append.1 hx with hx | hx
        · rcases List.mem_append.1 hx with hx | hx
          · exact HL.out.ra.sz x (List.mem_of_mem_take hx)
          · exact HZ.out x hx
        · exact HL.out.ra.sz x (List.mem_of_mem_drop hx))
      (by rw [el]; exact hown) (Fr.refl _ _) (.inr hge)
    rw [el] at h
    exact h

theorem turnArg0 {w : World} {X A C B D a b} (L : LineAt w X A C B D a b) (i m : Int) (hm : m < 1 ∨ 2 < m) (S : Option Addr) (n c : Nat) :
    Calls Try.prog 19 #[.pointer (some ⟨X, 0, none⟩), .int .i64 0, .int .i64 i, .int .i64 m, .slice S n c] w fun e w' => e = .returned (.int .i64 2) ∧ w = w' := by
  by_cases h1 : m < 1
  · go_enter Try.func19, Try.ntmps19
    go_wp2_with (go_at_call 41; refine (rightOk _ _ (by omega) _).mono ?_; rintro e w' ⟨rfl, rfl⟩)
    go_ret
    exact ⟨rfl, rfl⟩
  · have h2 : 2 < m := by omega
    go_enter Try.func19, Try.ntmps19
    go_wp2_with (go_at_call 41; refine (rightOk _ _ (by omega) _).mono ?_; rintro e w' ⟨rfl, rfl⟩)
    go_ret
    exact ⟨rfl, rfl⟩
theorem turnNone0 {w : World} {X A C B D a b} (L : LineAt w X A C B D a b) (i m : Int) (hm : 1 ≤ m ∧ m ≤ 2) (hi : i < 0 ∨ (a.length : Int) - m < i) (S : Option Addr) (n c : Nat) :
    Calls Try.prog 19 #[.pointer (some ⟨X, 0, none⟩), .int .i64 0, .int .i64 i, .int .i64 m, .slice S n c] w fun e w' => e = .returned (.int .i64 8) ∧ w = w' := by
  have hz1 : ¬ m < 1 := by omega
  have hz2 : ¬ 2 < m := by omega
  have HL := Lib.hid L
  have hl := L.ra.len
  clear L
  by_cases h1 : i < 0
  · go_enter Try.func19, Try.ntmps19
    go_wp2_with (go_at_call 41; refine (rightOk _ _ (by omega) _).mono ?_; rintro e w' ⟨rfl, rfl⟩)
    go_ret
    exact ⟨rfl, rfl⟩
  · have h2 : (a.length : Int) - m < i := by omega
    go_enter Try.func19, Try.ntmps19
    go_wp2_with (first | (go_at_call 41; refine (rightOk _ _ (by omega) _).mono ?_; rintro e w' ⟨rfl, rfl⟩) | (go_at_call 23; refine (lenOk HL.out _ (by omega)).mono ?_; simp only [sel, if_pos]; rintro e w' ⟨rfl, rfl⟩))
    go_ret
    exact ⟨rfl, rfl⟩

set_option maxRecDepth 100000 in
set_option maxHeartbeats 4000000 in
theorem turn1 {w : World} {X A C B D a b} (L : LineAt w X A C B D a b) (i m : Nat) (hm : 1 ≤ m ∧ m ≤ 2) (hi : i + m ≤ b.length) (hxs : b.length ≤ 900000) (S : Option Addr) (c : Nat) (ys : List ByteArray) (hys : ys.length ≤ 90000) (hzs : ∀ s ∈ ys, s.size ≤ 9223372036854775807)
    (hsrc : ∀ W, Gw w W → Src Try.prog 1 26 (.slice S ys.length c) ys.length (ys.map Value.string) W) :
    Calls Try.prog 19 #[.pointer (some ⟨X, 0, none⟩), .int .i64 1, .int .i64 i, .int .i64 m, .slice S ys.length c] w fun e w' => e = .returned (.int .i64 0) ∧ Then w X A B a (b.take i ++ ys ++ b.drop (i + m)) w' := by
  have c1 := L.c1
  have f1 := L.f1
  have hX := L.ltX
  have HL := Lib.hid L
  have HS := Lib.hid hsrc
  have HZ := Lib.hid hzs
  have hz1 : ¬ (m : Int) < 1 := by omega
  have hz2 : ¬ (2 : Int) < m := by omega
  have hz3 : ¬ ((b.length : Int) - m < i) := by omega
  clear L hsrc hzs
  go_enter Try.func19, Try.ntmps19
  go_wp2_with (first | (go_at_call 41; refine (rightOk _ _ (by omega) _).mono ?_; rintro e w' ⟨rfl, rfl⟩) | (go_at_call 23; refine (lenOk HL.out _ (by omega)).mono ?_; rw [show sel 1 a b = b from rfl]; rintro e w' ⟨rfl, rfl⟩))
  go_region_with (go_at_call 43; refine (turned (w := w.drew) (HL.out.rb.keep fun _ _ => rfl) i m hm hi S c (by omega) HZ.out (fun W hW => HS.out W (gw_undrew hW)) (by omega)).mono ?_; rintro e w1 ⟨g, cap, rfl, hown, hg, hge⟩; have hg' : Gw w w1 := gw_undrew hg; have k1 := cell_gw hg' c1; have k2 := frozen_gw hg' hX f1)
  all_goals
    go_wp2_with fail
    go_ret
    refine ⟨rfl, ?_⟩
    have el : (b.take i ++ ys ++ b.drop (i + m)).length = i + ys.length + (b.length - (i + m)) := by simp; omega
    have h := lay1 (w1 := w1) (g := g) (cap := cap) (b' := (b.take i ++ ys ++ b.drop (i + m))) HL.out hg' (by rw [el]; omega)
      (by
        intro x hx
        rcases List.mem_append.1 hx with hx | hx
        · rcases List.mem_append.1 hx with hx | hx
          · exact HL.out.rb.sz x (List.mem_of_mem_take hx)
          · exact HZ.out x hx
        · exact HL.out.rb.sz x (List.mem_of_mem_drop hx))
      (by rw [el]; exact hown) (Fr.refl _ _) (.inr hge)
    rw [el] at h
    exact h

theorem turnArg1 {w : World} {X A C B D a b} (L : LineAt w X A C B D a b) (i m : Int) (hm : m < 1 ∨ 2 < m) (S : Option Addr) (n c : Nat) :
    Calls Try.prog 19 #[.pointer (some ⟨X, 0, none⟩), .int .i64 1, .int .i64 i, .int .i64 m, .slice S n c] w fun e w' => e = .returned (.int .i64 2) ∧ w = w' := by
  by_cases h1 : m < 1
  · go_enter Try.func19, Try.ntmps19
    go_wp2_with (go_at_call 41; refine (rightOk _ _ (by omega) _).mono ?_; rintro e w' ⟨rfl, rfl⟩)
    go_ret
    exact ⟨rfl, rfl⟩
  · have h2 : 2 < m := by omega
    go_enter Try.func19, Try.ntmps19
    go_wp2_with (go_at_call 41; refine (rightOk _ _ (by omega) _).mono ?_; rintro e w' ⟨rfl, rfl⟩)
    go_ret
    exact ⟨rfl, rfl⟩
theorem turnNone1 {w : World} {X A C B D a b} (L : LineAt w X A C B D a b) (i m : Int) (hm : 1 ≤ m ∧ m ≤ 2) (hi : i < 0 ∨ (b.length : Int) - m < i) (S : Option Addr) (n c : Nat) :
    Calls Try.prog 19 #[.pointer (some ⟨X, 0, none⟩), .int .i64 1, .int .i64 i, .int .i64 m, .slice S n c] w fun e w' => e = .returned (.int .i64 8) ∧ w = w' := by
  have hz1 : ¬ m < 1 := by omega
  have hz2 : ¬ 2 < m := by omega
  have HL := Lib.hid L
  have hl := L.rb.len
  clear L
  by_cases h1 : i < 0
  · go_enter Try.func19, Try.ntmps19
    go_wp2_with (go_at_call 41; refine (rightOk _ _ (by omega) _).mono ?_; rintro e w' ⟨rfl, rfl⟩)
    go_ret
    exact ⟨rfl, rfl⟩
  · have h2 : (b.length : Int) - m < i := by omega
    go_enter Try.func19, Try.ntmps19
    go_wp2_with (first | (go_at_call 41; refine (rightOk _ _ (by omega) _).mono ?_; rintro e w' ⟨rfl, rfl⟩) | (go_at_call 23; refine (lenOk HL.out _ (by omega)).mono ?_; rw [show sel 1 a b = b from rfl]; rintro e w' ⟨rfl, rfl⟩))
    go_ret
    exact ⟨rfl, rfl⟩
end Go.Proofs.Ytdaodpojcjbggaa.Ln
