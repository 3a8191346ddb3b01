/- Two lines side by side; alike; short. -/
import Derived.Test.YtdaodpojcjbggaaLnR
namespace Go.Proofs.Ytdaodpojcjbggaa.Ln
open Go.RowKit
set_option linter.unusedVariables false
set_option linter.unusedSimpArgs false

/-- The line at X and the document's at Y, made since w0, their blocks apart; N: blocks that neither touches. -/
def LL (w0 : World) (N : Nat → Prop) (w : World) (X : Nat) (a b : List ByteArray) (Y : Nat) (c d : List ByteArray) : Prop :=
  ∃ A C B D A' C' B' D', LineAt w X A C B D a b ∧ LineAt w Y A' C' B' D' c d ∧ (∀ k, Ft X A B k → w0.heap.size ≤ k ∧ ¬ N k ∧ ¬ Ft Y A' B' k) ∧ (∀ k, Ft Y A' B' k → w0.heap.size ≤ k ∧ ¬ N k) ∧ (∀ k, N k → k < w.heap.size) ∧ Gw w0 w
/-- What may turn. -/
def Out (w0 : World) (N : Nat → Prop) (k : Nat) : Prop := w0.heap.size ≤ k ∧ ¬ N k
theorem LL.g {w0 N w X a b Y c d} (h : LL w0 N w X a b Y c d) : Gw w0 w := by
  obtain ⟨A, C, B, D, A', C', B', D', L, M, h1, h2, h3, hg⟩ := h; exact hg
theorem LL.gw {w0 N w w' X a b Y c d} (h : LL w0 N w X a b Y c d) (hw : Gw w w') : LL w0 N w' X a b Y c d := by
  obtain ⟨A, C, B, D, A', C', B', D', L, M, h1, h2, h3, hg⟩ := h
  exact ⟨A, C, B, D, A', C', B', D', L.fr hw (fun _ _ h => h), M.fr hw (fun _ _ h => h), h1, h2, fun k hk => by have := h3 k hk; have := hw.size; omega, gw_trans hg hw⟩
/-- What lies between two worlds is put aside. -/
theorem LL.aside {w0 N w w' X a b Y c d} (h : LL w0 N w X a b Y c d) (hw : Gw w w') : LL w0 (fun k => w.heap.size ≤ k ∧ k < w'.heap.size) w' X a b Y c d := by
  obtain ⟨A, C, B, D, A', C', B', D', L, M, h1, h2, h3, hg⟩ := h
  exact ⟨A, C, B, D, A', C', B', D', L.fr hw (fun _ _ h => h), M.fr hw (fun _ _ h => h), fun k hk => ⟨(h1 k hk).1, fun e => by have := L.ft_lt hk; omega, (h1 k hk).2.2⟩, fun k hk => ⟨(h2 k hk).1, fun e => by have := M.ft_lt hk; omega⟩, fun k hk => hk.2, gw_trans hg hw⟩
theorem LL.free {w0 N w X a b Y c d} (h : LL w0 N w X a b Y c d) : LL w0 (fun _ => False) w X a b Y c d := by
  obtain ⟨A, C, B, D, A', C', B', D', L, M, h1, h2, h3, hg⟩ := h
  exact ⟨A, C, B, D, A', C', B', D', L, M, fun k hk => ⟨(h1 k hk).1, fun h => h, (h1 k hk).2.2⟩, fun k hk => ⟨(h2 k hk).1, fun h => h⟩, fun k hk => hk.elim, hg⟩
theorem LL.liftX {w0 N w X a b Y c d} {f : Nat} {args : Array Value} {ret : Ending} {a' b' : List ByteArray} (h : LL w0 N w X a b Y c d)
    (op : ∀ A C B D, LineAt w X A C B D a b → Calls Try.prog f args w fun e w' => e = ret ∧ Then w X A B a' b' w') :
    Calls Try.prog f args w fun e w' => e = ret ∧ LL w0 N w' X a' b' Y c d ∧ Fr (Out w0 N) w w' := by
  obtain ⟨A, C, B, D, A', C', B', D', L, M, h1, h2, h3, hg⟩ := h
  refine (op A C B D L).mono fun e w' ⟨he, ht⟩ => ⟨he, ?_⟩
  obtain ⟨A2, C2, B2, D2, L2, hf, hk⟩ := ht
  refine ⟨⟨A2, C2, B2, D2, A', C', B', D', L2, M.fr hf (fun k hk hx => (h1 k hx).2.2 hk), fun k h => ?_, h2, fun k h => by have := h3 k h; have := hf.size; omega, Fr.trans hg hf (fun x hx h => by have := (h1 x h).1; omega)⟩, hf.mono (fun k h => ⟨(h1 k h).1, (h1 k h).2.1⟩)⟩
  rcases hk k h with h | h
  · exact h1 k h
  · exact ⟨by have := hg.size; omega, fun e => by have := h3 k e; omega, fun e => by have := M.ft_lt e; omega⟩
theorem LL.liftY {w0 N w X a b Y c d} {f : Nat} {args : Array Value} {ret : Ending} {c' d' : List ByteArray} (h : LL w0 N w X a b Y c d)
    (op : ∀ A C B D, LineAt w Y A C B D c d → Calls Try.prog f args w fun e w' => e = ret ∧ Then w Y A B c' d' w') :
    Calls Try.prog f args w fun e w' => e = ret ∧ LL w0 N w' X a b Y c' d' ∧ Fr (Out w0 N) w w' := by
  obtain ⟨A, C, B, D, A', C', B', D', L, M, h1, h2, h3, hg⟩ := h
  refine (op A' C' B' D' M).mono fun e w' ⟨he, ht⟩ => ⟨he, ?_⟩
  obtain ⟨A2, C2, B2, D2, L2, hf, hk⟩ := ht
  refine ⟨⟨A, C, B, D, A2, C2, B2, D2, L.fr hf (fun k hk hx => (h1 k hk).2.2 hx), L2, fun k h => ⟨(h1 k h).1, (h1 k h).2.1, fun e => ?_⟩, fun k h => ?_, fun k h => by have := h3 k h; have := hf.size; omega, Fr.trans hg hf (fun x hx h => by have := (h2 x h).1; omega)⟩, hf.mono (fun k h => h2 k h)⟩
  · rcases hk k e with e | e
    · exact (h1 k h).2.2 e
    · have := L.ft_lt h; omega
  · rcases hk k h with h | h
    · exact h2 k h
    · exact ⟨by have := hg.size; omega, fun e => by have := h3 k e; omega⟩
theorem LL.start {w0 w : World} {X : Nat} (h : St w0 w X [] []) (t : TypeId) : LL w0 (fun _ => False) (w.alloc (.cells #[.slice none 0 0, .slice none 0 0] t)) X [] [] w.heap.size [] [] := by
  obtain ⟨⟨A, C, B, D, L, hf⟩, hg⟩ := h
  have L2 := L.fr (gw_alloc1 w (.cells #[.slice none 0 0, .slice none 0 0] t)) (fun _ _ h => h)
  refine ⟨A, C, B, D, none, 0, none, 0, L2, line_new w t, fun k hk => ⟨hf k hk, fun h => h, fun e => ?_⟩, fun k hk => ⟨?_, fun h => h⟩, fun k h => h.elim, gw_trans hg (gw_alloc1 _ _)⟩
  · rcases e with e | e | e
    · subst e; have := L.ft_lt hk; omega
    · simp [blk] at e
    · simp [blk] at e
  · rcases hk with e | e | e
    · subst e; exact hg.size
    · simp [blk] at e
    · simp [blk] at e

theorem to_four {t : Int} (h : -1 ≤ t ∧ t ≤ 2) : -9223372036854775808 ≤ t ∧ t < 9223372036854775808 := by omega
set_option maxRecDepth 100000 in
set_option maxHeartbeats 4000000 in
theorem alike {w : World} {X A C B D a b Y A' C' B' D'} (L : LineAt w X A C B D a b) (M : LineAt w Y A' C' B' D' a b) :
    Calls Try.prog 13 #[.pointer (some ⟨X, 0, none⟩), .pointer (some ⟨Y, 0, none⟩)] w fun e w' => e = .returned (.bool true) ∧ Gw w w' := by
  have HL := Lib.hid L
  have HM := Lib.hid M
  clear L M
  go_enter Try.func13, Try.ntmps13
  go_wp2_with fail
  go_loopw [5] (fun v wr => ∃ t : Int, -1 ≤ t ∧ t ≤ 3 ∧ v = .int .i64 t ∧ Hid (Gw w wr)) (fun v _ => (3 - intOf v).toNat)
  case atStart => exact ⟨-1, by omega, by omega, rfl, Lib.hid (Fr.refl _ _)⟩
  case round =>
    obtain ⟨t, ht1, ht2, rfl, HG⟩ := hrel
    by_cases h3 : t ≤ 2
    · obtain ⟨n, hn⟩ : ∃ n, (selB t a b).length = n := ⟨_, rfl⟩
      have hnm : n ≤ 1000000 := by
        have := HL.out.ra.len; have := HL.out.rb.len
        rw [← hn]; unfold selB; split
        · assumption
        · split
          · assumption
          · simp
      have HN := Lib.hid hn
      clear hn
      have hl : ∀ W, Gw w W → Calls Try.prog 23 #[.pointer (some ⟨X, 0, none⟩), .int .i64 t] W fun e w' => e = .returned (.int .i64 (n : Int)) ∧ W = w' := fun W hW => by
        have := len_any (HL.out.fr hW (fun _ _ h => h)) t
        rw [HN.out] at this; exact this
      have Hl := Lib.hid hl
      clear hl
      obtain ⟨wo, hwo⟩ : ∃ wo : World, wo = wr := ⟨_, rfl⟩
      subst hwo
      go_wp2_with (first | (go_at_call 23; refine (Hl.out _ HG.out).mono ?_; rintro e w' ⟨rfl, rfl⟩) | (go_at_call 39; refine (rall_any (HM.out.fr HG.out (fun _ _ h => h)) t HN.out).mono ?_; rintro e w' ⟨A1, C1, rfl, hs1, rfl⟩; clear hs1) | (go_at_call 24; refine (all_any (HL.out.fr HG.out (fun _ _ h => h)) t HN.out).mono ?_; rintro e w1 ⟨A1, C1, rfl, hs1, hg1⟩; have HG1 := Lib.hid (gw_trans HG.out hg1); have HS1 := Lib.hid hs1; clear hs1 hg1) | (go_at_call 39; refine (rall_any (HM.out.fr HG1.out (fun _ _ h => h)) t HN.out).mono ?_; rintro e w' ⟨A2, C2, rfl, hs2, rfl⟩; have HS2 := Lib.hid hs2; clear hs2) | (go_at_call 22; refine (same _ _ _ _ _ _ _ HS1.out HS2.out).mono ?_; rintro e w2 ⟨rfl, hg2⟩; have HG2 := Lib.hid (gw_trans HG1.out hg2); clear hg2))
      go_loopw [6] (fun v wr => ∃ i : Int, -1 ≤ i ∧ i ≤ n + 1 ∧ v = .int .i64 i ∧ Hid (Gw w wr)) (fun v _ => ((n : Int) + 1 - intOf v).toNat)
      case atStart => exact ⟨-1, by omega, by omega, rfl, HG2⟩
      case round =>
        obtain ⟨i, hi1, hi2, rfl, HI⟩ := hrel
        have hr : ∀ W, Gw w W → Calls Try.prog 39 #[.pointer (some ⟨Y, 0, none⟩), .int .i64 t] W fun e w' => ∃ A1 C1, e = .returned (.slice A1 n C1) ∧ W = w' := fun W hW => by
          exact (rall_any (HM.out.fr hW (fun _ _ h => h)) t HN.out).mono fun e w' ⟨A1, C1, he, _, hw⟩ => ⟨A1, C1, he, hw⟩
        have HR := Lib.hid hr
        clear hr
        by_cases h4 : i ≤ n
        · obtain ⟨s, bl, hsb⟩ : ∃ s bl, atS (selB t a b) i = (s, bl) := ⟨_, _, rfl⟩
          have ha : ∀ W, Gw w W → Calls Try.prog 25 #[.pointer (some ⟨X, 0, none⟩), .int .i64 t, .int .i64 i] W fun e w' => e = .returned (.tuple #[.string s, .bool bl]) ∧ W = w' := fun W hW => by
            have := at_any (HL.out.fr hW (fun _ _ h => h)) t i (by omega)
            rw [hsb] at this; exact this
          have hb : ∀ W, Gw w W → Calls Try.prog 40 #[.pointer (some ⟨Y, 0, none⟩), .int .i64 t, .int .i64 i] W fun e w' => e = .returned (.tuple #[.string s, .bool bl]) ∧ W = w' := fun W hW => by
            have := rat_any (HM.out.fr hW (fun _ _ h => h)) t i (by omega)
            rw [hsb] at this; exact this
          have HA := Lib.hid ha
          have HB := Lib.hid hb
          clear ha hb hsb
          go_wp2_with (first | (go_at_call 39; refine (HR.out _ HI.out).mono ?_; rintro e w' ⟨A1, C1, rfl, rfl⟩) | (go_at_call 25; refine (HA.out _ HI.out).mono ?_; rintro e w' ⟨rfl, rfl⟩) | (go_at_call 40; refine (HB.out _ HI.out).mono ?_; rintro e w' ⟨rfl, rfl⟩))
          go_roundw
          case rel => exact ⟨i + 1, by omega, by omega, rfl, HI⟩
          case measure => simp [intOf]; omega
        · go_wp2_with (first | (go_at_call 39; refine (HR.out _ HI.out).mono ?_; rintro e w' ⟨A1, C1, rfl, rfl⟩))
          go_roundw
          case rel => exact ⟨t + 1, by omega, by omega, rfl, HI⟩
          case measure => simp [intOf]; omega
    · go_wp2_with fail
      go_ret
      exact ⟨rfl, HG.out⟩
end Go.Proofs.Ytdaodpojcjbggaa.Ln
