/- The document's line: Put, All, At. -/
import Derived.Test.YtdaodpojcjbggaaLnO
namespace Go.Proofs.Ytdaodpojcjbggaa.Ln
open Go.RowKit
set_option linter.unusedVariables false
set_option linter.unusedSimpArgs false

set_option maxRecDepth 100000 in
set_option maxHeartbeats 4000000 in
theorem rput0 {w : World} {X A C B D a b} (L : LineAt w X A C B D a b) (s : ByteArray) (hs : s.size ≤ 9223372036854775807) (hl : a.length < 1000000) :
    Calls Try.prog 16 #[.pointer (some ⟨X, 0, none⟩), .int .i64 0, .string s] w fun e w' => e = .returned (.int .i64 0) ∧ Then w X A B (a ++ [s]) b w' := by
  obtain ⟨i, hi, hz, hsz, hb⟩ := strInfo
  have c0 := L.c0
  have hX := L.ltX
  have HL := Lib.hid L
  have h63 : a.length + 1 ≤ maxLen := by simp [maxLen]; omega
  clear L
  go_enter Try.func16, Try.ntmps16
  go_wp2_with (go_at_call 42; refine (endOk _ (by omega) _).mono ?_; rintro e w' ⟨rfl, rfl⟩)
  go_region_law (refine step_append_lies _ rfl (.tmp 17) (.tmp 19) 26 rfl 0 9 i (.string ⟨#[]⟩) 1 16 Try.underlying26 hi hz hsz hb rfl (by omega) (.slice A a.length C) a.length (a.map Value.string) rfl (World.ownsRow.alloc (World.ownsRow.drew HL.out.ra.own) _) ⟨w.heap.size, 0, none⟩ 1 1 [.string s] rfl rfl (news1 (by (repeat (first | (with_reducible refine cell_new_at ?_; first | with_reducible rfl | (simp; done)) | with_reducible refine cell_alloc_old _ ?_ | with_reducible refine cell_drew ?_ | with_reducible refine cell_gw (by with_reducible assumption) ?_)); done)) (one1 s) (by omega) h63 (by omega) (Nat.zero_le _) _ rfl ?_; intro g cap w1 hown hgr hat hlt; have hst := (stay HL.out (((Fr.refl _ w).alloc (.cells #[.string s] 9)).drew) (.inl rfl) hgr).1)
  all_goals
    go_wp2_with fail
    go_ret
    refine ⟨rfl, ?_⟩
    have el : (a ++ [s]).length = a.length + 1 := by simp
    have h := lay0 (w1 := w1) (g := g) (cap := cap) (a' := a ++ [s]) HL.out (((Fr.refl _ w).alloc (.cells #[.string s] 9)).drew) (by simp; omega)
      (by intro x hx; rcases List.mem_append.1 hx with hx | hx; (· exact HL.out.ra.sz x hx); (· simp at hx; subst hx; exact hs))
      (by rw [el, List.map_append]; exact hown) ((Fr.of_grown hgr).mono (by rw [ownBlock_blk]; exact fun _ h => h)) (hat.imp (by rw [ownBlock_blk]; exact id) (by rintro rfl; show w.heap.size ≤ (w.alloc _).heap.size; rw [World.size_alloc]; omega))
    rw [el] at h
    exact h
set_option maxRecDepth 100000 in
set_option maxHeartbeats 4000000 in
theorem rput1 {w : World} {X A C B D a b} (L : LineAt w X A C B D a b) (s : ByteArray) (hs : s.size ≤ 9223372036854775807) (hl : b.length < 1000000) :
    Calls Try.prog 16 #[.pointer (some ⟨X, 0, none⟩), .int .i64 1, .string s] w fun e w' => e = .returned (.int .i64 0) ∧ Then w X A B a (b ++ [s]) w' := by
  obtain ⟨i, hi, hz, hsz, hb⟩ := strInfo
  have c1 := L.c1
  have hX := L.ltX
  have HL := Lib.hid L
  have h63 : b.length + 1 ≤ maxLen := by simp [maxLen]; omega
  clear L
  go_enter Try.func16, Try.ntmps16
  go_wp2_with (go_at_call 42; refine (endOk _ (by omega) _).mono ?_; rintro e w' ⟨rfl, rfl⟩)
  go_region_law (refine step_append_lies _ rfl (.tmp 17) (.tmp 19) 26 rfl 0 9 i (.string ⟨#[]⟩) 1 16 Try.underlying26 hi hz hsz hb rfl (by omega) (.slice B b.length D) b.length (b.map Value.string) rfl (World.ownsRow.alloc (World.ownsRow.drew HL.out.rb.own) _) ⟨w.heap.size, 0, none⟩ 1 1 [.string s] rfl rfl (news1 (by (repeat (first | (with_reducible refine cell_new_at ?_; first | with_reducible rfl | (simp; done)) | with_reducible refine cell_alloc_old _ ?_ | with_reducible refine cell_drew ?_ | with_reducible refine cell_gw (by with_reducible assumption) ?_)); done)) (one1 s) (by omega) h63 (by omega) (Nat.zero_le _) _ rfl ?_; intro g cap w1 hown hgr hat hlt; have hst := (stay HL.out (((Fr.refl _ w).alloc (.cells #[.string s] 9)).drew) (.inr rfl) hgr).2)
  all_goals
    go_wp2_with fail
    go_ret
    refine ⟨rfl, ?_⟩
    have el : (b ++ [s]).length = b.length + 1 := by simp
    have h := lay1 (w1 := w1) (g := g) (cap := cap) (b' := b ++ [s]) HL.out (((Fr.refl _ w).alloc (.cells #[.string s] 9)).drew) (by simp; omega)
      (by intro x hx; rcases List.mem_append.1 hx with hx | hx; (· exact HL.out.rb.sz x hx); (· simp at hx; subst hx; exact hs))
      (by rw [el, List.map_append]; exact hown) ((Fr.of_grown hgr).mono (by rw [ownBlock_blk]; exact fun _ h => h)) (hat.imp (by rw [ownBlock_blk]; exact id) (by rintro rfl; show w.heap.size ≤ (w.alloc _).heap.size; rw [World.size_alloc]; omega))
    rw [el] at h
    exact h

theorem rputBad (X : Nat) (to : Int) (h : to < 0 ∨ 2 ≤ to) (s : ByteArray) (w : World) : Calls Try.prog 16 #[.pointer (some ⟨X, 0, none⟩), .int .i64 to, .string s] w fun e w' => e = .returned (.int .i64 2) ∧ w = w' := by
  have H := Lib.hid h
  clear h
  go_enter Try.func16, Try.ntmps16
  go_wp2_with (go_at_call 42; refine (endBad _ H.out _).mono ?_; rintro e w' ⟨rfl, rfl⟩)
  go_ret
  exact ⟨rfl, rfl⟩
/-- The row of an end, or none. -/
def selB (to : Int) (a b : List ByteArray) : List ByteArray := if to = 0 then a else if to = 1 then b else []
theorem selB0 (a b : List ByteArray) : selB 0 a b = a := rfl
theorem selB1 (a b : List ByteArray) : selB 1 a b = b := rfl
theorem selB_bad {to : Int} (h : to < 0 ∨ 2 ≤ to) (a b : List ByteArray) : selB to a b = [] := by unfold selB; rw [if_neg (by omega), if_neg (by omega)]
theorem to_cases (to : Int) : to = 0 ∨ to = 1 ∨ (to < 0 ∨ 2 ≤ to) := by omega
theorem len_any {w : World} {X A C B D a b} (L : LineAt w X A C B D a b) (to : Int) : Calls Try.prog 23 #[.pointer (some ⟨X, 0, none⟩), .int .i64 to] w fun e w' => e = .returned (.int .i64 ((selB to a b).length : Int)) ∧ w = w' := by
  rcases to_cases to with rfl | rfl | h
  · exact lenOk L 0 (.inl rfl)
  · exact lenOk L 1 (.inr rfl)
  · rw [selB_bad h]; exact lenBad X to h w
theorem at_any {w : World} {X A C B D a b} (L : LineAt w X A C B D a b) (to i : Int) (hi : -9223372036854775808 ≤ i ∧ i < 9223372036854775808) :
    Calls Try.prog 25 #[.pointer (some ⟨X, 0, none⟩), .int .i64 to, .int .i64 i] w fun e w' => e = .returned (.tuple #[.string (atS (selB to a b) i).1, .bool (atS (selB to a b) i).2]) ∧ w = w' := by
  rcases to_cases to with rfl | rfl | h
  · exact atOk L 0 i (.inl rfl) hi
  · exact atOk L 1 i (.inr rfl) hi
  · rw [selB_bad h, show atS [] i = (⟨#[]⟩, false) from by unfold atS; rw [if_neg (by simp)]]; exact atBad X to i h w
theorem all_any {w : World} {X A C B D a b} (L : LineAt w X A C B D a b) (to : Int) {n : Nat} (hn : (selB to a b).length = n) :
    Calls Try.prog 24 #[.pointer (some ⟨X, 0, none⟩), .int .i64 to] w fun e w' => ∃ A' C', e = .returned (.slice A' n C') ∧ Strs w' A' n (selB to a b) ∧ Gw w w' := by
  subst hn
  rcases to_cases to with rfl | rfl | h
  · exact (all0 L).mono fun e w' ⟨A', C', he, h1, h2, h3⟩ => ⟨A', C', he, h1.strs, h2⟩
  · exact (all1 L).mono fun e w' ⟨A', C', he, h1, h2, h3⟩ => ⟨A', C', he, h1.strs, h2⟩
  · rw [selB_bad h]; exact (allBad X to h w).mono fun e w' ⟨he, hw⟩ => ⟨none, 0, he, strs_nil _, hw ▸ Fr.refl _ _⟩
theorem rall0 {w : World} {X A C B D a b} (L : LineAt w X A C B D a b) : Calls Try.prog 39 #[.pointer (some ⟨X, 0, none⟩), .int .i64 0] w fun e w' => e = .returned (.slice A a.length C) ∧ w = w' := by
  have c0 := L.c0
  clear L
  go_enter Try.func39, Try.ntmps39
  go_wp2_with (go_at_call 42; refine (endOk _ (by omega) _).mono ?_; rintro e w' ⟨rfl, rfl⟩)
  go_ret
  exact ⟨rfl, rfl⟩
theorem rall1 {w : World} {X A C B D a b} (L : LineAt w X A C B D a b) : Calls Try.prog 39 #[.pointer (some ⟨X, 0, none⟩), .int .i64 1] w fun e w' => e = .returned (.slice B b.length D) ∧ w = w' := by
  have c0 := L.c1
  clear L
  go_enter Try.func39, Try.ntmps39
  go_wp2_with (go_at_call 42; refine (endOk _ (by omega) _).mono ?_; rintro e w' ⟨rfl, rfl⟩)
  go_ret
  exact ⟨rfl, rfl⟩
theorem rallBad (X : Nat) (to : Int) (h : to < 0 ∨ 2 ≤ to) (w : World) : Calls Try.prog 39 #[.pointer (some ⟨X, 0, none⟩), .int .i64 to] w fun e w' => e = .returned (.slice none 0 0) ∧ w = w' := by
  have H := Lib.hid h
  clear h
  go_enter Try.func39, Try.ntmps39
  go_wp2_with (go_at_call 42; refine (endBad _ H.out _).mono ?_; rintro e w' ⟨rfl, rfl⟩)
  go_ret
  exact ⟨rfl, rfl⟩
theorem rall_any {w : World} {X A C B D a b} (L : LineAt w X A C B D a b) (to : Int) {n : Nat} (hn : (selB to a b).length = n) :
    Calls Try.prog 39 #[.pointer (some ⟨X, 0, none⟩), .int .i64 to] w fun e w' => ∃ A' C', e = .returned (.slice A' n C') ∧ Strs w A' n (selB to a b) ∧ w = w' := by
  subst hn
  rcases to_cases to with rfl | rfl | h
  · exact (rall0 L).mono fun e w' ⟨he, hw⟩ => ⟨A, C, he, L.ra.strs, hw⟩
  · exact (rall1 L).mono fun e w' ⟨he, hw⟩ => ⟨B, D, he, L.rb.strs, hw⟩
  · rw [selB_bad h]; exact (rallBad X to h w).mono fun e w' ⟨he, hw⟩ => ⟨none, 0, he, strs_nil _, hw⟩
theorem atS_lo (l : List ByteArray) {i : Int} (h : i < 0) : atS l i = (⟨#[]⟩, false) := by unfold atS; rw [if_neg (by omega)]
theorem atS_hi (l : List ByteArray) {i : Int} (h : (l.length : Int) ≤ i) : atS l i = (⟨#[]⟩, false) := by unfold atS; rw [if_neg (by omega)]
theorem atS_in (l : List ByteArray) {k : Nat} (h : k < l.length) : atS l k = (l[k], true) := by unfold atS; rw [if_pos (by omega)]; simp [h]
theorem rat_any {w : World} {X A C B D a b} (L : LineAt w X A C B D a b) (to i : Int) (hi : -9223372036854775808 ≤ i ∧ i < 9223372036854775808) :
    Calls Try.prog 40 #[.pointer (some ⟨X, 0, none⟩), .int .i64 to, .int .i64 i] w fun e w' => e = .returned (.tuple #[.string (atS (selB to a b) i).1, .bool (atS (selB to a b) i).2]) ∧ w = w' := by
  obtain ⟨n, hn⟩ : ∃ n, (selB to a b).length = n := ⟨_, rfl⟩
  have HC := Lib.hid (rall_any L to hn)
  have HN := Lib.hid hn
  have hnm : n ≤ 1000000 := by
    have := L.ra.len; have := L.rb.len
    rw [← hn]; unfold selB; split
    · assumption
    · split
      · assumption
      · simp
  clear hn L
  generalize selB to a b = l at *
  by_cases h0 : i < 0
  · rw [atS_lo l h0]
    go_enter Try.func40, Try.ntmps40
    go_wp2_with (go_at_call 39; refine HC.out.mono ?_; rintro e w' ⟨A', C', rfl, hs, rfl⟩; have HS := Lib.hid hs; clear hs)
    go_ret2
    exact ⟨rfl, rfl⟩
  · obtain ⟨k, rfl⟩ := Int.eq_ofNat_of_zero_le (a := i) (by omega)
    by_cases h1 : k < n
    · have hk : k < l.length := by have := HN.out; omega
      have hz : (k : Int) < n := by omega
      rw [atS_in l hk]
      have HSZ : Hid (∃ s, l[k] = s) := Lib.hid ⟨_, rfl⟩
      obtain ⟨s, hs0⟩ := HSZ.out
      rw [hs0]
      have HS0 := Lib.hid hs0
      clear hs0 HSZ
      go_enter Try.func40, Try.ntmps40
      go_wp2_with (go_at_call 39; refine HC.out.mono ?_; rintro e w' ⟨A', C', rfl, hs, rfl⟩; obtain ⟨bb, o, rfl, hcell⟩ := hs.2.2.2.resolve_left (by intro e; have := HN.out; rw [e] at this; simp at this; omega); have q := hcell k hk; rw [HS0.out] at q; clear hs hcell)
      go_ret2
      exact ⟨rfl, rfl⟩
    · have hz : ¬ (k : Int) < n := by omega
      rw [atS_hi l (by have := HN.out; omega)]
      go_enter Try.func40, Try.ntmps40
      go_wp2_with (go_at_call 39; refine HC.out.mono ?_; rintro e w' ⟨A', C', rfl, hs, rfl⟩; have HS := Lib.hid hs; clear hs)
      go_ret2
      exact ⟨rfl, rfl⟩
end Go.Proofs.Ytdaodpojcjbggaa.Ln
