/- Package line and the document's line: what is read of them. -/
import Derived.Test.YtdaodpojcjbggaaLnB
namespace Go.Proofs.Ytdaodpojcjbggaa.Ln
open Go.RowKit
set_option linter.unusedVariables false

def sel (to : Int) (a b : List ByteArray) : List ByteArray := if to = 0 then a else b

theorem lenNil (to : Int) (w : World) : Calls Try.prog 23 #[.pointer none, .int .i64 to] w fun e w' => e = .returned (.int .i64 0) ∧ w = w' := by
  go_enter Try.func23, Try.ntmps23
  go_wp2_with (go_at_call 41; refine (rightNil _ _).mono ?_; rintro e w' ⟨rfl, rfl⟩)
  go_ret
  exact ⟨rfl, rfl⟩
theorem lenBad (X : Nat) (to : Int) (h : to < 0 ∨ 2 ≤ to) (w : World) : Calls Try.prog 23 #[.pointer (some ⟨X, 0, none⟩), .int .i64 to] w fun e w' => e = .returned (.int .i64 0) ∧ w = w' := by
  have H := Lib.hid h
  clear h
  go_enter Try.func23, Try.ntmps23
  go_wp2_with (go_at_call 41; refine (rightBad _ _ H.out _).mono ?_; rintro e w' ⟨rfl, rfl⟩)
  go_ret
  exact ⟨rfl, rfl⟩
theorem lenOk {w : World} {X A C B D a b} (L : LineAt w X A C B D a b) (to : Int) (h : to = 0 ∨ to = 1) : Calls Try.prog 23 #[.pointer (some ⟨X, 0, none⟩), .int .i64 to] w fun e w' => e = .returned (.int .i64 ((sel to a b).length : Int)) ∧ w = w' := by
  have c0 := L.c0
  have c1 := L.c1
  have hl := L.ra.len
  have hl' := L.rb.len
  clear L
  rcases h with rfl | rfl
  all_goals
    go_enter Try.func23, Try.ntmps23
    go_wp2_with (go_at_call 41; refine (rightOk _ _ (by omega) _).mono ?_; rintro e w' ⟨rfl, rfl⟩)
    go_ret
    exact ⟨rfl, rfl⟩

/-- A reading by place. -/
def atS (l : List ByteArray) (i : Int) : ByteArray × Bool := if 0 ≤ i ∧ i < l.length then (l.getD i.toNat ⟨#[]⟩, true) else (⟨#[]⟩, false)

theorem atNil (to i : Int) (w : World) : Calls Try.prog 25 #[.pointer none, .int .i64 to, .int .i64 i] w fun e w' => e = .returned (.tuple #[.string ⟨#[]⟩, .bool false]) ∧ w = w' := by
  by_cases h : i < 0
  · go_enter Try.func25, Try.ntmps25
    go_wp2
    go_ret2
    exact ⟨rfl, rfl⟩
  · go_enter Try.func25, Try.ntmps25
    go_wp2_with (go_at_call 23; refine (lenNil _ _).mono ?_; rintro e w' ⟨rfl, rfl⟩)
    go_ret2
    exact ⟨rfl, rfl⟩
theorem atBad (X : Nat) (to i : Int) (hb : to < 0 ∨ 2 ≤ to) (w : World) : Calls Try.prog 25 #[.pointer (some ⟨X, 0, none⟩), .int .i64 to, .int .i64 i] w fun e w' => e = .returned (.tuple #[.string ⟨#[]⟩, .bool false]) ∧ w = w' := by
  have H := Lib.hid hb
  clear hb
  by_cases h : i < 0
  · go_enter Try.func25, Try.ntmps25
    go_wp2
    go_ret2
    exact ⟨rfl, rfl⟩
  · go_enter Try.func25, Try.ntmps25
    go_wp2_with (go_at_call 23; refine (lenBad _ _ H.out _).mono ?_; rintro e w' ⟨rfl, rfl⟩)
    go_ret2
    exact ⟨rfl, rfl⟩
theorem atOk {w : World} {X A C B D a b} (L : LineAt w X A C B D a b) (to i : Int) (h : to = 0 ∨ to = 1) (hi : -9223372036854775808 ≤ i ∧ i < 9223372036854775808) :
    Calls Try.prog 25 #[.pointer (some ⟨X, 0, none⟩), .int .i64 to, .int .i64 i] w fun e w' => e = .returned (.tuple #[.string (atS (sel to a b) i).1, .bool (atS (sel to a b) i).2]) ∧ w = w' := by
  have c0 := L.c0
  have c1 := L.c1
  have hl := L.ra.len
  have hl' := L.rb.len
  have HA := L.ra.at
  have HB := L.rb.at
  have HL := Lib.hid L
  clear L
  by_cases h0 : i < 0
  · have : atS (sel to a b) i = (⟨#[]⟩, false) := by unfold atS; rw [if_neg (by omega)]
    rw [this]
    clear HA HB
    go_enter Try.func25, Try.ntmps25
    go_wp2
    go_ret2
    exact ⟨rfl, rfl⟩
  · obtain ⟨k, rfl⟩ := Int.eq_ofNat_of_zero_le (a := i) (by omega)
    rcases h with rfl | rfl
    · by_cases h1 : k < a.length
      · have : atS (sel 0 a b) k = (a[k], true) := by unfold atS sel; rw [if_pos rfl, if_pos (by omega)]; simp [h1]
        rw [this]
        rcases HA with ⟨rfl, rfl, rfl⟩ | ⟨g, rfl, hac, hcm, hg, hcell⟩
        · simp at h1
        · have hk := hcell k h1
          have hz : (k : Int) < (a.length : Int) := by omega
          clear hcell HB
          go_enter Try.func25, Try.ntmps25
          go_wp2_with (go_at_call 23; refine (lenOk HL.out _ (by omega)).mono ?_; simp only [sel, if_pos]; rintro e w' ⟨rfl, rfl⟩)
          go_ret2
          exact ⟨rfl, rfl⟩
      · have : atS (sel 0 a b) k = (⟨#[]⟩, false) := by unfold atS sel; rw [if_pos rfl, if_neg (by omega)]
        rw [this]
        have hz : ¬ (k : Int) < (a.length : Int) := by omega
        clear HA HB
        go_enter Try.func25, Try.ntmps25
        go_wp2_with (go_at_call 23; refine (lenOk HL.out _ (by omega)).mono ?_; simp only [sel, if_pos]; rintro e w' ⟨rfl, rfl⟩)
        go_ret2
        exact ⟨rfl, rfl⟩
    · have hs : sel 1 a b = b := rfl
      by_cases h1 : k < b.length
      · have : atS (sel 1 a b) k = (b[k], true) := by unfold atS; rw [hs, if_pos (by omega)]; simp [h1]
        rw [this]
        rcases HB with ⟨rfl, rfl, rfl⟩ | ⟨g, rfl, hac, hcm, hg, hcell⟩
        · simp at h1
        · have hk := hcell k h1
          have hz : (k : Int) < (b.length : Int) := by omega
          clear hcell HA
          go_enter Try.func25, Try.ntmps25
          go_wp2_with (go_at_call 23; refine (lenOk HL.out _ (by omega)).mono ?_; rw [hs]; rintro e w' ⟨rfl, rfl⟩)
          go_ret2
          exact ⟨rfl, rfl⟩
      · have : atS (sel 1 a b) k = (⟨#[]⟩, false) := by unfold atS; rw [hs, if_neg (by omega)]
        rw [this]
        have hz : ¬ (k : Int) < (b.length : Int) := by omega
        clear HA HB
        go_enter Try.func25, Try.ntmps25
        go_wp2_with (go_at_call 23; refine (lenOk HL.out _ (by omega)).mono ?_; rw [hs]; rintro e w' ⟨rfl, rfl⟩)
        go_ret2
        exact ⟨rfl, rfl⟩
end Go.Proofs.Ytdaodpojcjbggaa.Ln
