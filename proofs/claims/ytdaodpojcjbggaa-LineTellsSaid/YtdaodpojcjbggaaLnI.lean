/- Take (printed by linetake.py). -/
import Derived.Test.YtdaodpojcjbggaaLnH
namespace Go.Proofs.Ytdaodpojcjbggaa.Ln
open Go.RowKit
set_option linter.unusedVariables false
theorem takeNil (to i : Int) (w : World) : Calls Try.prog 17 #[.pointer none, .int .i64 to, .int .i64 i] w fun e w' => e = .returned (.tuple #[.string ⟨#[]⟩, .int .i64 1]) ∧ w = w' := by
  go_enter Try.func17, Try.ntmps17
  go_wp2_with (go_at_call 41; refine (rightNil _ _).mono ?_; rintro e w' ⟨rfl, rfl⟩)
  go_ret2
  exact ⟨rfl, rfl⟩
theorem takeBad (X : Nat) (to : Int) (h : to < 0 ∨ 2 ≤ to) (i : Int) (w : World) : Calls Try.prog 17 #[.pointer (some ⟨X, 0, none⟩), .int .i64 to, .int .i64 i] w fun e w' => e = .returned (.tuple #[.string ⟨#[]⟩, .int .i64 2]) ∧ w = w' := by
  have H := Lib.hid h
  clear h
  go_enter Try.func17, Try.ntmps17
  go_wp2_with (go_at_call 41; refine (rightBad _ _ H.out _).mono ?_; rintro e w' ⟨rfl, rfl⟩)
  go_ret2
  exact ⟨rfl, rfl⟩

set_option maxRecDepth 100000 in
set_option maxHeartbeats 4000000 in
theorem take0 {w : World} {X A C B D a b} (L : LineAt w X A C B D a b) (i : Nat) (hi : i < a.length) (hxs : a.length ≤ 900000) :
    Calls Try.prog 17 #[.pointer (some ⟨X, 0, none⟩), .int .i64 0, .int .i64 i] w fun e w' => e = .returned (.tuple #[.string a[i], .int .i64 0]) ∧ Then w X A B (a.take i ++ a.drop (i + 1)) b w' := by
  have HL := Lib.hid L
  clear L
  have hat : atS (sel 0 a b) i = (a[i], true) := by
    rw [show sel 0 a b = a from rfl]; unfold atS; rw [if_pos (by omega)]; simp [hi]
  go_enter Try.func17, Try.ntmps17
  go_wp2_with (first | (go_at_call 41; refine (rightOk _ _ (by omega) _).mono ?_; rintro e w' ⟨rfl, rfl⟩) | (go_at_call 25; refine (atOk HL.out _ _ (by omega) (by omega)).mono ?_; rw [hat]; rintro e w' ⟨rfl, rfl⟩) | (go_at_call 19; refine (turn0 HL.out i 1 (by omega) (by omega) hxs none 0 [] (by simp) (by simp) (fun W hW => Src.ofNil (e' := 9) W Try.underlying26 0)).mono ?_; rintro e w1 ⟨rfl, ht⟩))
  go_ret2
  refine ⟨rfl, ?_⟩
  rw [List.append_nil] at ht
  exact ht
theorem takeNone0 {w : World} {X A C B D a b} (L : LineAt w X A C B D a b) (i : Int) (hr : -9223372036854775808 ≤ i ∧ i < 9223372036854775808) (hi : i < 0 ∨ (a.length : Int) ≤ i) :
    Calls Try.prog 17 #[.pointer (some ⟨X, 0, none⟩), .int .i64 0, .int .i64 i] w fun e w' => e = .returned (.tuple #[.string ⟨#[]⟩, .int .i64 8]) ∧ w = w' := by
  have HL := Lib.hid L
  clear L
  have hat : atS (sel 0 a b) i = (⟨#[]⟩, false) := by
    rw [show sel 0 a b = a from rfl]; unfold atS; rw [if_neg (by omega)]
  clear hi
  go_enter Try.func17, Try.ntmps17
  go_wp2_with (first | (go_at_call 41; refine (rightOk _ _ (by omega) _).mono ?_; rintro e w' ⟨rfl, rfl⟩) | (go_at_call 25; refine (atOk HL.out _ _ (by omega) hr).mono ?_; rw [hat]; rintro e w' ⟨rfl, rfl⟩))
  go_ret2
  exact ⟨rfl, rfl⟩

set_option maxRecDepth 100000 in
set_option maxHeartbeats 4000000 in
theorem take1 {w : World} {X A C B D a b} (L : LineAt w X A C B D a b) (i : Nat) (hi : i < b.length) (hxs : b.length ≤ 900000) :
    Calls Try.prog 17 #[.pointer (some ⟨X, 0, none⟩), .int .i64 1, .int .i64 i] w fun e w' => e = .returned (.tuple #[.string b[i], .int .i64 0]) ∧ Then w X A B a (b.take i ++ b.drop (i + 1)) w' := by
  have HL := Lib.hid L
  clear L
  have hat : atS (sel 1 a b) i = (b[i], true) := by
    rw [show sel 1 a b = b from rfl]; unfold atS; rw [if_pos (by omega)]; simp [hi]
  go_enter Try.func17, Try.ntmps17
  go_wp2_with (first | (go_at_call 41; refine (rightOk _ _ (by omega) _).mono ?_; rintro e w' ⟨rfl, rfl⟩) | (go_at_call 25; refine (atOk HL.out _ _ (by omega) (by omega)).mono ?_; rw [hat]; rintro e w' ⟨rfl, rfl⟩) | (go_at_call 19; refine (turn1 HL.out i 1 (by omega) (by omega) hxs none 0 [] (by simp) (by simp) (fun W hW => Src.ofNil (e' := 9) W Try.underlying26 0)).mono ?_; rintro e w1 ⟨rfl, ht⟩))
  go_ret2
  refine ⟨rfl, ?_⟩
  rw [List.append_nil] at ht
  exact ht
theorem takeNone1 {w : World} {X A C B D a b} (L : LineAt w X A C B D a b) (i : Int) (hr : -9223372036854775808 ≤ i ∧ i < 9223372036854775808) (hi : i < 0 ∨ (b.length : Int) ≤ i) :
    Calls Try.prog 17 #[.pointer (some ⟨X, 0, none⟩), .int .i64 1, .int .i64 i] w fun e w' => e = .returned (.tuple #[.string ⟨#[]⟩, .int .i64 8]) ∧ w = w' := by
  have HL := Lib.hid L
  clear L
  have hat : atS (sel 1 a b) i = (⟨#[]⟩, false) := by
    rw [show sel 1 a b = b from rfl]; unfold atS; rw [if_neg (by omega)]
  clear hi
  go_enter Try.func17, Try.ntmps17
  go_wp2_with (first | (go_at_call 41; refine (rightOk _ _ (by omega) _).mono ?_; rintro e w' ⟨rfl, rfl⟩) | (go_at_call 25; refine (atOk HL.out _ _ (by omega) hr).mono ?_; rw [hat]; rintro e w' ⟨rfl, rfl⟩))
  go_ret2
  exact ⟨rfl, rfl⟩
end Go.Proofs.Ytdaodpojcjbggaa.Ln
