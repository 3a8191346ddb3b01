/- The walk of SeqTells. -/
import Derived.Test.YtmjajepdlopkiaaSeqE
import Derived.Deep.QuietTactic
import Derived.BigQuiet
namespace Go.Proofs.Ytmjajepdlopkiaa.Sq
open Go.RowKit
set_option linter.unusedVariables false

theorem quiet_add_left {Q : Program} {f : FuncId} {args : Array Value} {w : World} {a n : Nat} {v : Value}
    (h : Calls Q f args (w.drewN (a + n)) fun e w' => e = .returned v ∧ w.drewN (a + n) = w') :
    Calls Q f args (w.drewN (a + n)) fun e w'' => e = .returned v ∧ ∃ m, w'' = w.drewN (a + m) :=
  h.mono fun _ _ ⟨he, hm⟩ => ⟨he, n, hm.symm⟩
theorem quiet_left {Q : Program} {f : FuncId} {args : Array Value} {w : World} {n : Nat} {v : Value}
    (h : Calls Q f args (w.drewN n) fun e w' => e = .returned v ∧ w.drewN n = w') : Calls Q f args (w.drewN n) fun e w'' => e = .returned v ∧ ∃ m, w'' = w.drewN m :=
  h.mono fun _ _ ⟨he, hm⟩ => ⟨he, n, hm.symm⟩

/-- Where a number lies within, and whether. -/
def InN (fr x n : Int) : Int := if W fr x < n then W fr x else 0
def InB (fr x n : Int) : Bool := decide (W fr x < n)
theorem inn' (x fr n : Int) (w : World) :
    Calls Try.prog 19 #[.int .u32 x, .int .u32 fr, .int .i64 n] w fun e w' => e = .returned (.tuple #[.int .i64 (InN fr x n), .bool (InB fr x n)]) ∧ w = w' := inn x fr n w
theorem rin' (x fr n : Int) (w : World) (hx : 0 ≤ x ∧ x < 4294967296) (hf : 0 ≤ fr ∧ fr < 4294967296) :
    Calls Try.prog 20 #[.int .u32 x, .int .u32 fr, .int .i64 n] w fun e w' => e = .returned (.tuple #[.int .i64 (InN fr x n), .bool (InB fr x n)]) ∧ w = w' := rin x fr n hx hf w

theorem idx25_0 (a b c d e f : Int) (w : World) : (Instr.index 25 (.agg #[.int .u32 a, .int .u32 b, .int .u32 c, .int .u32 d, .int .u32 e, .int .u32 f]) (.int .i64 0)).run Try.prog w = .ok (.agg #[.int .u32 a, .int .u32 b]) w := by kernel_rfl
theorem idx25_1 (a b c d e f : Int) (w : World) : (Instr.index 25 (.agg #[.int .u32 a, .int .u32 b, .int .u32 c, .int .u32 d, .int .u32 e, .int .u32 f]) (.int .i64 1)).run Try.prog w = .ok (.agg #[.int .u32 c, .int .u32 d]) w := by kernel_rfl
theorem idx25_2 (a b c d e f : Int) (w : World) : (Instr.index 25 (.agg #[.int .u32 a, .int .u32 b, .int .u32 c, .int .u32 d, .int .u32 e, .int .u32 f]) (.int .i64 2)).run Try.prog w = .ok (.agg #[.int .u32 e, .int .u32 f]) w := by kernel_rfl
theorem idx28_0 (x y z : Int) (w : World) : (Instr.index 28 (.agg #[.int .i64 x, .int .i64 y, .int .i64 z]) (.int .i64 0)).run Try.prog w = .ok (.int .i64 x) w := by kernel_rfl
theorem idx28_1 (x y z : Int) (w : World) : (Instr.index 28 (.agg #[.int .i64 x, .int .i64 y, .int .i64 z]) (.int .i64 1)).run Try.prog w = .ok (.int .i64 y) w := by kernel_rfl
theorem idx28_2 (x y z : Int) (w : World) : (Instr.index 28 (.agg #[.int .i64 x, .int .i64 y, .int .i64 z]) (.int .i64 2)).run Try.prog w = .ok (.int .i64 z) w := by kernel_rfl
attribute [local go_sem] idx25_0 idx25_1 idx25_2 idx28_0 idx28_1 idx28_2

set_option maxRecDepth 100000 in
set_option maxHeartbeats 4000000 in
theorem seqTells (a b n : Int) (ha : 0 ≤ a ∧ a < 4294967296) (hb : 0 ≤ b ∧ b < 4294967296) (hn : -9223372036854775808 ≤ n ∧ n < 9223372036854775808) (w : World) :
    Calls Try.prog 3 #[.int .u32 a, .int .u32 b, .int .i64 n] w fun e w' => e = .returned (.bool true) ∧ Gw w w' := by
  have hm := tmod_million n
  have hp := P_range a (n.tmod 1048576)
  obtain ⟨c, hc⟩ : ∃ c, P a (n.tmod 1048576) = c := ⟨_, rfl⟩
  rw [hc] at hp
  go_enter Try.func3, Try.ntmps3
  go_wp2_with (first | (go_at_call 14; refine (rplus _ _ (by omega) (by omega) _).mono ?_; rintro e w' ⟨rfl, rfl⟩))
  go_loopw [30] (fun v wr => ∃ i : Nat, i ≤ 3 ∧ v = .int .i64 i ∧ Gw w wr) (fun v _ => 3 - (intOf v).toNat)
  case atStart => exact ⟨0, by omega, rfl, Gw.refl _⟩
  case round =>
    obtain ⟨i, hi, rfl, hg⟩ := hrel
    have hcase : i = 0 ∨ i = 1 ∨ i = 2 ∨ i = 3 := by omega
    rcases hcase with rfl | rfl | rfl | rfl
    · have hgr := G_range a b
      go_wp2
      go_quiet ((first | (go_at_call 15; exact quiet_left (before _ _ _)) | (go_at_call 16; exact quiet_left (rbefore _ _ (by omega) (by omega) _)) | (go_at_call 17; exact quiet_left (gap _ _ _)) | (go_at_call 18; exact quiet_left (rgap _ _ (by omega) (by omega) _))))
      go_wp2_with (first | (go_at_call 18; refine (rgap _ _ (by omega) (by omega) _).mono ?_; rintro e w' ⟨rfl, rfl⟩) | (go_at_call 19; refine (inn' _ _ _ _).mono ?_; rintro e w' ⟨rfl, rfl⟩) | (go_at_call 20; refine (rin' _ _ _ _ (by omega) (by omega)).mono ?_; rintro e w' ⟨rfl, rfl⟩))
      refine wp_loop_rounds 4 ?_
      rw [rounds_succ]
      go_wp2_with (first | (go_at_call 18; refine (rgap _ _ (by omega) (by omega) _).mono ?_; rintro e w' ⟨rfl, rfl⟩) | (go_at_call 19; refine (inn' _ _ _ _).mono ?_; rintro e w' ⟨rfl, rfl⟩) | (go_at_call 20; refine (rin' _ _ _ _ (by omega) (by omega)).mono ?_; rintro e w' ⟨rfl, rfl⟩))
      go_quiet ((first | (go_at_call 21; exact quiet_add_left (plus _ _ _)) | (go_at_call 14; exact quiet_add_left (rplus _ _ (by omega) (by omega) _))))
      go_wp2
      rw [rounds_succ]
      go_wp2_with (first | (go_at_call 18; refine (rgap _ _ (by omega) (by omega) _).mono ?_; rintro e w' ⟨rfl, rfl⟩) | (go_at_call 19; refine (inn' _ _ _ _).mono ?_; rintro e w' ⟨rfl, rfl⟩) | (go_at_call 20; refine (rin' _ _ _ _ (by omega) (by omega)).mono ?_; rintro e w' ⟨rfl, rfl⟩))
      go_quiet ((first | (go_at_call 21; exact quiet_add_left (plus _ _ _)) | (go_at_call 14; exact quiet_add_left (rplus _ _ (by omega) (by omega) _))))
      go_wp2
      rw [rounds_succ]
      go_wp2_with (first | (go_at_call 18; refine (rgap _ _ (by omega) (by omega) _).mono ?_; rintro e w' ⟨rfl, rfl⟩) | (go_at_call 19; refine (inn' _ _ _ _).mono ?_; rintro e w' ⟨rfl, rfl⟩) | (go_at_call 20; refine (rin' _ _ _ _ (by omega) (by omega)).mono ?_; rintro e w' ⟨rfl, rfl⟩))
      go_quiet ((first | (go_at_call 21; exact quiet_add_left (plus _ _ _)) | (go_at_call 14; exact quiet_add_left (rplus _ _ (by omega) (by omega) _))))
      go_wp2
      rw [rounds_succ]
      go_wp2
      go_roundw
      case rel => exact ⟨1, by omega, by go_num, (hg.alloc _).drewN _⟩
      case measure => simp [intOf]
    · have hgr := G_range a c
      go_wp2
      go_quiet ((first | (go_at_call 15; exact quiet_left (before _ _ _)) | (go_at_call 16; exact quiet_left (rbefore _ _ (by omega) (by omega) _)) | (go_at_call 17; exact quiet_left (gap _ _ _)) | (go_at_call 18; exact quiet_left (rgap _ _ (by omega) (by omega) _))))
      go_wp2_with (first | (go_at_call 18; refine (rgap _ _ (by omega) (by omega) _).mono ?_; rintro e w' ⟨rfl, rfl⟩) | (go_at_call 19; refine (inn' _ _ _ _).mono ?_; rintro e w' ⟨rfl, rfl⟩) | (go_at_call 20; refine (rin' _ _ _ _ (by omega) (by omega)).mono ?_; rintro e w' ⟨rfl, rfl⟩))
      refine wp_loop_rounds 4 ?_
      rw [rounds_succ]
      go_wp2_with (first | (go_at_call 18; refine (rgap _ _ (by omega) (by omega) _).mono ?_; rintro e w' ⟨rfl, rfl⟩) | (go_at_call 19; refine (inn' _ _ _ _).mono ?_; rintro e w' ⟨rfl, rfl⟩) | (go_at_call 20; refine (rin' _ _ _ _ (by omega) (by omega)).mono ?_; rintro e w' ⟨rfl, rfl⟩))
      go_quiet ((first | (go_at_call 21; exact quiet_add_left (plus _ _ _)) | (go_at_call 14; exact quiet_add_left (rplus _ _ (by omega) (by omega) _))))
      go_wp2
      rw [rounds_succ]
      go_wp2_with (first | (go_at_call 18; refine (rgap _ _ (by omega) (by omega) _).mono ?_; rintro e w' ⟨rfl, rfl⟩) | (go_at_call 19; refine (inn' _ _ _ _).mono ?_; rintro e w' ⟨rfl, rfl⟩) | (go_at_call 20; refine (rin' _ _ _ _ (by omega) (by omega)).mono ?_; rintro e w' ⟨rfl, rfl⟩))
      go_quiet ((first | (go_at_call 21; exact quiet_add_left (plus _ _ _)) | (go_at_call 14; exact quiet_add_left (rplus _ _ (by omega) (by omega) _))))
      go_wp2
      rw [rounds_succ]
      go_wp2_with (first | (go_at_call 18; refine (rgap _ _ (by omega) (by omega) _).mono ?_; rintro e w' ⟨rfl, rfl⟩) | (go_at_call 19; refine (inn' _ _ _ _).mono ?_; rintro e w' ⟨rfl, rfl⟩) | (go_at_call 20; refine (rin' _ _ _ _ (by omega) (by omega)).mono ?_; rintro e w' ⟨rfl, rfl⟩))
      go_quiet ((first | (go_at_call 21; exact quiet_add_left (plus _ _ _)) | (go_at_call 14; exact quiet_add_left (rplus _ _ (by omega) (by omega) _))))
      go_wp2
      rw [rounds_succ]
      go_wp2
      go_roundw
      case rel => exact ⟨2, by omega, by go_num, (hg.alloc _).drewN _⟩
      case measure => simp [intOf]
    · have hgr := G_range a a
      go_wp2
      go_quiet ((first | (go_at_call 15; exact quiet_left (before _ _ _)) | (go_at_call 16; exact quiet_left (rbefore _ _ (by omega) (by omega) _)) | (go_at_call 17; exact quiet_left (gap _ _ _)) | (go_at_call 18; exact quiet_left (rgap _ _ (by omega) (by omega) _))))
      go_wp2_with (first | (go_at_call 18; refine (rgap _ _ (by omega) (by omega) _).mono ?_; rintro e w' ⟨rfl, rfl⟩) | (go_at_call 19; refine (inn' _ _ _ _).mono ?_; rintro e w' ⟨rfl, rfl⟩) | (go_at_call 20; refine (rin' _ _ _ _ (by omega) (by omega)).mono ?_; rintro e w' ⟨rfl, rfl⟩))
      refine wp_loop_rounds 4 ?_
      rw [rounds_succ]
      go_wp2_with (first | (go_at_call 18; refine (rgap _ _ (by omega) (by omega) _).mono ?_; rintro e w' ⟨rfl, rfl⟩) | (go_at_call 19; refine (inn' _ _ _ _).mono ?_; rintro e w' ⟨rfl, rfl⟩) | (go_at_call 20; refine (rin' _ _ _ _ (by omega) (by omega)).mono ?_; rintro e w' ⟨rfl, rfl⟩))
      go_quiet ((first | (go_at_call 21; exact quiet_add_left (plus _ _ _)) | (go_at_call 14; exact quiet_add_left (rplus _ _ (by omega) (by omega) _))))
      go_wp2
      rw [rounds_succ]
      go_wp2_with (first | (go_at_call 18; refine (rgap _ _ (by omega) (by omega) _).mono ?_; rintro e w' ⟨rfl, rfl⟩) | (go_at_call 19; refine (inn' _ _ _ _).mono ?_; rintro e w' ⟨rfl, rfl⟩) | (go_at_call 20; refine (rin' _ _ _ _ (by omega) (by omega)).mono ?_; rintro e w' ⟨rfl, rfl⟩))
      go_quiet ((first | (go_at_call 21; exact quiet_add_left (plus _ _ _)) | (go_at_call 14; exact quiet_add_left (rplus _ _ (by omega) (by omega) _))))
      go_wp2
      rw [rounds_succ]
      go_wp2_with (first | (go_at_call 18; refine (rgap _ _ (by omega) (by omega) _).mono ?_; rintro e w' ⟨rfl, rfl⟩) | (go_at_call 19; refine (inn' _ _ _ _).mono ?_; rintro e w' ⟨rfl, rfl⟩) | (go_at_call 20; refine (rin' _ _ _ _ (by omega) (by omega)).mono ?_; rintro e w' ⟨rfl, rfl⟩))
      go_quiet ((first | (go_at_call 21; exact quiet_add_left (plus _ _ _)) | (go_at_call 14; exact quiet_add_left (rplus _ _ (by omega) (by omega) _))))
      go_wp2
      rw [rounds_succ]
      go_wp2
      go_roundw
      case rel => exact ⟨3, by omega, by go_num, (hg.alloc _).drewN _⟩
      case measure => simp [intOf]
    · go_wp2_with (first | (go_at_call 22; refine (works _).mono ?_; rintro e w' ⟨rfl, hb⟩))
      go_ret
      exact ⟨rfl, Gw.trans hg (by assumption)⟩
end Go.Proofs.Ytmjajepdlopkiaa.Sq
