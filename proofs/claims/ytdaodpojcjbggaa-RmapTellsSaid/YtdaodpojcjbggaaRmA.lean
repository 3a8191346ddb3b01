/- sort.Search, of a closure that lets nothing that lay turn. -/
import Derived.Test.YtdaodpojcjbggaaLnD
import Derived.LoopTactic
import Derived.Test.YtdaodpojcjbggaaRmP
namespace Go.Proofs.Ytdaodpojcjbggaa.Rm
open Go.RowKit Go.Proofs.Ytdaodpojcjbggaa.Ln
set_option linter.unusedVariables false

theorem gw_alloc1 (w : World) (o : Obj) : Gw w (w.alloc o) := (Fr.refl _ w).alloc o
theorem gw_trans {a b c : World} (h : Gw a b) (k : Gw b c) : Gw a c := Fr.trans h k (fun _ _ h => h)
theorem gw_undrew {w W : World} (h : Gw w.drew W) : Gw w W := ⟨h.os, h.tape, h.output, h.size, h.block⟩
theorem gw_drew (w : World) : Gw w w.drew := (Fr.refl _ w).drew
theorem gw_drewN {a b : World} (h : Gw a b) (n : Nat) : Gw a (b.drewN n) := ⟨h.os, h.tape, h.output, h.size, h.block⟩
theorem gw_undrewN {w W : World} {n : Nat} (h : Gw (w.drewN n) W) : Gw w W := ⟨h.os, h.tape, h.output, h.size, h.block⟩
/-- What is found: the first place of which p says yes. -/
def Found (n : Nat) (p : Nat → Bool) (w : World) (e : Ending) (w' : World) : Prop :=
  ∃ k : Nat, e = .returned (.int .i64 k) ∧ k ≤ n ∧ (∀ t, t < k → p t = false) ∧ (∀ t, k ≤ t → t < n → p t = true) ∧ Gw w w'

set_option maxRecDepth 100000 in
set_option maxHeartbeats 4000000 in
theorem search (g : Nat) (cb : Array Value) (n : Nat) (p : Nat → Bool) (w : World) (eg : ∀ args w, (callFunc g args).run Try.prog w = .ok (.enter g args) w) (hsz : n ≤ 1000000)
    (hf : ∀ (W : World) (i : Nat), i < n → Gw w W → Calls Try.prog g (#[.int .i64 i] ++ cb) W fun e w' => e = .returned (.bool (p i)) ∧ Gw W w')
    (hmono : ∀ a b, a ≤ b → b < n → p a = true → p b = true) :
    Calls Try.prog 54 #[.int .i64 n, .func (.func g) #[] cb] w (Found n p w) := by
  have HF := Lib.hid hf
  have M := Lib.hid hmono
  clear hf hmono
  go_enter Try.func54, Try.ntmps54
  go_wp2_with fail
  go_loopw [5, 6] (fun s5 s6 wr => ∃ (lo hi : Nat), s5 = .int .i64 lo ∧ s6 = .int .i64 hi ∧ lo ≤ hi ∧ hi ≤ n ∧ Hid (Gw w wr) ∧
    Hid ((∀ t, t < lo → p t = false) ∧ (∀ t, hi ≤ t → t < n → p t = true))) (fun s5 s6 _ => (intOf s6).toNat - (intOf s5).toNat)
  case atStart => exact ⟨0, n, rfl, rfl, Nat.zero_le _, Nat.le_refl _, Lib.hid (Fr.refl _ _), Lib.hid ⟨fun t ht => absurd ht (Nat.not_lt_zero _), fun t h1 h2 => by omega⟩⟩
  case round =>
    obtain ⟨lo, hi, rfl, rfl, hlh, hin, G, I⟩ := hrel
    by_cases hlt : lo < hi
    · have hz : (lo : Int) < hi := by omega
      have hc := HF.out wr ((lo + hi) / 2) (by omega) G.out
      rw [show (((lo + hi) / 2 : Nat) : Int) = ((lo : Int) + (hi : Int)) / 2 by omega] at hc
      cases hp : p ((lo + hi) / 2) <;> rw [hp] at hc
      · have HP := Lib.hid hp
        clear hp
        go_wp2_with (refine hc.mono ?_; rintro e w' ⟨rfl, hg⟩)
        go_roundw
        case rel =>
          exact ⟨(lo + hi) / 2 + 1, hi, by rw [show ((lo : Int) + (hi : Int)) / 2 + 1 = (((lo + hi) / 2 + 1 : Nat) : Int) by omega], rfl, by omega, hin, Lib.hid (Fr.trans G.out hg (fun _ _ h => h)), Lib.hid ⟨fun t ht => (by
            cases h : p t with
            | false => rfl
            | true => have := M.out t ((lo + hi) / 2) (by omega) (by omega) h; rw [HP.out] at this; cases this), I.out.2⟩⟩
        case measure => simp [intOf]; omega
      · have HP := Lib.hid hp
        clear hp
        go_wp2_with (refine hc.mono ?_; rintro e w' ⟨rfl, hg⟩)
        go_roundw
        case rel =>
          exact ⟨lo, (lo + hi) / 2, rfl, by rw [show ((lo : Int) + (hi : Int)) / 2 = (((lo + hi) / 2 : Nat) : Int) by omega], by omega, by omega, Lib.hid (Fr.trans G.out hg (fun _ _ h => h)), Lib.hid ⟨I.out.1, fun t ht htn => M.out ((lo + hi) / 2) t ht htn HP.out⟩⟩
        case measure => simp [intOf]; omega
    · obtain rfl : hi = lo := by omega
      go_wp2_with fail
      go_ret
      exact ⟨hi, rfl, hin, I.out.1, I.out.2, G.out⟩
end Go.Proofs.Ytdaodpojcjbggaa.Rm
