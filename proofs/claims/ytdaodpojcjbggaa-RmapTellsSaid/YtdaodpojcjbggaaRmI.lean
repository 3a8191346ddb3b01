/- Put, whatever is put; rows that are alike. -/
import Derived.Test.YtdaodpojcjbggaaRmH
namespace Go.Proofs.Ytdaodpojcjbggaa.Rm
open Go.RowKit Go.Proofs.Ytdaodpojcjbggaa.Ln
set_option linter.unusedVariables false
set_option linter.unusedSimpArgs false

/-- What a mapping's numbers keep to. -/
def Wf (m : M) : Prop := (-9223372036854775808 ≤ m.at' ∧ m.at' < 9223372036854775808) ∧ m.off < 9223372036854775808 ∧ (0 ≤ m.sum ∧ m.sum < 65536)
theorem put_ {w0 w H X r b l} (h : TS w0 w H X r b l) (m : M) (hw : Wf m) :
    Calls Try.prog 31 #[.pointer (some ⟨X, 0, none⟩), agg m] w (TabP w0 w H X r b (putL r b l m) (.returned (.bool (putB r b l m)))) := by
  have hb := h.ok.b
  have hr := h.ok.r
  by_cases hm : may r b m
  · cases hh : has l m.at' with
    | true =>
      have e : putB r b l m = false := by unfold putB; rw [hh]; simp
      rw [show putL r b l m = l from by unfold putL; rw [e]; rfl, e]
      exact put_has h m hw.1 hm hh
    | false =>
      have e : putB r b l m = true := by unfold putB; rw [hh]; simp [hm]
      rw [show putL r b l m = ins l m from by unfold putL; rw [e]; rfl, e]
      exact put_ok h m hw.2.1 hw.2.2 hm hh
  · have e : putB r b l m = false := by unfold putB; simp [hm]
    rw [show putL r b l m = l from by unfold putL; rw [e]; rfl, e]
    exact put_not h m ⟨hb.2, hb.1⟩ hr.2 hw.1 hm
set_option maxRecDepth 100000 in
set_option maxHeartbeats 4000000 in
theorem same (A B : Option Addr) (C D n : Nat) (l : List M) (w : World) (ha : Maps w A n C l) (hb : Maps w B n D l) (hn : n ≤ 100000) :
    Calls Try.prog 35 #[.slice A n C, .slice B n D] w fun e w' => e = .returned (.bool true) ∧ Gw w w' := by
  have HA := Lib.hid ha
  have HB := Lib.hid hb
  have hl := Lib.hid ha.1
  clear ha hb
  go_enter Try.func35, Try.ntmps35
  go_wp2_with fail
  go_loopw [5] (fun v W => ∃ i : Nat, i ≤ n ∧ v = .int .i64 i ∧ Hid (Gw w W)) (fun v _ => n - (intOf v).toNat)
  case atStart => exact ⟨0, by omega, rfl, Lib.hid (Fr.refl _ _)⟩
  case round =>
    obtain ⟨i, hi, rfl, hq⟩ := hrel
    by_cases hlt : i < n
    · have hz : (i : Int) < (n : Int) := by omega
      have hil : i < l.length := by have := hl.out; omega
      obtain ⟨b1, o1, rfl, p0, p1, p2, p3⟩ := (HA.out.gw hq.out).at' hil
      obtain ⟨b2, o2, rfl, q0, q1, q2, q3⟩ := (HB.out.gw hq.out).at' hil
      generalize l[i] = m at *
      go_wp2_with fail
      go_quiet (fail)
      go_wp2_with fail
      go_roundw
      case rel => exact ⟨i + 1, by omega, by go_num, Lib.hid (gw_drewN hq.out _)⟩
      case measure => simp [intOf]; omega
    · obtain rfl : i = n := by omega
      go_wp2_with fail
      go_ret
      exact ⟨rfl, hq.out⟩
end Go.Proofs.Ytdaodpojcjbggaa.Rm
