/- The walk of RmapTells. -/
import Derived.Test.YtdaodpojcjbggaaRmZ
import Derived.Test.YtdaodpojcjbggaaRmJ
namespace Go.Proofs.Ytdaodpojcjbggaa.Rm
open Go.RowKit Go.Proofs.Ytdaodpojcjbggaa.Ln
set_option linter.unusedVariables false
set_option linter.unusedSimpArgs false

/-- An act that lies in memory. -/
def ActIn (w : World) (b o : Nat) : Prop := ∃ (wh n : Int) (m : M),
  (w.cell? ⟨b, o, none⟩ = some (.int .u8 wh) ∧ w.cell? ⟨b, o + 1, none⟩ = some (.int .i64 m.at') ∧ w.cell? ⟨b, o + 2, none⟩ = some (.int .i64 m.off) ∧ w.cell? ⟨b, o + 3, none⟩ = some (.int .i64 m.len) ∧ w.cell? ⟨b, o + 4, none⟩ = some (.int .u16 m.sum) ∧ w.cell? ⟨b, o + 5, none⟩ = some (.int .i64 n)) ∧
  (0 ≤ wh ∧ wh < 256) ∧ (-9223372036854775808 ≤ n ∧ n < 9223372036854775808) ∧ Wf m
def ActsIn (w : World) (P : Option Addr) (n : Nat) : Prop := n ≤ 9223372036854775807 ∧ (n = 0 ∨ ∃ b o, P = some ⟨b, o, none⟩ ∧ ∀ i, i < n → ActIn w b (o + i * 6))
theorem d_start {w w1 w2 : World} {X Y : Nat} {r : Int} (hg1 : Gw w w1) (ht : TS w w1 [X] X r 0 []) (hy : w1.heap.size ≤ Y) (hg2 : Gw w1 w2) (hr : RTab w2 Y r 0 none 0 []) : D w w2 [] X Y r 0 [] 0 [] := by
  have hX : X < w1.heap.size := ht.2.2.1 X (by simp)
  exact ⟨[Y, X], none, 0, gw_trans hg1 hg2, ht.more hg2 hy hr.ltY, hr, by simp, by omega, by have := hg1.size; omega, fun j hj => by simp [Value.ownBlock] at hj, fun p hp => by simp at hp⟩
set_option maxRecDepth 100000 in
set_option maxHeartbeats 8000000 in
theorem rmapTells (room : Int) (P : Option Addr) (n c : Nat) (w : World) (h : ActsIn w P n) : Calls Try.prog 7 #[.int .i64 room, .slice P n c] w fun e w' => e = .returned (.bool true) ∧ Gw w w' := by
  have hnm := h.1
  have H := Lib.hid h
  clear h
  by_cases hr : 1 ≤ room ∧ room ≤ 2048
  · go_enter Try.func7, Try.ntmps7
    go_wp2_with fail
    refine (new_ (w0 := w) (H := []) (Fr.refl _ _) (by simp) room hr).mono ?_
    rintro e w1 ⟨X, rfl, hx1, hx2, hg1, ht⟩
    have HG1 := Lib.hid hg1
    have HT1 := Lib.hid ht
    clear hg1 ht
    go_wp2_with fail
    refine (rnew room hr w1).mono ?_
    rintro e w2 ⟨Y, rfl, hy, hg2, hrt⟩
    have HD := Lib.hid (d_start HG1.out HT1.out hy hg2 hrt)
    clear hg2 hrt hx1 hx2 hy HG1 HT1 hr
    go_wp2_with fail
    refine (works w2).mono ?_
    rintro e w3 ⟨rfl, hg3⟩
    have HD3 := Lib.hid (HD.out.gw hg3)
    clear hg3 HD
    go_wp2_with fail
    go_loopw [9] (fun v9 wr => ∃ i : Nat, i ≤ n ∧ i ≤ 60 ∧ v9 = .int .i64 i ∧ Hid (∃ b l k, D w wr [] X Y room b l b k ∧ l.Perm k)) (fun v9 _ => 60 - (intOf v9).toNat)
    case atStart => exact ⟨0, by omega, by omega, rfl, Lib.hid ⟨0, [], [], HD3.out, List.Perm.nil⟩⟩
    case round =>
      obtain ⟨i, hi, hi60, rfl, HI⟩ := hrel
      obtain ⟨b, l, k, hd, hp⟩ := HI.out
      have HDI := Lib.hid hd
      have HP := Lib.hid hp
      clear hd hp HI HD3
      by_cases hin : i < n
      · have z0 : (i : Int) < n := by omega
        by_cases h60 : i < 60
        · have z6 : (i : Int) < 60 := by omega
          obtain ⟨bb, o, rfl, hact⟩ := H.out.2.resolve_left (by omega)
          obtain ⟨wh, na, m, ⟨c0, c1, c2, c3, c4, c5⟩, hwh, hna, hm⟩ := hact i hin
          have c0 := cell_gw HDI.out.g c0
          have c1 := cell_gw HDI.out.g c1
          have c2 := cell_gw HDI.out.g c2
          have c3 := cell_gw HDI.out.g c3
          have c4 := cell_gw HDI.out.g c4
          have c5 := cell_gw HDI.out.g c5
          have HC := Lib.hid (alike_ HDI.out HP.out wh na m hwh hna hm)
          obtain ⟨m0, m1, m2, m3⟩ := m
          simp only at c0 c1 c2 c3 c4 c5
          clear hact hm HDI HP
          go_wp2_with fail
          refine HC.out.mono ?_
          rintro e w5 ⟨rfl, b', l', k', hd, hp⟩
          have HD5 := Lib.hid hd
          have HP5 := Lib.hid hp
          clear hd hp HC
          go_wp2_with fail
          go_roundw
          case rel => exact ⟨i + 1, by omega, by omega, by go_num, Lib.hid ⟨b', l', k', HD5.out, HP5.out⟩⟩
          case measure => simp [intOf]; omega
        · obtain rfl : i = 60 := by omega
          go_wp2_with fail
          go_ret
          exact ⟨rfl, HDI.out.g⟩
      · obtain rfl : i = n := by omega
        have b6 : decide (i < i) = false := by simp
        go_wp2_with fail
        go_ret
        exact ⟨rfl, HDI.out.g⟩
  · have hb : room < 1 ∨ 2048 < room := by omega
    clear hr
    go_enter Try.func7, Try.ntmps7
    go_wp2_with fail
    refine (newBad room hb w).mono ?_
    rintro e w1 ⟨rfl, rfl⟩
    go_wp2_with fail
    refine (rnewBad room hb w).mono ?_
    rintro e w2 ⟨rfl, rfl⟩
    clear hb
    go_wp2_with fail
    refine (works w).mono ?_
    rintro e w3 ⟨rfl, hg3⟩
    have HG := Lib.hid hg3
    clear hg3
    go_wp2_with fail
    go_loopw [9] (fun v9 wr => v9 = .int .i64 0 ∧ Hid (Gw w wr)) (fun _ _ => 0)
    case atStart => exact ⟨rfl, HG⟩
    case round =>
      obtain ⟨rfl, HI⟩ := hrel
      go_wp2_with fail
      go_ret
      exact ⟨rfl, HI.out⟩
end Go.Proofs.Ytdaodpojcjbggaa.Rm
