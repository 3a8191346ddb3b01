/- The document's answer: Many, Fits. -/
import Derived.Test.YtmjajepdlopkiaaShW
namespace Go.Proofs.Ytmjajepdlopkiaa.Sh
open Go.RowKit
set_option linter.unusedVariables false
set_option linter.unusedSimpArgs false

set_option maxRecDepth 100000 in
set_option maxHeartbeats 4000000 in
theorem ref_many {w Y A n cp isn most l} (h : RefAt w Y A n cp isn most l) (off : Int) (hoff : -9223372036854775808 ≤ off ∧ off < 9223372036854775808) : Calls Try.prog 38 #[.pointer (some ⟨Y, 0, none⟩), .int .i64 off] w fun e w' => e = .returned (.int .i64 (cnt (fun b => refHas isn most l off b) 256 : Nat)) ∧ Gw w w' := by
  have H := Lib.hid h
  clear h
  generalize hP : (fun b => refHas isn most l off b) = P
  have HP : ∀ b, Hid (refHas isn most l off b = P b) := fun b => Lib.hid (by rw [← hP])
  clear hP
  go_enter Try.func38, Try.ntmps38
  go_wp2_with fail
  go_loopw [5, 6] (fun v5 v6 wr => ∃ v : Nat, v ≤ 256 ∧ v6 = .int .i64 v ∧ v5 = .int .i64 (cnt P v : Nat) ∧ Hid (Gw w wr)) (fun _ v6 _ => 256 - (intOf v6).toNat)
  case atStart => exact ⟨0, by omega, rfl, rfl, Lib.hid (Fr.refl _ _)⟩
  case round =>
    obtain ⟨v, hv, rfl, rfl, HG⟩ := hrel
    by_cases hlt : v < 256
    · have z0 : (v : Int) < 256 := by omega
      have z1 : (v : Int) % 256 = v := by omega
      have hle := cnt_le P v
      have hsn := cnt_snoc P v
      obtain ⟨c, hc⟩ : ∃ c, cnt P v = c := ⟨_, rfl⟩
      rw [hc] at hle hsn ⊢
      have HS := Lib.hid hsn
      clear hsn hc
      obtain ⟨x, hx⟩ : ∃ x, P v = x := ⟨_, rfl⟩
      rw [hx] at HS
      have HX := Lib.hid hx
      clear hx
      go_wp2_with fail
      refine (ref_has (H.out.gw HG.out) off hoff v hlt).mono ?_
      rw [(HP v).out, HX.out]
      rintro e x1 ⟨rfl, hg⟩
      have HG1 := Lib.hid (gw_trans HG.out hg)
      clear hg HG
      cases x with
      | true =>
        go_wp2_with fail
        go_roundw
        case rel => exact ⟨v + 1, by omega, by go_num, by rw [HS.out]; rfl, HG1⟩
        case measure => simp [intOf]; omega
      | false =>
        go_wp2_with fail
        go_roundw
        case rel => exact ⟨v + 1, by omega, by go_num, by rw [HS.out]; rfl, HG1⟩
        case measure => simp [intOf]; omega
    · obtain rfl : v = 256 := by omega
      go_wp2_with fail
      go_ret
      exact ⟨rfl, HG.out⟩
/-- What the document's Has answers. -/
def RHas (Y : Nat) (P : Nat → Nat → Bool) (w : World) : Prop :=
  ∀ W, Gw w W → ∀ (off b : Nat), off < 9223372036854775808 → b < 256 → Calls Try.prog 39 #[.pointer (some ⟨Y, 0, none⟩), .int .i64 off, .int .u8 b] W fun e w' => e = .returned (.bool (P off b)) ∧ Gw W w'
set_option maxRecDepth 100000 in
set_option maxHeartbeats 4000000 in
theorem ref_fitsG {w : World} {Y : Nat} {P : Nat → Nat → Bool} (h : RHas Y P w) (r tx : ByteArray) (fell : Int) (hr : r.size ≤ 9223372036854775807) (hw : tx.size ≤ 9223372036854775807) :
    Calls Try.prog 40 #[.pointer (some ⟨Y, 0, none⟩), .string r, .string tx, .int .i64 fell] w fun e w' => e = .returned (.bool (fitsF P r.data.toList tx.data.toList fell)) ∧ Gw w w' := by
  have hl : r.data.toList.length = r.size := Array.length_toList
  have hf := cutF_le r.size fell
  obtain ⟨f, hcf⟩ : ∃ f, cutF r.size fell = f := ⟨_, rfl⟩
  have hcf2 : (fell < 0 ∧ f = r.size) ∨ (0 ≤ fell ∧ (r.size : Int) ≤ fell ∧ f = r.size) ∨ (0 ≤ fell ∧ fell < r.size ∧ fell = (f : Int)) := by rw [← hcf]; unfold cutF; split <;> omega
  rw [hcf] at hf
  have NO : Hid (∀ k, (hk : k < r.size) → f ≤ k → P k (r[k]).toNat = false → fitsF P r.data.toList tx.data.toList fell = false) := Lib.hid (fun k hk h1 h2 => fits_no (k := k) (by rw [hl]; exact hk) (by rw [hl, hcf]; exact h1) h2)
  have YES : Hid ((∀ k, (hk : k < r.size) → f ≤ k → P k (r[k]).toNat = true) → fitsF P r.data.toList tx.data.toList fell = pre (r.data.toList.take f) tx.data.toList) := Lib.hid (fun h => by
    rw [fits_yes (fun k hk h1 => h k (by rw [hl] at hk; exact hk) (by rw [hl, hcf] at h1; exact h1)), hl, hcf])
  generalize fitsF P r.data.toList tx.data.toList fell = res at *
  clear hcf hl
  have HP := Lib.hid h
  clear h
  have hsz : (r.extract 0 f).size ≤ 9223372036854775807 := by rw [ByteArray.size_extract]; omega
  obtain ⟨pb, hpb⟩ : ∃ pb, pre (r.data.toList.take f) tx.data.toList = pb := ⟨_, rfl⟩
  rw [hpb] at YES
  have HFP : Hid (∀ w, Calls Try.prog 51 #[.string (r.extract 0 f), .string tx] w fun e w' => e = .returned (.bool pb) ∧ w = w') := Lib.hid (fun w => by
    rw [← hpb, show r.data.toList.take f = (r.extract 0 f).data.toList by simp]
    exact begins (r.extract 0 f) tx hsz hw w)
  have HFP1 : Hid (f = r.size → ∀ w, Calls Try.prog 51 #[.string r, .string tx] w fun e w' => e = .returned (.bool pb) ∧ w = w') := Lib.hid (fun hfr w => by
    rw [← hpb, hfr, List.take_of_length_le (by rw [Array.length_toList]; exact Nat.le_refl _)]
    exact begins r tx hr hw w)
  clear hpb hsz
  rcases hcf2 with ⟨e1, e2⟩ | ⟨e0, e1, e2⟩ | ⟨e1, e2, e3⟩
  · subst e2
    have HQ := Lib.hid (HFP1.out rfl)
    have hres := YES.out (fun j hj h1 => absurd h1 (by omega))
    subst hres
    go_enter Try.func40, Try.ntmps40
    go_wp2_with fail
    refine (HQ.out _).mono ?_
    rintro e w' ⟨rfl, rfl⟩
    go_wp2_with fail
    go_ret
    exact ⟨rfl, Fr.refl _ _⟩
  · subst e2
    have HQ := Lib.hid (HFP1.out rfl)
    have hres := YES.out (fun j hj h1 => absurd h1 (by omega))
    subst hres
    have b1 : decide (fell < 0) = false := decide_eq_false (by omega)
    go_enter Try.func40, Try.ntmps40
    go_wp2_with fail
    refine (HQ.out _).mono ?_
    rintro e w' ⟨rfl, rfl⟩
    go_wp2_with fail
    go_ret
    exact ⟨rfl, Fr.refl _ _⟩
  · subst e3
    have b1 : ¬ ((r.size : Int) ≤ f) := by omega
    have b2 : decide (r.size ≤ f) = false := decide_eq_false (by omega)
    go_enter Try.func40, Try.ntmps40
    go_wp2_with fail
    go_loopw [9] (fun v9 wr => ∃ k : Nat, f ≤ k ∧ k ≤ r.size ∧ v9 = .int .i64 k ∧ Hid (Gw w wr ∧ ∀ j, (hj : j < r.size) → f ≤ j → j < k → P j (r[j]).toNat = true)) (fun v9 _ => r.size - (intOf v9).toNat)
    case atStart => exact ⟨f, Nat.le_refl _, by omega, rfl, Lib.hid ⟨Fr.refl _ _, fun j _ h1 h2 => absurd h2 (by omega)⟩⟩
    case round =>
      obtain ⟨k, hfk, hk, rfl, HI⟩ := hrel
      by_cases hlt : k < r.size
      · have z0 : (k : Int) < r.size := by omega
        have HC := Lib.hid (HP.out wr HI.out.1 k _ (by omega) (UInt8.toNat_lt (r[k])))
        cases hp : P k (r[k]).toNat with
        | true =>
          rw [hp] at HC
          have HPP := Lib.hid hp
          clear hp
          go_wp2_with fail
          refine HC.out.mono ?_
          rintro e w' ⟨rfl, hg⟩
          go_wp2_with fail
          go_roundw
          case rel => exact ⟨k + 1, by omega, by omega, by go_num, Lib.hid ⟨gw_trans HI.out.1 hg, fun j hj h1 h2 => by
            by_cases e : j = k
            · subst e; exact HPP.out
            · exact HI.out.2 j hj h1 (by omega)⟩⟩
          case measure => simp [intOf]; omega
        | false =>
          rw [hp] at HC
          have hres := NO.out k hlt (by omega) hp
          subst hres
          clear hp
          go_wp2_with fail
          refine HC.out.mono ?_
          rintro e w' ⟨rfl, hg⟩
          go_wp2_with fail
          go_ret
          exact ⟨rfl, gw_trans HI.out.1 hg⟩
      · obtain rfl : k = r.size := by omega
        have hres := YES.out (fun j hj h1 => HI.out.2 j hj h1 hj)
        subst hres
        have z9 : (f : Int) ≤ r.size := by omega
        go_wp2_with fail
        refine (HFP.out _).mono ?_
        rintro e w' ⟨rfl, rfl⟩
        go_wp2_with fail
        go_ret
        exact ⟨rfl, HI.out.1⟩
theorem rhas {w Y A n cp isn most l} (h : RefAt w Y A n cp isn most l) : RHas Y (fun off b => refHas isn most l off b) w := fun W hg off b ho hb => ref_has (h.gw hg) off (by omega) b hb
theorem ref_fits {w Y A n cp isn most l} (h : RefAt w Y A n cp isn most l) (r tx : ByteArray) (fell : Int) (hr : r.size ≤ 9223372036854775807) (hw : tx.size ≤ 9223372036854775807) :
    Calls Try.prog 40 #[.pointer (some ⟨Y, 0, none⟩), .string r, .string tx, .int .i64 fell] w fun e w' => e = .returned (.bool (fitsF (fun off b => refHas isn most l off b) r.data.toList tx.data.toList fell)) ∧ Gw w w' := ref_fitsG (rhas h) r tx fell hr hw
end Go.Proofs.Ytmjajepdlopkiaa.Sh
