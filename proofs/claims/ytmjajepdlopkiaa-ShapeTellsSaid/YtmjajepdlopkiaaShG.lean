/- HasPrefix; Fits. -/
import Derived.Test.YtmjajepdlopkiaaShF
namespace Go.Proofs.Ytmjajepdlopkiaa.Sh
open Go.RowKit
set_option linter.unusedVariables false
set_option linter.unusedSimpArgs false

/-- Is p a beginning of s? -/
def pre (p s : List UInt8) : Bool := decide (p.length ≤ s.length) && (s.take p.length == p)
theorem prefix53 (s p : ByteArray) (hs : s.size ≤ 9223372036854775807) (hp : p.size ≤ 9223372036854775807) (w : World) :
    Calls Try.prog 53 #[.string s, .string p] w fun e w' => e = .returned (.bool (pre p.data.toList s.data.toList)) ∧ w = w' := by
  have hl : s.data.toList.length = s.size := Array.length_toList
  have hl2 : p.data.toList.length = p.size := Array.length_toList
  by_cases h : p.size ≤ s.size
  · have hk : (s.extract 0 p.size).toList = s.data.toList.take p.size := by
      rw [ByteArray.toList_eq]; simp
    have hh : pre p.data.toList s.data.toList = ((s.extract 0 p.size).toList == p.toList) := by
      unfold pre
      rw [hl2, hl, decide_eq_true h, Bool.true_and, hk, ByteArray.toList_eq]
    rw [hh]
    have z1 : (p.size : Int) ≤ s.size := by omega
    clear hl hl2 hk hh
    go_enter Try.func53, Try.ntmps53
    go_wp2
    go_ret
    exact ⟨rfl, rfl⟩
  · have hh : pre p.data.toList s.data.toList = false := by
      unfold pre
      rw [hl2, hl, decide_eq_false h]; rfl
    rw [hh]
    have z1 : ¬ (p.size : Int) ≤ s.size := by omega
    have z2 : decide ((p.size : Int) ≤ s.size) = false := decide_eq_false z1
    clear hl hl2 hh
    go_enter Try.func53, Try.ntmps53
    go_wp2
    go_ret
    exact ⟨rfl, rfl⟩
theorem hasPrefix (s p : ByteArray) (hs : s.size ≤ 9223372036854775807) (hp : p.size ≤ 9223372036854775807) (w : World) :
    Calls Try.prog 50 #[.string s, .string p] w fun e w' => e = .returned (.bool (pre p.data.toList s.data.toList)) ∧ w = w' := by
  generalize hb : pre p.data.toList s.data.toList = b
  have HB := Lib.hid hb
  clear hb
  go_enter Try.func50, Try.ntmps50
  go_wp2_with (go_at_call 53; refine (prefix53 s p hs hp _).mono ?_; rw [HB.out]; rintro e w' ⟨rfl, rfl⟩)
  go_ret
  exact ⟨rfl, rfl⟩

/-- What Has answers of a receiver. -/
def HasIs (p : Option Addr) (P : Nat → Nat → Bool) (w : World) : Prop :=
  ∀ W, Gw w W → ∀ (off b : Nat), b < 256 → Calls Try.prog 34 #[.pointer p, .int .i64 off, .int .u8 b] W fun e w' => e = .returned (.bool (P off b)) ∧ Gw W w'
theorem hasIs {w X g cp isn n C} (h : CameAt w X g cp isn n C) : HasIs (some ⟨X, 0, none⟩) (fun off b => row n C off b) w := fun W hg off b hb => has_ (h.gw hg) off b hb
theorem hasIsNil (w : World) : HasIs none (fun _ _ => false) w := fun W hg off b hb => hasNil off b hb W
set_option maxRecDepth 100000 in
set_option maxHeartbeats 2000000 in
theorem cl49 {w : World} {p : Option Addr} {P : Nat → Nat → Bool} (h : HasIs p P w) (W : World) (hg : Gw w W) (bc br : Nat) (r : ByteArray) (k : Nat) (hk : k < r.size) (hr : r.size ≤ 9223372036854775807)
    (h1 : W.cell? ⟨bc, 0, none⟩ = some (.pointer p)) (h2 : W.cell? ⟨br, 0, none⟩ = some (.string r)) :
    Calls Try.prog 49 #[.int .i64 k, .pointer (some ⟨bc, 0, none⟩), .pointer (some ⟨br, 0, none⟩)] W fun e w' => e = .returned (.bool (!P k (r[k]).toNat)) ∧ Gw W w' := by
  have HP : Hid (Calls Try.prog 34 #[.pointer p, .int .i64 k, .int .u8 (r[k]).toNat] W.drew fun e w' => e = .returned (.bool (P k (r[k]).toNat)) ∧ Gw W.drew w') := Lib.hid (h W.drew hg.drew k _ (UInt8.toNat_lt _))
  clear h
  have z : (k : Int) < r.size := by omega
  generalize hb : P k (r[k]).toNat = b at *
  clear hb
  have HG := Lib.hid hg
  clear hg
  go_enter Try.func49, Try.ntmps49
  go_wp2_with fail
  go_region_with ((go_at_call 34; refine HP.out.mono ?_; rintro e w' ⟨rfl, hg⟩))
  all_goals
    go_wp2_with fail
    go_ret
    exact ⟨rfl, gw_undrew hg⟩

/-- Where an end fell back, if it did. -/
def cutF (n : Nat) (fell : Int) : Nat := if fell < 0 ∨ (n : Int) < fell then n else fell.toNat
theorem cutF_le (n : Nat) (fell : Int) : cutF n fell ≤ n := by unfold cutF; split <;> omega
/-- Does what was read fit? -/
def fitsF (P : Nat → Nat → Bool) (r wr : List UInt8) (fell : Int) : Bool :=
  (List.range r.length).all (fun k => decide (k < cutF r.length fell) || P k (r.getD k 0).toNat) && pre (r.take (cutF r.length fell)) wr
theorem fits_no {P : Nat → Nat → Bool} {r wr : List UInt8} {fell : Int} {k : Nat} (hk : k < r.length) (h1 : cutF r.length fell ≤ k) (h2 : P k (r[k]).toNat = false) : fitsF P r wr fell = false := by
  unfold fitsF
  rw [Bool.and_eq_false_iff]
  left
  rw [List.all_eq_false]
  refine ⟨k, List.mem_range.2 hk, ?_⟩
  rw [List.getD_eq_getElem?_getD, List.getElem?_eq_getElem hk, Option.getD_some, h2, decide_eq_false (by omega)]; simp
theorem fits_yes {P : Nat → Nat → Bool} {r wr : List UInt8} {fell : Int} (h : ∀ k, (hk : k < r.length) → cutF r.length fell ≤ k → P k (r[k]).toNat = true) : fitsF P r wr fell = pre (r.take (cutF r.length fell)) wr := by
  unfold fitsF
  rw [List.all_eq_true.2, Bool.true_and]
  intro k hk
  have hk := List.mem_range.1 hk
  rw [List.getD_eq_getElem?_getD, List.getElem?_eq_getElem hk, Option.getD_some]
  by_cases e : k < cutF r.length fell
  · rw [decide_eq_true e]; simp
  · rw [h k hk (by omega)]; simp
set_option maxRecDepth 100000 in
set_option maxHeartbeats 4000000 in
theorem fitsG {w : World} {p : Option Addr} {P : Nat → Nat → Bool} (h : HasIs p P w) (r tx : ByteArray) (fell : Int) (hr : r.size ≤ 9223372036854775807) (hw : tx.size ≤ 9223372036854775807) :
    Calls Try.prog 35 #[.pointer p, .string r, .string tx, .int .i64 fell] w fun e w' => e = .returned (.bool (fitsF P r.data.toList tx.data.toList fell)) ∧ Gw w w' := by
  obtain ⟨W, hW⟩ : ∃ W, (w.alloc (.cells #[.pointer p] 43)).alloc (.cells #[.string r] 9) = W := ⟨_, rfl⟩
  have hg : Gw w W := by rw [← hW]; exact gw_trans (gw_alloc1 _ _) (gw_alloc1 _ _)
  have b1 : W.cell? ⟨w.heap.size, 0, none⟩ = some (.pointer p) := by rw [← hW]; exact cell_alloc_old _ (cell_new_at rfl)
  have b2 : W.cell? ⟨w.heap.size + 1, 0, none⟩ = some (.string r) := by rw [← hW]; exact cell_new_at (World.size_alloc _ _)
  have hl : r.data.toList.length = r.size := Array.length_toList
  have hf := cutF_le r.size fell
  have HCL : Hid (∀ W', Gw W W' → ∀ k, (hk : k < r.size) → Calls Try.prog 49 #[.int .i64 k, .pointer (some ⟨w.heap.size, 0, none⟩), .pointer (some ⟨w.heap.size + 1, 0, none⟩)] W' fun e w' => e = .returned (.bool (!P k (r[k]).toNat)) ∧ Gw W' w') :=
    Lib.hid (fun W' hg' k hk => cl49 h W' (gw_trans hg hg') _ _ r k hk hr (cell_gw hg' b1) (cell_gw hg' b2))
  have HG := Lib.hid hg
  have HWW := Lib.hid hW
  have HB2 := Lib.hid b2
  have HB1 := Lib.hid b1
  clear h hg hW b1
  obtain ⟨f, hcf⟩ : ∃ f, cutF r.size fell = f := ⟨_, rfl⟩
  have hcf2 : (fell < 0 ∧ f = r.size) ∨ ((r.size : Int) < fell ∧ f = r.size) ∨ (0 ≤ fell ∧ fell ≤ r.size ∧ fell = (f : Int)) := by rw [← hcf]; unfold cutF; split <;> omega
  rw [hcf] at hf
  have NO : Hid (∀ k, (hk : k < r.size) → f ≤ k → P k (r[k]).toNat = false → fitsF P r.data.toList tx.data.toList fell = false) := Lib.hid (fun k hk h1 h2 => fits_no (k := k) (by rw [hl]; exact hk) (by rw [hl, hcf]; exact h1) h2)
  have YES : Hid ((∀ k, (hk : k < r.size) → f ≤ k → P k (r[k]).toNat = true) → fitsF P r.data.toList tx.data.toList fell = pre (r.data.toList.take f) tx.data.toList) := Lib.hid (fun h => by
    rw [fits_yes (fun k hk h1 => h k (by rw [hl] at hk; exact hk) (by rw [hl, hcf] at h1; exact h1)), hl, hcf])
  generalize fitsF P r.data.toList tx.data.toList fell = res at *
  clear hcf hl
  have hsz : (r.extract 0 f).size ≤ 9223372036854775807 := by rw [ByteArray.size_extract]; omega
  obtain ⟨pb, hpb⟩ : ∃ pb, pre (r.data.toList.take f) tx.data.toList = pb := ⟨_, rfl⟩
  rw [hpb] at YES
  have HFP : Hid (∀ w, Calls Try.prog 50 #[.string tx, .string (r.extract 0 f)] w fun e w' => e = .returned (.bool pb) ∧ w = w') := Lib.hid (fun w => by
    rw [← hpb, show r.data.toList.take f = (r.extract 0 f).data.toList by simp]
    exact hasPrefix tx (r.extract 0 f) hw hsz w)
  have HFP1 : Hid (f = r.size → ∀ w, Calls Try.prog 50 #[.string tx, .string r] w fun e w' => e = .returned (.bool pb) ∧ w = w') := Lib.hid (fun hfr w => by
    rw [← hpb, hfr, List.take_of_length_le (by rw [Array.length_toList]; exact Nat.le_refl _)]
    exact hasPrefix tx r hw hr w)
  clear hpb
  have z9 : ¬ (r.size : Int) < f := by omega
  go_enter Try.func35, Try.ntmps35
  rcases hcf2 with ⟨e1, e2⟩ | ⟨e1, e2⟩ | ⟨e1, e2, e3⟩
  · subst e2
    have HQ := Lib.hid (HFP1.out rfl)
    go_wp2_with fail
    rw [HWW.out]
    go_loopw [10] (fun v10 wr => ∃ k : Nat, r.size ≤ k ∧ k ≤ r.size ∧ v10 = .int .i64 k ∧ Hid (Gw W wr ∧ ∀ j, (hj : j < r.size) → r.size ≤ j → j < k → P j (r[j]).toNat = true)) (fun v10 _ => r.size - (intOf v10).toNat)
    case atStart => exact ⟨r.size, Nat.le_refl _, by omega, rfl, Lib.hid ⟨Fr.refl _ _, fun j _ h1 h2 => absurd h2 (by omega)⟩⟩
    case round =>
      obtain ⟨k, hfk, hk, rfl, HI⟩ := hrel
      have b2 := cell_gw HI.out.1 HB2.out
      by_cases hlt : k < r.size
      · have z0 : (k : Int) < r.size := by omega
        have HC := HCL.out wr HI.out.1 k hlt
        cases hp : P k (r[k]).toNat with
        | true =>
          rw [hp] at HC
          have HP := Lib.hid hp
          clear hp
          go_wp2_with (go_at_call 49; refine HC.mono ?_; rintro e w' ⟨rfl, hg⟩)
          go_roundw
          case rel => exact ⟨k + 1, by omega, by omega, by go_num, Lib.hid ⟨gw_trans HI.out.1 hg, fun j hj h1 h2 => by
            by_cases e : j = k
            · subst e; exact HP.out
            · exact HI.out.2 j hj h1 (by omega)⟩⟩
          case measure => simp [intOf]; omega
        | false =>
          rw [hp] at HC
          have hres := NO.out k hlt (by omega) hp
          subst hres
          clear hp
          go_wp2_with (go_at_call 49; refine HC.mono ?_; rintro e w' ⟨rfl, hg⟩)
          go_ret
          exact ⟨rfl, gw_trans HG.out (gw_trans HI.out.1 hg)⟩
      · obtain rfl : k = r.size := by omega
        have hres := YES.out (fun j hj h1 => HI.out.2 j hj h1 hj)
        subst hres
        go_wp2_with (go_at_call 50; refine (HQ.out _).mono ?_; rintro e w' ⟨rfl, rfl⟩)
        go_ret
        exact ⟨rfl, gw_trans HG.out HI.out.1⟩
  · subst e2
    have e0 : ¬ fell < 0 := by omega
    have e5 : decide (fell < 0) = false := decide_eq_false e0
    have HQ := Lib.hid (HFP1.out rfl)
    go_wp2_with fail
    rw [HWW.out]
    go_loopw [10] (fun v10 wr => ∃ k : Nat, r.size ≤ k ∧ k ≤ r.size ∧ v10 = .int .i64 k ∧ Hid (Gw W wr ∧ ∀ j, (hj : j < r.size) → r.size ≤ j → j < k → P j (r[j]).toNat = true)) (fun v10 _ => r.size - (intOf v10).toNat)
    case atStart => exact ⟨r.size, Nat.le_refl _, by omega, rfl, Lib.hid ⟨Fr.refl _ _, fun j _ h1 h2 => absurd h2 (by omega)⟩⟩
    case round =>
      obtain ⟨k, hfk, hk, rfl, HI⟩ := hrel
      have b2 := cell_gw HI.out.1 HB2.out
      by_cases hlt : k < r.size
      · have z0 : (k : Int) < r.size := by omega
        have HC := HCL.out wr HI.out.1 k hlt
        cases hp : P k (r[k]).toNat with
        | true =>
          rw [hp] at HC
          have HP := Lib.hid hp
          clear hp
          go_wp2_with (go_at_call 49; refine HC.mono ?_; rintro e w' ⟨rfl, hg⟩)
          go_roundw
          case rel => exact ⟨k + 1, by omega, by omega, by go_num, Lib.hid ⟨gw_trans HI.out.1 hg, fun j hj h1 h2 => by
            by_cases e : j = k
            · subst e; exact HP.out
            · exact HI.out.2 j hj h1 (by omega)⟩⟩
          case measure => simp [intOf]; omega
        | false =>
          rw [hp] at HC
          have hres := NO.out k hlt (by omega) hp
          subst hres
          clear hp
          go_wp2_with (go_at_call 49; refine HC.mono ?_; rintro e w' ⟨rfl, hg⟩)
          go_ret
          exact ⟨rfl, gw_trans HG.out (gw_trans HI.out.1 hg)⟩
      · obtain rfl : k = r.size := by omega
        have hres := YES.out (fun j hj h1 => HI.out.2 j hj h1 hj)
        subst hres
        go_wp2_with (go_at_call 50; refine (HQ.out _).mono ?_; rintro e w' ⟨rfl, rfl⟩)
        go_ret
        exact ⟨rfl, gw_trans HG.out HI.out.1⟩
  · subst e3
    go_wp2_with fail
    rw [HWW.out]
    go_loopw [10] (fun v10 wr => ∃ k : Nat, f ≤ k ∧ k ≤ r.size ∧ v10 = .int .i64 k ∧ Hid (Gw W wr ∧ ∀ j, (hj : j < r.size) → f ≤ j → j < k → P j (r[j]).toNat = true)) (fun v10 _ => r.size - (intOf v10).toNat)
    case atStart => exact ⟨f, Nat.le_refl _, by omega, rfl, Lib.hid ⟨Fr.refl _ _, fun j _ h1 h2 => absurd h2 (by omega)⟩⟩
    case round =>
      obtain ⟨k, hfk, hk, rfl, HI⟩ := hrel
      have b2 := cell_gw HI.out.1 HB2.out
      by_cases hlt : k < r.size
      · have z0 : (k : Int) < r.size := by omega
        have HC := HCL.out wr HI.out.1 k hlt
        cases hp : P k (r[k]).toNat with
        | true =>
          rw [hp] at HC
          have HP := Lib.hid hp
          clear hp
          go_wp2_with (go_at_call 49; refine HC.mono ?_; rintro e w' ⟨rfl, hg⟩)
          go_roundw
          case rel => exact ⟨k + 1, by omega, by omega, by go_num, Lib.hid ⟨gw_trans HI.out.1 hg, fun j hj h1 h2 => by
            by_cases e : j = k
            · subst e; exact HP.out
            · exact HI.out.2 j hj h1 (by omega)⟩⟩
          case measure => simp [intOf]; omega
        | false =>
          rw [hp] at HC
          have hres := NO.out k hlt (by omega) hp
          subst hres
          clear hp
          go_wp2_with (go_at_call 49; refine HC.mono ?_; rintro e w' ⟨rfl, hg⟩)
          go_ret
          exact ⟨rfl, gw_trans HG.out (gw_trans HI.out.1 hg)⟩
      · obtain rfl : k = r.size := by omega
        have hres := YES.out (fun j hj h1 => HI.out.2 j hj h1 hj)
        subst hres
        go_wp2_with (go_at_call 50; refine (HFP.out _).mono ?_; rintro e w' ⟨rfl, rfl⟩)
        go_ret
        exact ⟨rfl, gw_trans HG.out HI.out.1⟩
/-- Fits, of what came; and of none. -/
theorem fits_ {w X g cp isn n C} (h : CameAt w X g cp isn n C) (r tx : ByteArray) (fell : Int) (hr : r.size ≤ 9223372036854775807) (hw : tx.size ≤ 9223372036854775807) :
    Calls Try.prog 35 #[.pointer (some ⟨X, 0, none⟩), .string r, .string tx, .int .i64 fell] w fun e w' => e = .returned (.bool (fitsF (fun off b => row n C off b) r.data.toList tx.data.toList fell)) ∧ Gw w w' := fitsG (hasIs h) r tx fell hr hw
theorem fitsNil (w : World) (r tx : ByteArray) (fell : Int) (hr : r.size ≤ 9223372036854775807) (hw : tx.size ≤ 9223372036854775807) :
    Calls Try.prog 35 #[.pointer none, .string r, .string tx, .int .i64 fell] w fun e w' => e = .returned (.bool (fitsF (fun _ _ => false) r.data.toList tx.data.toList fell)) ∧ Gw w w' := fitsG (hasIsNil w) r tx fell hr hw
end Go.Proofs.Ytmjajepdlopkiaa.Sh
