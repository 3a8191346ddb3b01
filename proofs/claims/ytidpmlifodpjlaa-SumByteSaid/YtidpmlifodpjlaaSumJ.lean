/- The walk of SumByte. -/
import Derived.Test.YtidpmlifodpjlaaSumI
namespace Go.Proofs.Ytidpmlifodpjlaa.Sm
open Go.RowKit
set_option linter.unusedVariables false
attribute [local go_sem] Gw.refl gw_drew_iff Gw.alloc gw_alloc1 gw_alloc2 gw_alloc2d gw_alloc1d

set_option maxRecDepth 100000 in
set_option maxHeartbeats 4000000 in
theorem sumByte (text : ByteArray) (at_ by_ : Int) (ha : 0 ≤ at_ ∧ at_ ≤ 65535) (hb : 0 ≤ by_ ∧ by_ < 256) (hs : text.size ≤ 9223372036854775807) (w : World) :
    Calls Try.prog 5 #[.string text, .int .u16 at_, .int .u8 by_] w fun e w' => e = .returned (.bool true) ∧ Gw w w' := by
  have hcases : ∃ t : ByteArray, t.size ≤ 300 ∧ ((300 < (text.size : Int) ∧ text.extract 0 300 = t) ∨ (¬ 300 < (text.size : Int) ∧ t = text)) := by
    by_cases h : 300 < (text.size : Int)
    · exact ⟨_, by rw [ByteArray.size_extract]; omega, .inl ⟨h, rfl⟩⟩
    · exact ⟨_, by omega, .inr ⟨h, rfl⟩⟩
  obtain ⟨t, ht, hc⟩ := hcases
  have hmix : Try.prog.follows .mixedOrders = true := by kernel_rfl
  rcases hc with ⟨hl, he⟩ | ⟨hl, rfl⟩
  all_goals
    by_cases hz : t.size = 0
    · have hzb : ((t.size : Int) == 0) = true := by simp [hz]
      have h0 : Hid (Sm t.data.toList = 0) := Lib.hid (by
        have : t.data.toList.length = 0 := by simpa using hz
        rw [List.eq_nil_of_length_eq_zero this]; decide)
      clear hz
      go_enter Try.func5, Try.ntmps5
      go_wp2_with (first | (go_at_call 18; refine (works _).mono ?_; rintro e w1 ⟨rfl, hg1⟩) | (go_at_call 16; (refine (of1n _ _ _ ?_).mono ?_; · omega); rintro e w' ⟨rfl, hb⟩))
      go_ret
      exact ⟨by show Ending.returned (.bool (Sm t.data.toList == 0)) = _; rw [h0.out]; rfl, by (repeat (first | with_reducible exact Gw.refl _ | with_reducible assumption | with_reducible refine Gw.alloc ?_ _ | with_reducible refine Gw.drew ?_ | with_reducible refine Gw.trans ?_ (by with_reducible assumption)))⟩
    · have hzb : ((t.size : Int) == 0) = false := by simp [hz]
      go_enter Try.func5, Try.ntmps5
      go_wp2_with (go_at_call 18; refine (works _).mono ?_; rintro e w1 ⟨rfl, hg1⟩)
      rw [run_bytes_of_string w1 9 38 5 t Try.underlying9 Try.underlying38 Try.underlying5]
      have hbuf := buf_new w1 t (grownCap w1 t.size 0 5)
      have hg2 : Gw w1 (w1.drew.alloc (.cells (bytesRow t (grownCap w1 t.size 0 5)) 5 ((bytesRow t (grownCap w1 t.size 0 5)).size, (bytesRow t (grownCap w1 t.size 0 5)).size + 1))) := ((Gw.refl w1).drew).alloc _
      obtain ⟨B, hB⟩ : ∃ B, w1.heap.size = B := ⟨_, rfl⟩
      have hBw : Below B w1 (w1.drew.alloc (.cells (bytesRow t (grownCap w1 t.size 0 5)) 5 ((bytesRow t (grownCap w1 t.size 0 5)).size, (bytesRow t (grownCap w1 t.size 0 5)).size + 1))) := by rw [← hB]; exact hg2
      rw [hB] at hbuf ⊢
      generalize w1.drew.alloc (.cells (bytesRow t (grownCap w1 t.size 0 5)) 5 ((bytesRow t (grownCap w1 t.size 0 5)).size, (bytesRow t (grownCap w1 t.size 0 5)).size + 1)) = w2 at *
      generalize grownCap w1 t.size 0 5 = cp
      have hk0 := Int.emod_nonneg at_ (b := (t.size : Int)) (by omega)
      have hk1 := Int.emod_lt_of_pos at_ (b := (t.size : Int)) (by omega)
      obtain ⟨k, hk⟩ : ∃ k : Nat, at_ % (t.size : Int) = k := ⟨(at_ % (t.size : Int)).toNat, by omega⟩
      rw [hk] at hk0 hk1
      have hk2 : k < t.size := by omega
      have hkl : k < t.data.toList.length := by simpa using hk2
      obtain ⟨c, hx, hne⟩ := xor_byte t.data.toList[k] (1 + by_ % 255) (by omega) (by omega)
      have hsm := sm_ne t.data.toList k hkl c hne (by simp; show t.size ≤ _; omega)
      have hc2 := (hbuf.2 k hkl).1
      have hf2 := (hbuf.2 k hkl).2
      generalize (t.data.toList[k].toNat : Int) = x at *
      have HBUF := Lib.hid hbuf
      have HB := Lib.hid hB
      have HSM := Lib.hid hsm
      clear hbuf hB hne hsm
      go_wp2_with fail
      have hbuf := HBUF.out.set hkl c
      have hg3 : Gw w1 (w2.setCell ⟨B, k, none⟩ (.int .u8 (c.toNat : Int))) := by
        unfold Gw; rw [HB.out]; exact hBw.setCell (p := ⟨B, k, none⟩) (Nat.le_refl _) _
      generalize w2.setCell ⟨B, k, none⟩ (.int .u8 (c.toNat : Int)) = w3 at *
      have HG3 := Lib.hid hg3
      have hcv : ∀ W, Gw w3 W → (convert 38 9 (.slice (some ⟨B, 0, none⟩) t.size cp)).run Try.prog W = .ok (.string ⟨(t.data.toList.set k c).toArray⟩) W := fun W h => buf_str (hbuf.gw h) (by simp) cp
      have hsz : (⟨(t.data.toList.set k c).toArray⟩ : ByteArray).size ≤ 300 := by show Array.size _ ≤ _; simp; exact ht
      have HSM2 := HSM
      rw [show t.data.toList.set k c = (⟨(t.data.toList.set k c).toArray⟩ : ByteArray).data.toList by simp] at HSM2
      generalize (⟨(t.data.toList.set k c).toArray⟩ : ByteArray) = s2 at *
      clear HBUF HB HSM hg3 hbuf hBw hg2 hf2 hc2 hkl
      first | (go_region_with (first
        | (go_at_call 16; ((refine (of1 _ _ t _ ?_ ?_).mono ?_; (· ((repeat (first | (with_reducible refine cell_new_at ?_; first | with_reducible rfl | (simp; done)) | with_reducible refine cell_alloc_l _ ?_ | with_reducible refine cell_drew ?_ | with_reducible refine cell_gw (by with_reducible assumption) ?_)); done)); (· omega)); rintro e w' ⟨rfl, hb⟩; have hgx := Gw.trans (show Gw w3 _ by (repeat (first | with_reducible exact Gw.refl _ | with_reducible assumption | with_reducible refine Gw.alloc ?_ _ | with_reducible refine Gw.drew ?_ | with_reducible refine Gw.trans ?_ (by with_reducible assumption)))) hb; have hb2 := hb; clear hb))
        | (go_at_call 16; (refine (of1 _ _ s2 _ ?_ ?_).mono ?_; (· ((repeat (first | (with_reducible refine cell_new_at ?_; first | with_reducible rfl | (simp; done)) | with_reducible refine cell_alloc_l _ ?_ | with_reducible refine cell_drew ?_ | with_reducible refine cell_gw (by with_reducible assumption) ?_)); done)); (· omega)); rintro e w' ⟨rfl, hb⟩; have hgx := Gw.trans (show Gw w3 _ by (repeat (first | with_reducible exact Gw.refl _ | with_reducible assumption | with_reducible refine Gw.alloc ?_ _ | with_reducible refine Gw.drew ?_ | with_reducible refine Gw.trans ?_ (by with_reducible assumption)))) hb; have hb2 := hb; clear hb)
        | (go_at_call 21; refine (same _ _ _ (Sm_range _) (Sm_range _)).mono ?_; rintro e w' ⟨rfl, rfl⟩)))
      all_goals
        go_wp2
        go_ret
        refine ⟨?_, by have := HG3.out; clear HG3; (repeat (first | with_reducible exact Gw.refl _ | with_reducible assumption | with_reducible refine Gw.alloc ?_ _ | with_reducible refine Gw.drew ?_ | with_reducible refine Gw.trans ?_ (by with_reducible assumption)))⟩
        show Ending.returned (.bool (!(Sm t.data.toList % 65535 == Sm s2.data.toList % 65535))) = _
        rw [HSM2.out]; rfl
end Go.Proofs.Ytidpmlifodpjlaa.Sm
