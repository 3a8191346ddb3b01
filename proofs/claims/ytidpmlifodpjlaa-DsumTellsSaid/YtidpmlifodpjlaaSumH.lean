/- The walk of SumTells. -/
import Derived.Test.YtidpmlifodpjlaaSumG
namespace Go.Proofs.Ytidpmlifodpjlaa.Sm
open Go.RowKit Go.Proofs.YtidpmlifodpjlaaW.PrintWords Go.Proofs.YtidpmlifodpjlaaW.PrintLast Go.Proofs.YtidpmlifodpjlaaW.PrintMore
open Go.Proofs.Ytidpmlifodpjlaa.PSumTells
set_option linter.unusedVariables false

/-- A row of strings that is read, in the printed words' form. -/
theorem strs_of_C {w : World} {A : Option Addr} {n : Nat} {ss : List ByteArray} (h : Kd.C Kd.string w A n ss) (hs : ∀ s ∈ ss, s.size ≤ 9223372036854775807) : Strs w A n ss := by
  refine ⟨h.1, h.2.1, hs, ?_⟩
  rcases Nat.eq_zero_or_pos n with h0 | h0
  · left; exact List.eq_nil_of_length_eq_zero (h.1.trans h0)
  · right
    obtain ⟨ad, rfl, hc⟩ := h.2.2 h0
    have hl : 0 < ss.length := by rw [h.1]; exact h0
    obtain ⟨b, off, spot⟩ := ad
    have hspot : spot = none := by
      obtain ⟨c, hcl, hr, hcell⟩ := hc 0 _ (List.getElem?_eq_getElem hl)
      have hc1 : c = [.string ss[0]] := hr
      have := hcell 0 (.string ss[0]) (by rw [hc1]; rfl)
      simpa [Addr.add] using World.cell?_spot this
    subst hspot
    refine ⟨b, off, rfl, fun i hi => ?_⟩
    obtain ⟨c, hcl, hr, hcell⟩ := hc i _ (List.getElem?_eq_getElem hi)
    have hc1 : c = [.string ss[i]] := hr
    have := hcell 0 (.string ss[i]) (by rw [hc1]; rfl)
    have e : (⟨b, off, none⟩ : Addr).add (i * Kd.string.sz + 0) = ⟨b, off + i, none⟩ := by
      show Addr.add _ (i * 1 + 0) = _
      unfold Addr.add; split
      · rename_i h; (simp at h ⊢) <;> omega
      · simp
    rwa [e] at this
theorem C_of_strs {w : World} {A : Option Addr} {n : Nat} {ss : List ByteArray} (h : Strs w A n ss) : Kd.C Kd.string w A n ss := by
  refine ⟨h.1, h.2.1, fun h0 => ?_⟩
  obtain ⟨b, off, rfl, hc⟩ := h.2.2.2.resolve_left (fun e => by have := h.1; rw [e] at this; simp at this; omega)
  refine ⟨_, rfl, fun j p hj => ⟨[.string p], rfl, rfl, fun i u hu => ?_⟩⟩
  obtain ⟨hj1, hj2⟩ := List.getElem?_eq_some_iff.1 hj
  have hi : i = 0 := by
    cases i with
    | zero => rfl
    | succ i => simp at hu
  subst hi
  have : u = .string p := by simpa using hu.symm
  subst this
  have e : (⟨b, off, none⟩ : Addr).add (j * Kd.string.sz + 0) = ⟨b, off + j, none⟩ := by
    show Addr.add _ (j * 1 + 0) = _
    unfold Addr.add; split
    · rename_i h; (simp at h ⊢) <;> omega
    · simp
  rw [e, hc j hj1, hj2]

theorem cutp_size (l : List ByteArray) : ∀ s ∈ cutp l, s.size ≤ 200 := by
  intro s hs
  obtain ⟨t, _, rfl⟩ := List.mem_map.1 hs
  exact c200_size t

theorem cut_calls (A : Option Addr) (n c : Nat) (ss : List ByteArray) (w : World) (h : Strs w A n ss) (hc : n ≤ c) :
    Calls Try.prog 13 #[.slice A n c] w fun e w' => (∃ A' c', e = .returned (.slice A' (cutp ss).length c') ∧ (cutp ss).length ≤ c' ∧ Strs w' A' (cutp ss).length (cutp ss)) ∧ Gw w w' := by
  have hn := h.1
  subst hn
  refine (plaitlaw03_cut.calls 21 A c ss (cutp ss) w (C_of_strs h) hc (cut_f ss)).mono ?_
  rintro e w' ⟨v, rfl, hr, hb⟩
  obtain ⟨A', c', rfl, hl, hC⟩ := Kd.R_reads hr
  exact ⟨⟨A', c', rfl, hl, strs_of_C hC (fun s hs => by have := cutp_size ss s hs; omega)⟩, hb⟩
theorem all_calls (A : Option Addr) (n c : Nat) (ss : List ByteArray) (w : World) (h : Strs w A n ss) (hc : n ≤ c) (hs : ∀ s ∈ ss, s.size ≤ 1000) (hl : ss.length ≤ 1000) :
    Calls Try.prog 15 #[.slice A n c] w fun e w' => e = .returned (.string (cat ss)) ∧ Gw w w' := by
  have hn := h.1
  subst hn
  refine (plaitref03_All.calls (ss.length + 1) A c ss (cat ss) w (C_of_strs h) hc (all_f ss hs hl)).mono ?_
  rintro e w' ⟨rfl, ⟨nd, rfl⟩⟩
  exact ⟨rfl, (Gw.refl w).drewN _⟩
theorem rof_calls (s : ByteArray) (w : World) (hz : s.size ≤ 8000000000000000000) :
    Calls Try.prog 14 #[.string s] w fun e w' => e = .returned (.int .u16 (Sm s.data.toList)) ∧ Gw w w' := by
  obtain ⟨k, hk⟩ := of_f s hz
  refine (plaitref03_Of.calls k s _ w hk).mono ?_
  rintro e w' ⟨rfl, ⟨nd, rfl⟩⟩
  exact ⟨rfl, (Gw.refl w).drewN _⟩
theorem bytesOf_size (l : List ByteArray) (m : Nat) (h : ∀ s ∈ l, s.size ≤ m) : (bytesOf l).length ≤ m * l.length := by
  induction l with
  | nil => simp [bytesOf]
  | cons s r ih =>
    have := ih (fun s hs => h s (by simp [hs]))
    have h1 := h s (by simp)
    have e : bytesOf (s :: r) = s.data.toList ++ bytesOf r := by simp [bytesOf]
    rw [e, List.length_append, List.length_cons, Nat.mul_succ]
    have e2 : s.data.toList.length = s.size := by simp
    omega

set_option maxHeartbeats 2000000 in
theorem sumTells (A : Option Addr) (n c : Nat) (ss : List ByteArray) (w : World) (h : Strs w A n ss) (hc : n ≤ c) :
    Calls Try.prog 3 #[.slice A n c] w fun e w' => e = .returned (.bool true) ∧ Gw w w' := by
  have H := Lib.hid (cut_calls A n c ss w h hc)
  clear h
  go_enter Try.func3, Try.ntmps3
  go_wp2_with fail
  refine H.out.mono ?_
  rintro e w1 ⟨⟨A', c', rfl, hl1, hs1⟩, hg1⟩
  have hz := cutp_size ss
  have hlen : (cutp ss).length ≤ 20 := by unfold cutp; simp; omega
  have H2 := Lib.hid (all_calls A' _ c' _ w1 hs1 hl1 (fun s hs => by have := hz s hs; omega) (by omega))
  have H3 := Lib.hid hs1
  have hcat : (cat (cutp ss)).size ≤ 8000000000000000000 := by
    have := bytesOf_size (cutp ss) 200 hz
    have e : (cat (cutp ss)).size = (bytesOf (cutp ss)).length := by simp [cat, ByteArray.size]
    rw [e]; omega
  clear hs1
  generalize cutp ss = cs at *
  go_wp2_with fail
  refine H2.out.mono ?_
  rintro e w2 ⟨rfl, hg2⟩
  go_wp2_with fail
  refine (rof_calls _ _ hcat).mono ?_
  rintro e w3 ⟨rfl, hg3⟩
  have ec : (cat cs).data.toList = bytesOf cs := by simp [cat]
  rw [ec]
  have hg13 := Gw.trans hg2 hg3
  have hs3 : Strs w3 A' cs.length cs := ⟨H3.out.1, H3.out.2.1, H3.out.2.2.1, H3.out.2.2.2.imp id (fun ⟨b, off, h, hc⟩ => ⟨b, off, h, fun i hi => Below.cell_old hg13 (hc i hi)⟩)⟩
  have H4 := Lib.hid (of A' _ c' cs w3 hs3)
  have H5 := fun W hW => Lib.hid (whole A' _ c' cs W ⟨H3.out.1, H3.out.2.1, H3.out.2.2.1, H3.out.2.2.2.imp id (fun ⟨b, off, h, hc⟩ => ⟨b, off, h, fun i hi => Below.cell_old hW (hc i hi)⟩)⟩)
  clear hs3 H3 H2 H
  have hr := Sm_range (bytesOf cs)
  generalize Sm (bytesOf cs) = sm at *
  go_wp2_with fail
  refine H4.out.mono ?_
  rintro e w4 ⟨rfl, hg4⟩
  have H6 := H5 w4 (Gw.trans hg13 hg4)
  clear H5 H4
  go_wp2_with fail
  refine H6.out.mono ?_
  rintro e w5 ⟨rfl, hg5⟩
  go_wp2_with (go_at_call 18; refine (works _).mono ?_; rintro e w' ⟨rfl, hb⟩)
  go_ret
  exact ⟨rfl, Gw.trans hg1 (Gw.trans hg13 (Gw.trans hg4 (Gw.trans hg5 (by assumption))))⟩
end Go.Proofs.Ytidpmlifodpjlaa.Sm
