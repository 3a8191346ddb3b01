/- The walk of DsumByte where the turned byte of the DSN is number 4 (printed by dsumbyte.py). -/
import Derived.Test.YtidpmlifodpjlaaDsG
import Derived.Laws.BitsAllLaws
namespace Go.Proofs.Ytidpmlifodpjlaa.Sm
open Go.RowKit
set_option linter.unusedVariables false

set_option maxRecDepth 100000 in
set_option maxHeartbeats 4000000 in
theorem dsumByte4 (dsn ssn n p q : Int) (text t : ByteArray) (hc : (500 < (text.size : Int) ∧ text.extract 0 500 = t) ∨ (¬ 500 < (text.size : Int) ∧ t = text)) (ht : t.size ≤ 500) (hd : 0 ≤ dsn ∧ dsn < 18446744073709551616) (hs : 0 ≤ ssn ∧ ssn < 4294967296) (hn : 0 ≤ n ∧ n ≤ 65535) (hp : 0 ≤ p ∧ p ≤ 65535) (hq : 0 ≤ q ∧ q ≤ 65535) (hj : p % 8 = 4) (hz : text.size ≤ 9223372036854775807) (w : World) :
    Calls Try.prog 11 #[.int .u64 dsn, .int .u32 ssn, .int .u16 n, .string text, .agg #[.int .u16 p, .int .u16 q]] w fun e w' => e = .returned (.bool true) ∧ Gw w w' := by
  have htl : t.data.toList.length = t.size := by simp
  obtain ⟨s, hsv⟩ : ∃ s, 65535 - Sm (allB dsn ssn n 0 t.data.toList) = s := ⟨_, rfl⟩
  have hsr : 0 ≤ s ∧ s ≤ 65535 := by have := Sm_range (allB dsn ssn n 0 t.data.toList); omega
  obtain ⟨b, hb⟩ : ∃ b, 1 + q % 255 = b := ⟨_, rfl⟩
  have hbr : 1 ≤ b ∧ b ≤ 255 := by omega
  obtain ⟨B, rfl⟩ := Int.eq_ofNat_of_zero_le (a := b) (by omega)
  obtain ⟨D, rfl⟩ := Int.eq_ofNat_of_zero_le hd.1
  obtain ⟨S, rfl⟩ := Int.eq_ofNat_of_zero_le hs.1
  obtain ⟨N, rfl⟩ := Int.eq_ofNat_of_zero_le hn.1
  obtain ⟨d1, hx1, hn1, hl1, hh1⟩ := xor_delta D B 32 (by omega) (by omega)
  obtain ⟨d2, hx2, hn2, hl2, hh2⟩ := xor_delta S B 0 (by omega) (by omega)
  obtain ⟨d3, hx3, hn3, hl3, hh3⟩ := xor_delta N B 0 (by omega) (by omega)
  have r1 : D ^^^ (B * 2 ^ 32) < 2 ^ 64 := Nat.xor_lt_two_pow (by omega) (by omega)
  have r2 : S ^^^ (B * 2 ^ 0) < 2 ^ 32 := Nat.xor_lt_two_pow (by omega) (by omega)
  have r3 : N ^^^ (B * 2 ^ 0) < 2 ^ 16 := Nat.xor_lt_two_pow (by omega) (by omega)
  have y1 : bits .xor .u64 (D : Int) ((B : Int) * 4294967296) = ((D ^^^ (B * 2 ^ 32) : Nat) : Int) := by
    have := u64_xor_nat D (B * 2 ^ 32) (by omega) (by omega)
    rw [← this]; congr 1 <;> simp
  have y2 : bits .xor .u32 (S : Int) ((B : Int)) = ((S ^^^ (B * 2 ^ 0) : Nat) : Int) := by
    have := u32_xor_nat S (B * 2 ^ 0) (by omega) (by omega)
    rw [← this]; congr 1 <;> simp
  have y3 : bits .xor .u16 (N : Int) ((B : Int)) = ((N ^^^ (B * 2 ^ 0) : Nat) : Int) := by
    have := u16_xor_nat N (B * 2 ^ 0) (by omega) (by omega)
    rw [← this]; congr 1 <;> simp
  obtain ⟨x1, hX1⟩ : ∃ x : Int, ((D ^^^ (B * 2 ^ 32) : Nat) : Int) = x := ⟨_, rfl⟩
  obtain ⟨x2, hX2⟩ : ∃ x : Int, ((S ^^^ (B * 2 ^ 0) : Nat) : Int) = x := ⟨_, rfl⟩
  obtain ⟨x3, hX3⟩ : ∃ x : Int, ((N ^^^ (B * 2 ^ 0) : Nat) : Int) = x := ⟨_, rfl⟩
  have R1 : 0 ≤ x1 ∧ x1 < 18446744073709551616 := by omega
  have R2 : 0 ≤ x2 ∧ x2 < 4294967296 := by omega
  have R3 : 0 ≤ x3 ∧ x3 ≤ 65535 := by omega
  rw [hX1] at hx1 y1; rw [hX2] at hx2 y2; rw [hX3] at hx3 y3
  clear hX1 hX2 hX3 r1 r2 r3
  have w1 := wrong D S N s x1 S N t.data.toList t.data.toList hd hs hn R1 hs hn (by omega) (by omega) hsv (by omega)
  have w2 := wrong D S N s D x2 N t.data.toList t.data.toList hd hs hn hd R2 hn (by omega) (by omega) hsv (by omega)
  have w3 := wrong D S N s D S x3 t.data.toList t.data.toList hd hs hn hd hs R3 (by omega) (by omega) hsv (by omega)
  clear hx1 hx2 hx3 hn1 hn2 hn3 hl1 hl2 hl3 hh1 hh2 hh3
  have HT : ∀ (k : Nat) (hk : k < t.data.toList.length) (c : UInt8), c ≠ t.data.toList[k] → (Sm (allB D S N s (t.data.toList.set k c)) == 65535) = false := by
    intro k hk c hne
    refine wrong D S N s D S N t.data.toList (t.data.toList.set k c) hd hs hn hd hs hn (by omega) (by simp only [List.length_set]; omega) hsv ?_
    rw [wsum_set _ k hk c]
    have h1 := c.toNat_lt
    have h2 := t.data.toList[k].toNat_lt
    have h3 : c.toNat ≠ t.data.toList[k].toNat := fun e => hne (UInt8.toNat_inj.1 e)
    split <;> omega
  have HHT := Lib.hid HT
  clear HT
  have c0 : (w.alloc (.cells #[.int .u16 p, .int .u16 q] 49)).cell? ⟨w.heap.size, 0, none⟩ = some (.int .u16 p) := by rw [World.cell?_alloc_new]; rfl
  have c1 : (w.alloc (.cells #[.int .u16 p, .int .u16 q] 49)).cell? ⟨w.heap.size, 1, none⟩ = some (.int .u16 q) := by rw [World.cell?_alloc_new]; rfl
  rcases hc with ⟨hl, he⟩ | ⟨hl, rfl⟩
  all_goals
    by_cases h0 : t.size = 0
    · have hzb : ((t.size : Int) == 0) = true := by simp [h0]
      clear h0
      go_enter Try.func11, Try.ntmps11
      go_wp2_with (first | (go_at_call 31; refine (dworks _).mono ?_; rintro e w' ⟨rfl, hb⟩; have c0 := cell_gw hb c0; have c1 := cell_gw hb c1) | (go_at_call 28; refine (dof _ _ _ _ _ (by omega) (by omega) (by omega) (by omega)).mono ?_; rintro e w' ⟨rfl, hb⟩; have c0 := cell_gw hb c0; have c1 := cell_gw hb c1) | (go_at_call 29; refine (dright _ _ _ _ _ _ (by omega) (by omega) (by omega) (by omega) (by omega)).mono ?_; rintro e w' ⟨rfl, hb⟩; have c0 := cell_gw hb c0; have c1 := cell_gw hb c1))
      go_ret
      exact ⟨rfl, by (repeat (first | with_reducible exact Gw.refl _ | with_reducible assumption | with_reducible refine Gw.alloc ?_ _ | with_reducible refine Gw.drew ?_ | with_reducible refine Gw.trans ?_ (by with_reducible assumption)))⟩
    · have hzb : ((t.size : Int) == 0) = false := by simp [h0]
      have hk0 := Int.emod_nonneg p (b := (t.size : Int)) (by omega)
      have hk1 := Int.emod_lt_of_pos p (b := (t.size : Int)) (by omega)
      obtain ⟨k, hk⟩ : ∃ k : Nat, p % (t.size : Int) = k := ⟨(p % (t.size : Int)).toNat, by omega⟩
      rw [hk] at hk0 hk1
      have hk2 : k < t.size := by omega
      go_enter Try.func11, Try.ntmps11
      go_wp2_with (first | (go_at_call 31; refine (dworks _).mono ?_; rintro e w' ⟨rfl, hb⟩; have c0 := cell_gw hb c0; have c1 := cell_gw hb c1) | (go_at_call 28; refine (dof _ _ _ _ _ (by omega) (by omega) (by omega) (by omega)).mono ?_; rintro e w' ⟨rfl, hb⟩; have c0 := cell_gw hb c0; have c1 := cell_gw hb c1) | (go_at_call 29; refine (dright _ _ _ _ _ _ (by omega) (by omega) (by omega) (by omega) (by omega)).mono ?_; rintro e w' ⟨rfl, hb⟩; have c0 := cell_gw hb c0; have c1 := cell_gw hb c1))
      rw [run_bytes_of_string w' 9 38 5 t Try.underlying9 Try.underlying38 Try.underlying5]
      have hbuf := buf_new w' t (grownCap w' t.size 0 5)
      have hg2 : Gw w' (w'.drew.alloc (.cells (bytesRow t (grownCap w' t.size 0 5)) 5 ((bytesRow t (grownCap w' t.size 0 5)).size, (bytesRow t (grownCap w' t.size 0 5)).size + 1))) := ((Gw.refl w').drew).alloc _
      have c0 := cell_gw hg2 c0
      have hlt0 := World.block_lt_of_cell? _ _ c0
      obtain ⟨Bl, hB⟩ : ∃ Bl, w'.heap.size = Bl := ⟨_, rfl⟩
      have hBw : Below Bl w' (w'.drew.alloc (.cells (bytesRow t (grownCap w' t.size 0 5)) 5 ((bytesRow t (grownCap w' t.size 0 5)).size, (bytesRow t (grownCap w' t.size 0 5)).size + 1))) := by rw [← hB]; exact hg2
      rw [hB] at hbuf ⊢
      generalize w'.drew.alloc (.cells (bytesRow t (grownCap w' t.size 0 5)) 5 ((bytesRow t (grownCap w' t.size 0 5)).size, (bytesRow t (grownCap w' t.size 0 5)).size + 1)) = w2 at *
      generalize grownCap w' t.size 0 5 = cp
      have hkl : k < t.data.toList.length := by omega
      obtain ⟨c, hx, hne⟩ := xor_byte t.data.toList[k] (B : Int) (by omega) (by omega)
      have hsm := HHT.out k hkl c hne
      have hc2 := (hbuf.2 k hkl).1
      have hf2 := (hbuf.2 k hkl).2
      generalize (t.data.toList[k].toNat : Int) = x at *
      have hbuf3 := hbuf.set hkl c
      have HB3 : Hid (Below Bl w' (w2.setCell ⟨Bl, k, none⟩ (.int .u8 (c.toNat : Int)))) := Lib.hid (hBw.setCell (p := ⟨Bl, k, none⟩) (Nat.le_refl _) _)
      have hcv := buf_str hbuf3 (n := t.size) (by simp) cp
      have hsz : (⟨(t.data.toList.set k c).toArray⟩ : ByteArray).size ≤ 500 := by show Array.size _ ≤ _; simp; omega
      have HSM : Hid ((Sm (allB D S N s (⟨(t.data.toList.set k c).toArray⟩ : ByteArray).data.toList) == 65535) = false) := Lib.hid hsm
      obtain ⟨s2, hs2⟩ : ∃ s2, (⟨(t.data.toList.set k c).toArray⟩ : ByteArray) = s2 := ⟨_, rfl⟩
      rw [hs2] at hcv hsz HSM
      have HBE := Lib.hid hB
      clear hbuf hne hsm hbuf3 hBw hg2 hkl hs2 hB
      have hb9 := hb
      clear hb
      go_wp2_with (go_at_call 29; refine (dright _ _ _ _ _ _ (by omega) (by omega) (by omega) (by omega) (by omega)).mono ?_; rintro e w9 ⟨rfl, hb⟩)
      go_ret
      refine ⟨?_, ?_⟩
      · show Ending.returned (.bool (!(Sm (allB D S N s s2.data.toList) == 65535))) = _
        rw [HSM.out]; rfl
      · refine Gw.trans (b := w') (by (repeat (first | with_reducible exact Gw.refl _ | with_reducible assumption | with_reducible refine Gw.alloc ?_ _ | with_reducible refine Gw.drew ?_ | with_reducible refine Gw.trans ?_ (by with_reducible assumption)))) (Gw.trans (b := w2.setCell ⟨Bl, k, none⟩ (.int .u8 (c.toNat : Int))) ?_ hb)
        unfold Gw; rw [HBE.out]; exact HB3.out
end Go.Proofs.Ytidpmlifodpjlaa.Sm
