/- The walk of ShapeOrder. -/
import Derived.Test.YtmjajepdlopkiaaShL
namespace Go.Proofs.Ytmjajepdlopkiaa.Sh
open Go.RowKit
set_option linter.unusedVariables false
set_option linter.unusedSimpArgs false

theorem CameAt.frg {w w' X g cp isn n C} {k : Nat} (h : CameAt w X g cp isn n C) (hf : Fr (fun j => j = k) w w') (h1 : X ≠ k) (h2 : g ≠ k) : CameAt w' X g cp isn n C := h.keep (hf.block X h.ltX h1) (hf.block g h.ltg h2)
set_option maxRecDepth 100000 in
set_option maxHeartbeats 8000000 in
theorem shapeOrder (isn : Int) (hi : 0 ≤ isn ∧ isn < 4294967296) (s0 : ByteArray) (hs0 : s0.size ≤ 9223372036854775807) (A : Option Addr) (n C : Nat) (ps0 : List Pt) (by' : Nat) (hby : by' < 256) (w : World) (hP : Parts w A n C ps0) :
    Calls Try.prog 9 #[.int .u32 isn, .string s0, .slice A n C, .int .u8 by'] w fun e w' => e = .returned (.bool true) ∧ Gw w w' := by
  have hsp := hP.2.2.2.1
  have hC := hP.2.1
  have hCm := hP.2.2.1
  have HP := Lib.hid hP
  clear hP
  go_enter Try.func9, Try.ntmps9
  go_wp2_with fail
  refine (cut_ s0 A n C hs0 hC hCm hsp _).mono ?_
  rintro e w1 ⟨s, m, rfl, hs, hm, hmn, hg⟩
  have HP1 := Lib.hid (HP.out.take m hmn)
  have HG := Lib.hid hg
  generalize ps0.take m = ps at *
  clear HP hsp hg hmn hC hs0
  go_wp2_with fail
  refine (new_ isn 200 (by omega) hi _).mono ?_
  rintro e w2 ⟨X1, g1, rfl, hc1, hX1, hg1, hg⟩
  have HG2 := Lib.hid (gw_trans HG.out hg)
  have HX1 : Hid (w.heap.size ≤ X1 ∧ w.heap.size ≤ g1 ∧ g1 ≠ X1) := Lib.hid ⟨by have := HG.out.size; omega, by have := HG.out.size; omega, hc1.ne⟩
  have HC1 := Lib.hid hc1
  clear HG hg hX1 hg1 hc1
  go_wp2_with fail
  refine (new_ isn 200 (by omega) hi _).mono ?_
  rintro e w3 ⟨X2, g2, rfl, hc2, hX2, hg2, hg⟩
  have HG3 := Lib.hid (gw_trans HG2.out hg)
  have HX2 : Hid (w.heap.size ≤ X2 ∧ w.heap.size ≤ g2 ∧ g2 ≠ X2 ∧ X1 ≠ X2 ∧ X1 ≠ g2 ∧ g1 ≠ X2 ∧ g1 ≠ g2) := Lib.hid ⟨by have := HG2.out.size; omega, by have := HG2.out.size; omega, hc2.ne, by have := HC1.out.ltX; omega, by have := HC1.out.ltX; omega, by have := HC1.out.ltg; omega, by have := HC1.out.ltg; omega⟩
  have HC1' := Lib.hid (HC1.out.gw hg)
  have HC2 := Lib.hid hc2
  clear HG2 hg hX2 hg2 hc2 HC1
  go_wp2_with fail
  refine (works _).mono ?_
  rintro e w4 ⟨rfl, hg⟩
  have HG4 := Lib.hid (gw_trans HG3.out hg)
  have HC1 := Lib.hid (HC1'.out.gw hg)
  have HC2' := Lib.hid (HC2.out.gw hg)
  clear HG3 HC2 HC1' hg
  go_wp2_with fail
  go_loopw [11] (fun v11 wr => ∃ k : Nat, k ≤ m ∧ v11 = .int .i64 k ∧ Hid (CameAt wr X1 g1 200 isn 200 (allH s.data.toList (ps.take k)) ∧ CameAt wr X2 g2 200 isn 200 (rotH s.data.toList ps by' k) ∧ Gw w wr)) (fun v11 _ => m - (intOf v11).toNat)
  case atStart => exact ⟨0, Nat.zero_le _, rfl, Lib.hid ⟨HC1.out.like (fun i b _ _ => by simp [allH]), HC2'.out.like (fun i b _ _ => by simp [rotH]), HG4.out⟩⟩
  case round =>
    obtain ⟨k, hk, rfl, HI⟩ := hrel
    clear HC1 HC2' HG4
    by_cases hkm : k < m
    · have z0 : (k : Int) < m := by omega
      have hpl : ps.length = m := HP1.out.1
      obtain ⟨gp, off, rfl, hgp, hat⟩ := HP1.out.2.2.2.2.resolve_left (by omega)
      obtain ⟨⟨d0, d1, d2, d3⟩, hok⟩ := hat k (by omega)
      have hj0 : ((k : Int) + by') % (m : Int) = (((k + by') % m : Nat) : Int) := rfl
      obtain ⟨j, hj⟩ : ∃ j, (k + by') % m = j := ⟨_, rfl⟩
      have hjm : j < m := by rw [← hj]; exact Nat.mod_lt _ (by omega)
      rw [hj] at hj0
      obtain ⟨hqj, hokj⟩ := hat j (by omega)
      have HQ := Lib.hid hqj
      have d0 := cell_gw HI.out.2.2 d0
      have d1 := cell_gw HI.out.2.2 d1
      have d2 := cell_gw HI.out.2.2 d2
      have d3 := cell_gw HI.out.2.2 d3
      have hw1 := HX1.out
      have hw2 := HX2.out
      have HS1 : Hid (∀ a b, allH s.data.toList (ps.take (k + 1)) a b = (allH s.data.toList (ps.take k) a b || ps[k].hit s.data.toList a b)) := Lib.hid (fun a b => allH_succ _ _ _ (by omega) a b)
      have HS2 : Hid (∀ a b, rotH s.data.toList ps by' (k + 1) a b = (rotH s.data.toList ps by' k a b || ps[j].hit s.data.toList a b)) := Lib.hid (fun a b => rotH_succ _ _ _ _ _ (by omega) (by rw [hpl]; exact hj) a b)
      obtain ⟨f, d, hf, hd, _, hfd, hseg⟩ := seg_any ps[k] hok isn hi s (by omega)
      obtain ⟨fj, dj, hfj, hdj, _, hfdj, hsegj⟩ := seg_any ps[j] hokj isn hi s (by omega)
      have HSEG := Lib.hid hseg
      have HSEGJ := Lib.hid hsegj
      have HH1 : Hid (∀ a b, und (allH s.data.toList (ps.take k)) (brings isn ((isn + 1 + f) % 4294967296) d) a b = allH s.data.toList (ps.take (k + 1)) a b) := Lib.hid (fun a b => by
        rw [HS1.out, hfd, brings_at isn hi f (by omega)]; rfl)
      have HFDJ := Lib.hid hfdj
      clear hat hqj hok hokj hw1 hw2 hgp hseg hsegj hfd hfdj HS1
      generalize ps[k] = pk at *
      generalize ps[j] = pj at *
      have HPL := Lib.hid hpl
      clear hj hpl
      have z1 : (j : Int) < m := by omega
      go_wp2_with fail
      refine (HSEG.out _).mono ?_
      rintro e w5 ⟨rfl, hg5⟩
      have HC1 := Lib.hid (HI.out.1.gw hg5)
      have HC2 := Lib.hid (HI.out.2.1.gw hg5)
      have HG5 := Lib.hid (gw_trans HI.out.2.2 hg5)
      clear d0 d1 d2 d3 hg5
      go_wp2_with fail
      refine (add_ HC1.out _ _ _ _ _ _ _ _ _ _ _ (by omega)).mono ?_
      rintro e w6 ⟨rfl, hc1, hf6⟩
      have hc1 : CameAt w6 X1 g1 200 isn 200 (allH s.data.toList (ps.take (k + 1))) := hc1.like (fun a b _ _ => HH1.out a b)
      have hc2 := HC2.out.frg hf6 HX2.out.2.2.2.2.2.1.symm HX2.out.2.2.2.2.2.2.symm
      have HG6 := Lib.hid (gw_fr HG5.out HX1.out.2.1 hf6)
      clear HC1 HC2 HG5 hf6
      have HC1 := Lib.hid hc1
      have HC2 := Lib.hid hc2
      clear hc1 hc2
      have q0 := cell_gw HG6.out HQ.out.1
      have q1 := cell_gw HG6.out HQ.out.2.1
      have q2 := cell_gw HG6.out HQ.out.2.2.1
      have q3 := cell_gw HG6.out HQ.out.2.2.2
      go_wp2_with fail
      refine (HSEGJ.out _).mono ?_
      rintro e w7 ⟨rfl, hg7⟩
      have HC1' := Lib.hid (HC1.out.gw hg7)
      have HC2' := Lib.hid (HC2.out.gw hg7)
      have HG7 := Lib.hid (gw_trans HG6.out hg7)
      clear HC1 HC2 HG6 hg7 q0 q1 q2 q3
      obtain ⟨kk, hkk⟩ : ∃ kk : Nat, (by' : Int) % ((dj.size : Int) + 1) = kk := ⟨by' % (dj.size + 1), rfl⟩
      have hkl : kk ≤ dj.size := by
        have := Int.emod_lt_of_pos (by' : Int) (b := (dj.size : Int) + 1) (by omega); omega
      have hw1 : IntKind.u32.wrap (kk : Int) = kk := by rw [IntKind.wrap_u32']; omega
      have hw2 : IntKind.u32.wrap ((isn + 1 + (fj : Int)) % 4294967296 + (kk : Int)) = (isn + 1 + ((fj + kk : Nat) : Int)) % 4294967296 := by rw [IntKind.wrap_u32']; omega
      have z2 : (kk : Int) ≤ dj.size := by omega
      have HH2 : Hid (∀ a b, und (und (und (rotH s.data.toList ps by' k) (brings isn ((isn + 1 + ((fj : Int) + (kk : Int))) % 4294967296) (dj.extract kk dj.size))) (brings isn ((isn + 1 + (fj : Int)) % 4294967296) (dj.extract 0 kk))) (brings isn ((isn + 1 + ((fj : Int) + (kk : Int))) % 4294967296) (dj.extract kk dj.size)) a b = rotH s.data.toList ps by' (k + 1) a b) := Lib.hid (fun a b => by
        have e1 := brings_at isn hi (fj + kk) (by omega) (dj.extract kk dj.size)
        rw [Int.natCast_add] at e1
        have e2 := brings_at isn hi fj (by omega) (dj.extract 0 kk)
        have hl : dj.data.toList.length = dj.size := Array.length_toList
        have e3 : (dj.extract kk dj.size).data.toList = dj.data.toList.drop kk := by
          simp [ByteArray.data_extract]
          rw [List.take_of_length_le (by rw [List.length_drop]; omega)]
        have e4 : (dj.extract 0 kk).data.toList = dj.data.toList.take kk := by simp [ByteArray.data_extract]
        have e5 := hit_split fj dj.data.toList kk (by omega) a b
        rw [HS2.out, HFDJ.out, ← e5, e1, e2, e3, e4]
        unfold und
        cases rotH s.data.toList ps by' k a b <;> cases hit (↑fj + ↑kk) (dj.data.toList.drop kk) a b <;> cases hit (↑fj) (dj.data.toList.take kk) a b <;> rfl)
      have hny : (dj.extract kk dj.size).size ≤ 1000000 := by rw [ByteArray.size_extract]; omega
      have hnx : (dj.extract 0 kk).size ≤ 1000000 := by rw [ByteArray.size_extract]; omega
      have HNY := Lib.hid hny
      have HNX := Lib.hid hnx
      clear hny hnx
      go_upto_region 12 with fail
      go_region
      go_wp2_with fail
      have hgx : Gw w7 ((w7.alloc (.cells #[.int .i64 0, .int .u16 0, .int .u16 0, .int .u32 ((isn + 1 + (fj : Int)) % 4294967296), .int .u32 0, .bool false, .bool false, .bool false, .bool false, .int .u16 0, .string ⟨#[]⟩, .string (dj.extract 0 kk)] 48)).alloc (.cells #[.int .i64 0, .int .u16 0, .int .u16 0, .int .u32 ((isn + 1 + ((fj : Int) + (kk : Int))) % 4294967296), .int .u32 0, .bool false, .bool false, .bool false, .bool false, .int .u16 0, .string ⟨#[]⟩, .string (dj.extract kk dj.size)] 48)).drew := (gw_trans (gw_alloc1 _ _) (gw_alloc1 _ _)).drew
      have hbx : ((w7.alloc (.cells #[.int .i64 0, .int .u16 0, .int .u16 0, .int .u32 ((isn + 1 + (fj : Int)) % 4294967296), .int .u32 0, .bool false, .bool false, .bool false, .bool false, .int .u16 0, .string ⟨#[]⟩, .string (dj.extract 0 kk)] 48)).alloc (.cells #[.int .i64 0, .int .u16 0, .int .u16 0, .int .u32 ((isn + 1 + ((fj : Int) + (kk : Int))) % 4294967296), .int .u32 0, .bool false, .bool false, .bool false, .bool false, .int .u16 0, .string ⟨#[]⟩, .string (dj.extract kk dj.size)] 48)).drew.heap[w7.heap.size]? = some (.cells #[.int .i64 0, .int .u16 0, .int .u16 0, .int .u32 ((isn + 1 + (fj : Int)) % 4294967296), .int .u32 0, .bool false, .bool false, .bool false, .bool false, .int .u16 0, .string ⟨#[]⟩, .string (dj.extract 0 kk)] 48) := (heap_alloc_old (w7.alloc (.cells #[.int .i64 0, .int .u16 0, .int .u16 0, .int .u32 ((isn + 1 + (fj : Int)) % 4294967296), .int .u32 0, .bool false, .bool false, .bool false, .bool false, .int .u16 0, .string ⟨#[]⟩, .string (dj.extract 0 kk)] 48)) _ (by rw [World.size_alloc]; omega)).trans (heap_alloc_new w7 _)
      have hby2 : ((w7.alloc (.cells #[.int .i64 0, .int .u16 0, .int .u16 0, .int .u32 ((isn + 1 + (fj : Int)) % 4294967296), .int .u32 0, .bool false, .bool false, .bool false, .bool false, .int .u16 0, .string ⟨#[]⟩, .string (dj.extract 0 kk)] 48)).alloc (.cells #[.int .i64 0, .int .u16 0, .int .u16 0, .int .u32 ((isn + 1 + ((fj : Int) + (kk : Int))) % 4294967296), .int .u32 0, .bool false, .bool false, .bool false, .bool false, .int .u16 0, .string ⟨#[]⟩, .string (dj.extract kk dj.size)] 48)).drew.heap[w7.heap.size + 1]? = some (.cells #[.int .i64 0, .int .u16 0, .int .u16 0, .int .u32 ((isn + 1 + ((fj : Int) + (kk : Int))) % 4294967296), .int .u32 0, .bool false, .bool false, .bool false, .bool false, .int .u16 0, .string ⟨#[]⟩, .string (dj.extract kk dj.size)] 48) := by
        have := heap_alloc_new (w7.alloc (.cells #[.int .i64 0, .int .u16 0, .int .u16 0, .int .u32 ((isn + 1 + (fj : Int)) % 4294967296), .int .u32 0, .bool false, .bool false, .bool false, .bool false, .int .u16 0, .string ⟨#[]⟩, .string (dj.extract 0 kk)] 48)) (.cells #[.int .i64 0, .int .u16 0, .int .u16 0, .int .u32 ((isn + 1 + ((fj : Int) + (kk : Int))) % 4294967296), .int .u32 0, .bool false, .bool false, .bool false, .bool false, .int .u16 0, .string ⟨#[]⟩, .string (dj.extract kk dj.size)] 48)
        rw [World.size_alloc] at this
        exact this
      have hz7 : g2 < w7.heap.size := HC2'.out.ltg
      generalize ((w7.alloc (.cells #[.int .i64 0, .int .u16 0, .int .u16 0, .int .u32 ((isn + 1 + (fj : Int)) % 4294967296), .int .u32 0, .bool false, .bool false, .bool false, .bool false, .int .u16 0, .string ⟨#[]⟩, .string (dj.extract 0 kk)] 48)).alloc (.cells #[.int .i64 0, .int .u16 0, .int .u16 0, .int .u32 ((isn + 1 + ((fj : Int) + (kk : Int))) % 4294967296), .int .u32 0, .bool false, .bool false, .bool false, .bool false, .int .u16 0, .string ⟨#[]⟩, .string (dj.extract kk dj.size)] 48)).drew = w8 at *
      have HC1 := Lib.hid (HC1'.out.gw hgx)
      have HC2 := Lib.hid (HC2'.out.gw hgx)
      have HG8 := Lib.hid (gw_trans HG7.out hgx)
      have HBX := Lib.hid hbx
      have HBY := Lib.hid hby2
      clear HC1' HC2' HG7 hgx hbx hby2
      refine (add_ HC2.out _ _ _ _ _ _ _ _ _ _ _ HNY.out).mono ?_
      rintro e w9 ⟨rfl, hc2, hf⟩
      have HC2' := Lib.hid hc2
      have HC1' := Lib.hid (HC1.out.frg hf HX2.out.2.2.2.2.1 HX2.out.2.2.2.2.2.2)
      have HG9 := Lib.hid (gw_fr HG8.out HX2.out.2.1 hf)
      have HBX9 := Lib.hid ((hf.block _ (Array.getElem?_eq_some_iff.1 HBX.out).1 (by show w7.heap.size ≠ g2; omega)).trans HBX.out)
      have HBY9 := Lib.hid ((hf.block _ (Array.getElem?_eq_some_iff.1 HBY.out).1 (by show w7.heap.size + 1 ≠ g2; omega)).trans HBY.out)
      clear HC1 HC2 HG8 HBX HBY hf hc2
      have x0 := cell12 HBX9.out 0 _ rfl
      have x1 := cell12 HBX9.out 1 _ rfl
      have x2 := cell12 HBX9.out 2 _ rfl
      have x3 := cell12 HBX9.out 3 _ rfl
      have x4 := cell12 HBX9.out 4 _ rfl
      have x5 := cell12 HBX9.out 5 _ rfl
      have x6 := cell12 HBX9.out 6 _ rfl
      have x7 := cell12 HBX9.out 7 _ rfl
      have x8 := cell12 HBX9.out 8 _ rfl
      have x9 := cell12 HBX9.out 9 _ rfl
      have x10 := cell12 HBX9.out 10 _ rfl
      have x11 := cell12 HBX9.out 11 _ rfl
      go_wp2_with fail
      clear x0 x1 x2 x3 x4 x5 x6 x7 x8 x9 x10 x11
      refine (add_ HC2'.out _ _ _ _ _ _ _ _ _ _ _ HNX.out).mono ?_
      rintro e w10 ⟨rfl, hc2, hf⟩
      have HC2 := Lib.hid hc2
      have HC1 := Lib.hid (HC1'.out.frg hf HX2.out.2.2.2.2.1 HX2.out.2.2.2.2.2.2)
      have HG10 := Lib.hid (gw_fr HG9.out HX2.out.2.1 hf)
      have HBY10 := Lib.hid ((hf.block _ (Array.getElem?_eq_some_iff.1 HBY9.out).1 (by show w7.heap.size + 1 ≠ g2; omega)).trans HBY9.out)
      clear HC1' HC2' HG9 HBX9 HBY9 hf hc2
      have y0 := cell12 HBY10.out 0 _ rfl
      have y1 := cell12 HBY10.out 1 _ rfl
      have y2 := cell12 HBY10.out 2 _ rfl
      have y3 := cell12 HBY10.out 3 _ rfl
      have y4 := cell12 HBY10.out 4 _ rfl
      have y5 := cell12 HBY10.out 5 _ rfl
      have y6 := cell12 HBY10.out 6 _ rfl
      have y7 := cell12 HBY10.out 7 _ rfl
      have y8 := cell12 HBY10.out 8 _ rfl
      have y9 := cell12 HBY10.out 9 _ rfl
      have y10 := cell12 HBY10.out 10 _ rfl
      have y11 := cell12 HBY10.out 11 _ rfl
      go_wp2_with fail
      clear y0 y1 y2 y3 y4 y5 y6 y7 y8 y9 y10 y11
      refine (add_ HC2.out _ _ _ _ _ _ _ _ _ _ _ HNY.out).mono ?_
      rintro e w11 ⟨rfl, hc2, hf⟩
      have hc2 : CameAt w11 X2 g2 200 isn 200 (rotH s.data.toList ps by' (k + 1)) := hc2.like (fun a b _ _ => HH2.out a b)
      have HC2' := Lib.hid hc2
      have HC1' := Lib.hid (HC1.out.frg hf HX2.out.2.2.2.2.1 HX2.out.2.2.2.2.2.2)
      have HG11 := Lib.hid (gw_fr HG10.out HX2.out.2.1 hf)
      clear HC1 HC2 HG10 HBY10 hf hc2
      go_wp2_with fail
      go_roundw
      case rel => exact ⟨k + 1, by omega, by go_num, Lib.hid ⟨HC1'.out, HC2'.out, HG11.out⟩⟩
      case measure => simp [intOf]; omega
    · obtain rfl : k = m := by omega
      have hc1 := HI.out.1
      have hc2 := HI.out.2.1
      rw [List.take_of_length_le (by rw [HP1.out.1]; exact Nat.le_refl _)] at hc1
      have hc2 : CameAt wr X2 g2 200 isn 200 (allH s.data.toList ps) := hc2.like (fun a b _ _ => by
        have := rot_all s.data.toList ps by' a b
        rw [HP1.out.1] at this; exact this)
      have HC1 := Lib.hid hc1
      have HC2 := Lib.hid hc2
      have HGA := Lib.hid HI.out.2.2
      clear hc1 hc2 HI
      generalize allH s.data.toList ps = CA at *
      obtain ⟨cb, hcb⟩ : ∃ cb : UInt8, cb.toNat = by' := ⟨UInt8.ofNat by', by simp; omega⟩
      subst hcb
      go_wp2_with fail
      refine (copy_ HC1.out).mono ?_
      rintro e w12 ⟨X3, g3, cp3, rfl, hc3, hX3, hg3, hg⟩
      have HX3 : Hid (w.heap.size ≤ X3 ∧ w.heap.size ≤ g3 ∧ X1 ≠ X3 ∧ X1 ≠ g3 ∧ X2 ≠ X3 ∧ X2 ≠ g3 ∧ g1 ≠ g3 ∧ g2 ≠ g3) := Lib.hid ⟨by have := HGA.out.size; omega, by have := HGA.out.size; omega, by have := HC1.out.ltX; omega, by have := HC1.out.ltX; omega, by have := HC2.out.ltX; omega, by have := HC2.out.ltX; omega, by have := HC1.out.ltg; omega, by have := HC2.out.ltg; omega⟩
      have HD1 := Lib.hid (HC1.out.gw hg)
      have HD2 := Lib.hid (HC2.out.gw hg)
      have HD3 := Lib.hid hc3
      have HGB := Lib.hid (gw_trans HGA.out hg)
      clear HC1 HC2 HGA hc3 hX3 hg3 hg
      have hcv := buf3 cb
      go_wp2_with fail
      have hga := gw_alloc1 w12 (.cells #[.int .u8 (cb.toNat : Int), .int .u8 (cb.toNat : Int), .int .u8 (cb.toNat : Int)] 5)
      generalize w12.alloc (.cells #[.int .u8 (cb.toNat : Int), .int .u8 (cb.toNat : Int), .int .u8 (cb.toNat : Int)] 5) = w13 at *
      refine (add_ (HD3.out.gw hga) _ _ _ _ _ _ _ _ _ _ (bs [cb, cb, cb]) (show (3 : Nat) ≤ 1000000 by omega)).mono ?_
      rintro e w14 ⟨rfl, hc3, hf⟩
      have HR : Hid (und CA (brings isn ((isn + 1) % 4294967296) (bs [cb, cb, cb])) 0 cb.toNat = true ∧ und CA (brings isn ((isn + 1) % 4294967296) (bs [cb, cb, cb])) 2 cb.toNat = true) := Lib.hid ⟨by unfold und; rw [brings3 isn hi cb 0 (by omega), Bool.or_true], by unfold und; rw [brings3 isn hi cb 2 (by omega), Bool.or_true]⟩
      have HM : Hid (∀ o : Int, cnt (row 200 CA o) 256 ≤ cnt (row 200 (und CA (brings isn ((isn + 1) % 4294967296) (bs [cb, cb, cb]))) o) 256) := Lib.hid (fun o => cnt_mono (fun b _ h => by
        unfold row at *
        split at h
        · rename_i hh; rw [if_pos hh]; unfold und; rw [h]; rfl
        · cases h))
      generalize und CA (brings isn ((isn + 1) % 4294967296) (bs [cb, cb, cb])) = CC at *
      have HE1 := Lib.hid ((HD1.out.gw hga).frg hf HX3.out.2.2.2.1 HX3.out.2.2.2.2.2.2.1)
      have HE2 := Lib.hid ((HD2.out.gw hga).frg hf HX3.out.2.2.2.2.2.1 HX3.out.2.2.2.2.2.2.2)
      have HE3 := Lib.hid hc3
      have HGC := Lib.hid (gw_fr (gw_trans HGB.out hga) HX3.out.2.1 hf)
      clear HD1 HD2 HD3 HGB hga hf hc3 hcv
      go_wp2_with fail
      go_loopw [16, 17] (fun v16 v17 wr => ∃ o : Int, -1 ≤ o ∧ o ≤ 205 ∧ v16 = .int .i64 o ∧ Hid (CameAt wr X1 g1 200 isn 200 CA ∧ CameAt wr X2 g2 200 isn 200 CA ∧ CameAt wr X3 g3 cp3 isn 200 CC ∧ Gw w wr)) (fun v16 _ _ => (205 - intOf v16).toNat)
      case atStart => exact ⟨-1, by omega, by omega, rfl, Lib.hid ⟨HE1.out, HE2.out, HE3.out, HGC.out⟩⟩
      case round =>
        obtain ⟨o, ho1, ho2, rfl, HJ⟩ := hrel
        clear HE1 HE2 HE3 HGC
        by_cases hlt : o < 205
        · have hM := HM.out o
          obtain ⟨na, hna⟩ : ∃ na, cnt (row 200 CA o) 256 = na := ⟨_, rfl⟩
          obtain ⟨nc, hnc⟩ : ∃ nc, cnt (row 200 CC o) 256 = nc := ⟨_, rfl⟩
          rw [hna, hnc] at hM
          have HNA := Lib.hid hna
          have HNC := Lib.hid hnc
          have z4 : decide (nc < na) = false := decide_eq_false (by omega)
          clear hna hnc
          obtain ⟨wo, hwo⟩ : ∃ wo : World, wo = wr := ⟨_, rfl⟩
          subst hwo
          go_wp2_with fail
          refine (many_eq HJ.out.1 o na HNA.out).mono ?_
          rintro e y1 ⟨rfl, hc1, hg⟩
          have h2 := Lib.hid (HJ.out.2.1.gw hg)
          have h3 := Lib.hid (HJ.out.2.2.1.gw hg)
          have hG := Lib.hid (gw_trans HJ.out.2.2.2 hg)
          have h1 := Lib.hid hc1
          clear hg hc1 HJ
          go_wp2_with fail
          refine (many_eq h2.out o na HNA.out).mono ?_
          rintro e y2 ⟨rfl, hc, hg⟩
          have k1 := Lib.hid (h1.out.gw hg)
          have k3 := Lib.hid (h3.out.gw hg)
          have kG := Lib.hid (gw_trans hG.out hg)
          have k2 := Lib.hid hc
          clear hg hc h1 h2 h3 hG
          go_wp2_with fail
          refine (many_eq k3.out o nc HNC.out).mono ?_
          rintro e y3 ⟨rfl, hc, hg⟩
          have h1 := Lib.hid (k1.out.gw hg)
          have h2 := Lib.hid (k2.out.gw hg)
          have hG := Lib.hid (gw_trans kG.out hg)
          have h3 := Lib.hid hc
          clear hg hc k1 k2 k3 kG
          go_wp2_with fail
          refine (many_eq h1.out o na HNA.out).mono ?_
          rintro e y4 ⟨rfl, hc, hg⟩
          have k2 := Lib.hid (h2.out.gw hg)
          have k3 := Lib.hid (h3.out.gw hg)
          have kG := Lib.hid (gw_trans hG.out hg)
          have k1 := Lib.hid hc
          clear hg hc h1 h2 h3 hG
          go_wp2_with fail
          go_loopw [17] (fun v17 wr => ∃ v : Nat, v ≤ 256 ∧ v17 = .int .i64 v ∧ Hid (CameAt wr X1 g1 200 isn 200 CA ∧ CameAt wr X2 g2 200 isn 200 CA ∧ CameAt wr X3 g3 cp3 isn 200 CC ∧ Gw w wr)) (fun v17 _ => 256 - (intOf v17).toNat)
          case atStart => exact ⟨0, by omega, rfl, Lib.hid ⟨k1.out, k2.out, k3.out, kG.out⟩⟩
          case round =>
            obtain ⟨v, hv, rfl, HJ⟩ := hrel
            clear k1 k2 k3 kG
            by_cases hv6 : v < 256
            · have z6 : (v : Int) < 256 := by omega
              by_cases hn0 : 0 < na
              · have z7 : (0 : Int) < na := by omega
                have z8 : (v : Int) % 256 = v := by omega
                obtain ⟨x, hx⟩ : ∃ x, row 200 CA o v = x := ⟨_, rfl⟩
                have HX := Lib.hid hx
                clear hx
                go_wp2_with fail
                refine (many_eq HJ.out.1 o na HNA.out).mono ?_
                rintro e x1 ⟨rfl, hc1, hg⟩
                have h2 := Lib.hid (HJ.out.2.1.gw hg)
                have h3 := Lib.hid (HJ.out.2.2.1.gw hg)
                have hG := Lib.hid (gw_trans HJ.out.2.2.2 hg)
                have h1 := Lib.hid hc1
                clear hg hc1 HJ
                go_wp2_with fail
                refine (has_eq h1.out o v hv6 x HX.out).mono ?_
                rintro e x2 ⟨rfl, hc, hg⟩
                have k2 := Lib.hid (h2.out.gw hg)
                have k3 := Lib.hid (h3.out.gw hg)
                have kG := Lib.hid (gw_trans hG.out hg)
                have k1 := Lib.hid hc
                clear hg hc h1 h2 h3 hG
                go_wp2_with fail
                refine (has_eq k2.out o v hv6 x HX.out).mono ?_
                rintro e x3 ⟨rfl, hc, hg⟩
                have h1 := Lib.hid (k1.out.gw hg)
                have h3 := Lib.hid (k3.out.gw hg)
                have hG := Lib.hid (gw_trans kG.out hg)
                have h2 := Lib.hid hc
                clear hg hc k1 k2 k3 kG HX
                go_wp2_with fail
                all_goals
                  go_roundw
                  case rel => exact ⟨v + 1, by omega, by go_num, Lib.hid ⟨h1.out, h2.out, h3.out, hG.out⟩⟩
                  case measure => simp [intOf]; omega
              · have z7 : ¬ (0 : Int) < na := by omega
                have z9 : decide (0 < na) = false := decide_eq_false hn0
                go_wp2_with fail
                refine (many_eq HJ.out.1 o na HNA.out).mono ?_
                rintro e x1 ⟨rfl, hc1, hg⟩
                have h2 := Lib.hid (HJ.out.2.1.gw hg)
                have h3 := Lib.hid (HJ.out.2.2.1.gw hg)
                have hG := Lib.hid (gw_trans HJ.out.2.2.2 hg)
                have h1 := Lib.hid hc1
                clear hg hc1 HJ
                go_wp2_with fail
                go_roundw
                case rel => exact ⟨o + 1, by omega, by omega, rfl, Lib.hid ⟨h1.out, h2.out, h3.out, hG.out⟩⟩
                case measure => simp [intOf]; omega
            · obtain rfl : v = 256 := by omega
              go_wp2_with fail
              go_roundw
              case rel => exact ⟨o + 1, by omega, by omega, rfl, Lib.hid HJ.out⟩
              case measure => simp [intOf]; omega
        · go_wp2_with fail
          refine (has_eq HJ.out.2.2.1 0 cb.toNat (by omega) true (by unfold row; rw [if_pos (by omega)]; exact HR.out.1)).mono ?_
          rintro e x1 ⟨rfl, hc, hg⟩
          have h3 := Lib.hid hc
          have hG := Lib.hid (gw_trans HJ.out.2.2.2 hg)
          clear hc hg HJ
          go_wp2_with fail
          refine (has_eq h3.out 2 cb.toNat (by omega) true (by unfold row; rw [if_pos (by omega)]; exact HR.out.2)).mono ?_
          rintro e x2 ⟨rfl, hc, hg⟩
          have hG2 := Lib.hid (gw_trans hG.out hg)
          clear hc hg
          go_wp2_with fail
          go_ret
          exact ⟨rfl, hG2.out⟩
end Go.Proofs.Ytmjajepdlopkiaa.Sh
