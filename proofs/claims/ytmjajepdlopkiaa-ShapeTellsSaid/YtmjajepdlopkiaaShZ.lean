/- The walk of ShapeTells. -/
import Derived.Test.YtmjajepdlopkiaaShY
namespace Go.Proofs.Ytmjajepdlopkiaa.Sh
open Go.RowKit
set_option linter.unusedVariables false
set_option linter.unusedSimpArgs false

theorem own_keep {w w' : World} {e size : Nat} {v : Value} {n : Nat} {xs : List Value} (h : Own w e size v n xs) (hb : ∀ j, v.ownBlock = some j → w'.heap[j]? = w.heap[j]?) : Own w' e size v n xs := by
  refine ⟨h.1, h.2.imp id ?_⟩
  rintro ⟨g, cap, cur, hv, h1, h2, h3⟩
  exact ⟨g, cap, cur, hv, h1, (hb g (by rw [hv]; rfl)).trans h2, h3⟩
theorem own_lt {w : World} {e size : Nat} {v : Value} {n : Nat} {xs : List Value} (h : Own w e size v n xs) {j : Nat} (hj : v.ownBlock = some j) : j < w.heap.size := by
  rcases h.2 with ⟨e, _⟩ | ⟨g, cap, cur, hv, _, hg, _⟩
  · rw [e] at hj; cases hj
  · rw [hv] at hj
    have hj := Option.some.inj hj
    subst hj
    exact (Array.getElem?_eq_some_iff.1 hg).1
theorem own_gw {w w' : World} {e size : Nat} {v : Value} {n : Nat} {xs : List Value} (h : Own w e size v n xs) (hg : Gw w w') : Own w' e size v n xs := own_keep h (fun j hj => hg.block j (own_lt h hj) (fun h => h))
open Go.RowKit in
/-- One byte as a string. -/
theorem buf1 (c : UInt8) (W : World) : (convert 53 9 (.slice (some ⟨W.heap.size, 0, none⟩) 1 1)).run Try.prog (W.alloc (.cells #[.int .u8 (c.toNat : Int)] 5)) = .ok (.string (bs [c])) (W.alloc (.cells #[.int .u8 (c.toNat : Int)] 5)) := by
  refine buf_str (l := [c]) ⟨by rw [World.size_alloc]; omega, fun j hj => ⟨?_, free12 (heap_alloc_new W _) j⟩⟩ rfl 1
  rw [World.cell?_alloc_new]
  have hj : j < 1 := hj
  obtain rfl : j = 0 := by omega
  rfl
set_option maxRecDepth 100000 in
set_option maxHeartbeats 16000000 in
theorem shapeTells (isn most fell : Int) (near : Nat) (hi : 0 ≤ isn ∧ isn < 4294967296) (hmo : -9223372036854775808 ≤ most ∧ most < 9223372036854775808) (hfe : -9223372036854775808 ≤ fell ∧ fell < 9223372036854775808) (hnear : near < 256)
    (A : Option Addr) (n C : Nat) (l0 : List Sg) (s0 s1 : ByteArray) (hs0 : s0.size ≤ 9223372036854775807) (hs1 : s1.size ≤ 9223372036854775807) (w : World) (hP : SegsIn w A n C l0) :
    Calls Try.prog 11 #[.agg #[.int .u32 isn, .int .i64 most, .int .i64 fell, .int .u8 near], .slice A n C, .agg #[.string s0, .string s1]] w fun e w' => e = .returned (.bool true) ∧ Gw w w' := by
  have HP := Lib.hid hP
  clear hP
  have a0 := cell_alloc_old (.cells #[.string s0, .string s1] 61) (cell12 (heap_alloc_new w (.cells #[.int .u32 isn, .int .i64 most, .int .i64 fell, .int .u8 near] 59)) 0 _ rfl)
  have a1 := cell_alloc_old (.cells #[.string s0, .string s1] 61) (cell12 (heap_alloc_new w (.cells #[.int .u32 isn, .int .i64 most, .int .i64 fell, .int .u8 near] 59)) 1 _ rfl)
  have a2 := cell_alloc_old (.cells #[.string s0, .string s1] 61) (cell12 (heap_alloc_new w (.cells #[.int .u32 isn, .int .i64 most, .int .i64 fell, .int .u8 near] 59)) 2 _ rfl)
  have a3 := cell_alloc_old (.cells #[.string s0, .string s1] 61) (cell12 (heap_alloc_new w (.cells #[.int .u32 isn, .int .i64 most, .int .i64 fell, .int .u8 near] 59)) 3 _ rfl)
  have hb := heap_alloc_new (w.alloc (.cells #[.int .u32 isn, .int .i64 most, .int .i64 fell, .int .u8 near] 59)) (.cells #[.string s0, .string s1] 61)
  rw [World.size_alloc] at hb
  have b0 := cell12 hb 0 _ rfl
  have b1 := cell12 hb 1 _ rfl
  have hg0 : Gw w ((w.alloc (.cells #[.int .u32 isn, .int .i64 most, .int .i64 fell, .int .u8 near] 59)).alloc (.cells #[.string s0, .string s1] 61)) := gw_trans (gw_alloc1 _ _) (gw_alloc1 _ _)
  clear hb
  go_enter Try.func11, Try.ntmps11
  go_wp2_with fail
  generalize (w.alloc (.cells #[.int .u32 isn, .int .i64 most, .int .i64 fell, .int .u8 near] 59)).alloc (.cells #[.string s0, .string s1] 61) = w0 at *
  go_quiet (fail)
  have hg1 := gw_drewN hg0 nq
  have A0 := Lib.hid (show (w0.drewN nq).cell? _ = _ from a0)
  have A1 := Lib.hid (show (w0.drewN nq).cell? _ = _ from a1)
  have B0 := Lib.hid (show (w0.drewN nq).cell? _ = _ from b0)
  have B1 := Lib.hid (show (w0.drewN nq).cell? _ = _ from b1)
  generalize w0.drewN nq = w1 at *
  obtain ⟨bx, hbx⟩ : ∃ bx, w.heap.size = bx := ⟨_, rfl⟩
  rw [hbx] at A0 A1 B0 B1 ⊢
  have HBX := Lib.hid hbx
  have HG1 := Lib.hid hg1
  clear a0 a1 a2 a3 b0 b1 hg0 hg1 hbx
  have x0 := A0.out
  have x1 := A1.out
  by_cases hbad : most < 1 ∨ 65536 < most
  · have HN1 := Lib.hid (newBad isn most hbad)
    have HN2 := Lib.hid (ref_bad isn most hbad)
    clear hbad
    go_wp2_with fail
    go_quiet (first | (go_at_call 28; exact Calls.quiet_of_same ((HN1.out _).mono fun _ _ ⟨he, hw⟩ => ⟨he, hw.symm⟩)) | (go_at_call 36; exact Calls.quiet_of_same ((HN2.out _).mono fun _ _ ⟨he, hw⟩ => ⟨he, hw.symm⟩)))
    have hg2 := gw_drewN HG1.out nq
    generalize w1.drewN nq = w2 at *
    go_wp2_with fail
    refine (works _).mono ?_
    rintro e w3 ⟨rfl, hg⟩
    go_wp2_with fail
    go_ret
    exact ⟨rfl, gw_trans hg2 hg⟩
  · obtain ⟨N, rfl⟩ := Int.eq_ofNat_of_zero_le (a := most) (by omega)
    have hN : 1 ≤ N ∧ N ≤ 65536 := by omega
    clear hbad
    go_wp2_with fail
    go_region_held3 (fun v => v.cell? ⟨bx, 0, none⟩ = some (.int .u32 isn) ∧ v.cell? ⟨bx, 1, none⟩ = some (.int .i64 N)) (first | exact ⟨cell_gw HRG.out (cell_gw HNG.out x0), cell_gw HRG.out (cell_gw HNG.out x1)⟩ | exact ⟨cell_gw HNG.out x0, cell_gw HNG.out x1⟩ | go_keep)
      (first | (go_at_call 28; refine (new_ isn N hN hi _).mono ?_; rintro e w2 ⟨X, g, rfl, hc, hX, hgg, hg⟩; have HC := Lib.hid hc; have HXG := Lib.hid (And.intro hX hgg); have HNG := Lib.hid hg; clear hc hX hgg hg) | (go_at_call 36; refine (ref_new isn N (by omega) _).mono ?_; rintro e w3 ⟨Y, rfl, hY, hg, hy⟩; have HY := Lib.hid (And.intro hY hy); have HRG := Lib.hid hg; clear hY hy hg))
    have hYX : X ≠ Y ∧ g ≠ Y := by have := HC.out.ltX; have := HC.out.ltg; have := HY.out.1; omega
    have HC3 := Lib.hid (HC.out.gw HRG.out)
    have HY3 := Lib.hid HY.out.2
    have HG3 := Lib.hid (gw_trans (gw_trans HG1.out.drew HNG.out) HRG.out)
    have hbx1 : bx + 1 < w1.heap.size := World.block_lt_of_cell? _ _ B0.out
    have HXY : Hid (X ≠ Y ∧ g ≠ Y ∧ g ≠ X ∧ bx + 1 < X ∧ bx + 1 < g ∧ bx + 1 < Y) := Lib.hid ⟨hYX.1, hYX.2, HC.out.ne, Nat.lt_of_lt_of_le hbx1 HXG.out.1, Nat.lt_of_lt_of_le hbx1 HXG.out.2, Nat.lt_of_lt_of_le hbx1 (Nat.le_trans HNG.out.size HY.out.1)⟩
    have A03 := Lib.hid (cell_gw HRG.out (cell_gw HNG.out x0))
    have B03 := Lib.hid (cell_gw HRG.out (cell_gw HNG.out (show w1.drew.cell? _ = _ from B0.out)))
    have B13 := Lib.hid (cell_gw HRG.out (cell_gw HNG.out (show w1.drew.cell? _ = _ from B1.out)))
    clear hYX hbx1 HC HY HXG HRG HNG HG1 A0 A1 B0 B1 x0 x1
    go_wp2_with fail
    refine (works _).mono ?_
    rintro e w4 ⟨rfl, hg⟩
    have HC4 := Lib.hid (HC3.out.gw hg)
    have HY4 := Lib.hid ((hg.block _ (Array.getElem?_eq_some_iff.1 HY3.out).1 (fun h => h)).trans HY3.out)
    have HG4 := Lib.hid (gw_trans HG3.out hg)
    have a04 := cell_gw hg A03.out
    have B04 := Lib.hid (cell_gw hg B03.out)
    have B14 := Lib.hid (cell_gw hg B13.out)
    clear HC3 HY3 HG3 A03 B03 B13 hg
    go_wp2_with fail
    refine (segs_ (l := l0) ⟨HP.out.segs.gw HG4.out, HP.out.ok⟩ isn hi near hnear).mono ?_
    rintro e w5 ⟨P, nr, Cr, l, rfl, ho, hll, hnr, hlok, hPb, hg⟩
    have HC5 := Lib.hid (HC4.out.gw hg)
    have HY5 := Lib.hid ((hg.block _ (Array.getElem?_eq_some_iff.1 HY4.out).1 (fun h => h)).trans HY4.out)
    have HG5 := Lib.hid (gw_trans HG4.out hg)
    have B05 := Lib.hid (cell_gw hg B04.out)
    have B15 := Lib.hid (cell_gw hg B14.out)
    have HO5 := Lib.hid ho
    have HPB : Hid (∀ j, (Value.slice P nr Cr).ownBlock = some j → j ≠ X ∧ j ≠ g ∧ j ≠ Y ∧ bx + 1 < j) := Lib.hid (fun j hj => by
      have h1 := hPb j hj
      have h6 := World.block_lt_of_cell? _ _ B04.out
      simp only at h6
      have h2 := HC4.out.ltX
      have h3 := HC4.out.ltg
      have h4 := (Array.getElem?_eq_some_iff.1 HY4.out).1
      have h5 := HG4.out.size
      omega)
    have HLL := Lib.hid hll
    have HLOK := Lib.hid hlok
    clear HC4 HY4 HG4 a04 B04 B14 hg ho hll hlok hPb
    go_wp2_with fail
    go_loopw [12] (fun v12 wr => ∃ (k : Nat) (PR : Option Addr) (CR : Nat), k ≤ nr ∧ v12 = .int .i64 k ∧ Hid (CameAt wr X g N isn N (allS isn (l.take k)) ∧ wr.heap[Y]? = some (.cells #[.int .u32 isn, .int .i64 N, .slice PR k CR] 66) ∧ Own wr 48 12 (.slice PR k CR) k (flat (l.take k)) ∧ Own wr 48 12 (.slice P nr Cr) nr (flat l) ∧ Gw w wr ∧
      (∀ j, (Value.slice PR k CR).ownBlock = some j → j ≠ X ∧ j ≠ g ∧ j ≠ Y ∧ (Value.slice P nr Cr).ownBlock ≠ some j ∧ bx + 1 < j) ∧ wr.cell? ⟨bx + 1, 0, none⟩ = some (.string s0) ∧ wr.cell? ⟨bx + 1, 1, none⟩ = some (.string s1))) (fun v12 _ => nr - (intOf v12).toNat)
    case atStart => exact ⟨0, none, 0, Nat.zero_le _, rfl, Lib.hid ⟨HC5.out.like (fun _ _ _ _ => rfl), HY5.out, World.ownsRow_nil _ _ _ _, HO5.out, HG5.out, by simp [Value.ownBlock], B05.out, B15.out⟩⟩
    case round =>
      obtain ⟨k, PR, CR, hk, rfl, HI⟩ := hrel
      clear HC5 HY5 HG5 B05 B15 HO5
      by_cases hkn : k < nr
      · have z0 : (k : Int) < nr := by omega
        have hkl : k < l.length := by rw [HLL.out]; exact hkn
        have hcr := (own_segs HI.out.2.2.2.1 HLL.out).2.1
        have hcr2 := (own_segs HI.out.2.2.2.1 HLL.out).2.2.1
        obtain ⟨gr, o, rfl, hat⟩ := (own_segs HI.out.2.2.2.1 HLL.out).at hkl
        have hok := HLOK.out _ (List.getElem_mem hkl)
        have htake : ∀ a b, allS isn (l.take (k + 1)) a b = (allS isn (l.take k) a b || bringsS isn l[k] a b) := allS_take isn l k hkl
        have htk : l.take (k + 1) = l.take k ++ [l[k]] := List.take_succ_eq_append_getElem hkl
        have HT := Lib.hid htake
        have HTK := Lib.hid htk
        clear htake htk
        generalize l[k] = x at *
        have HAT := Lib.hid hat
        obtain ⟨v0, v1, v2, sq, v4, syn, v6, v7, v8, v9, v10, data⟩ := x
        have r0 := hat 0 _ rfl; have r1 := hat 1 _ rfl; have r2 := hat 2 _ rfl; have r3 := hat 3 _ rfl
        have r4 := hat 4 _ rfl; have r5 := hat 5 _ rfl; have r6 := hat 6 _ rfl; have r7 := hat 7 _ rfl
        have r8 := hat 8 _ rfl; have r9 := hat 9 _ rfl; have r10 := hat 10 _ rfl; have r11 := hat 11 _ rfl
        simp only [Nat.add_zero] at r0 r1 r2 r3 r4 r5 r6 r7 r8 r9 r10 r11
        have hd60 : data.size ≤ 60 := hok.2
        have HADD : Hid (∀ W, CameAt W X g N isn N (allS isn (l.take k)) → Calls Try.prog 30 #[.pointer (some ⟨X, 0, none⟩), segA (.int .i64 v0) (.int .u16 v1) (.int .u16 v2) (.int .u32 v4) (.bool v6) (.bool v7) (.bool v8) (.int .u16 v9) (.string v10) sq syn data] W (AddP W X g N isn N (allS isn (l.take (k + 1))))) := Lib.hid (fun W hW => by
          cases syn with
          | true => exact (addSyn hW _ _ _ _ _ _ _ _ _ _ _).mono fun e w' ⟨h1, h2, h3⟩ => ⟨h1, h2.like (fun a b _ _ => by rw [HT.out]; unfold bringsS; simp), h3⟩
          | false => exact (add_ hW _ _ _ _ _ _ _ _ _ _ data (by omega)).mono fun e w' ⟨h1, h2, h3⟩ => ⟨h1, h2.like (fun a b _ _ => by rw [HT.out]; unfold und bringsS; simp), h3⟩)
        clear hat hok
        go_wp2_with fail
        refine (HADD.out _ HI.out.1).mono ?_
        rintro e w6 ⟨rfl, hc6, hf6⟩
        have HBL : Hid (w.heap.size ≤ g) := Lib.hid (by have := HXY.out.2.2.2.2.1; have := HBX.out; omega)
        have hgr : gr < wr.heap.size := World.block_lt_of_cell? _ _ r0
        have hat6 := HAT.out.blk (hf6.block gr hgr (HPB.out gr rfl).2.1)
        have HC6 := Lib.hid hc6
        have HY6 := Lib.hid ((hf6.block _ (Array.getElem?_eq_some_iff.1 HI.out.2.1).1 HXY.out.2.1.symm).trans HI.out.2.1)
        have HR6 := Lib.hid (own_keep HI.out.2.2.1 (fun j hj => hf6.block _ (own_lt HI.out.2.2.1 hj) (HI.out.2.2.2.2.2.1 j hj).2.1))
        have HO6 := Lib.hid (own_keep HI.out.2.2.2.1 (fun j hj => hf6.block _ (own_lt HI.out.2.2.2.1 hj) (HPB.out j hj).2.1))
        have HG6 := Lib.hid (gw_fr HI.out.2.2.2.2.1 HBL.out hf6)
        have HQ6 := Lib.hid HI.out.2.2.2.2.2.1
        have B06 := Lib.hid (cell_fr hf6 (by have := HXY.out.2.2.2.2.1; show bx + 1 ≠ g; omega) HI.out.2.2.2.2.2.2.1)
        have B16 := Lib.hid (cell_fr hf6 (by have := HXY.out.2.2.2.2.1; show bx + 1 ≠ g; omega) HI.out.2.2.2.2.2.2.2)
        clear hc6 hf6 HI HAT r0 r1 r2 r3 r4 r5 r6 r7 r8 r9 r10 r11 HADD hgr
        have r0 := hat6 0 _ rfl; have r1 := hat6 1 _ rfl; have r2 := hat6 2 _ rfl; have r3 := hat6 3 _ rfl
        have r4 := hat6 4 _ rfl; have r5 := hat6 5 _ rfl; have r6 := hat6 6 _ rfl; have r7 := hat6 7 _ rfl
        have r8 := hat6 8 _ rfl; have r9 := hat6 9 _ rfl; have r10 := hat6 10 _ rfl; have r11 := hat6 11 _ rfl
        simp only [Nat.add_zero] at r0 r1 r2 r3 r4 r5 r6 r7 r8 r9 r10 r11
        clear hat6
        have y2 := cell12 HY6.out 2 _ rfl
        have y2a := cell_alloc_old (.cells #[.int .i64 v0, .int .u16 v1, .int .u16 v2, .int .u32 sq, .int .u32 v4, .bool syn, .bool v6, .bool v7, .bool v8, .int .u16 v9, .string v10, .string data] 48) y2
        have HAPP : Hid (∃ v' w', (Builtin.append_ #[60, 60] 60 #[.slice PR k CR, .slice (some ⟨w6.heap.size, 0, none⟩) 1 1]).run Try.prog (w6.alloc (.cells #[.int .i64 v0, .int .u16 v1, .int .u16 v2, .int .u32 sq, .int .u32 v4, .bool syn, .bool v6, .bool v7, .bool v8, .int .u16 v9, .string v10, .string data] 48)).drew = .ok v' w' ∧ ∃ P2 C2, v' = .slice P2 (k + 1) C2 ∧
            Hid (Own w' 48 12 (.slice P2 (k + 1) C2) (k + 1) (flat (l.take (k + 1))) ∧ Fr (fun j => (Value.slice PR k CR).ownBlock = some j) w6 w' ∧ (∀ j, (Value.slice P2 (k + 1) C2).ownBlock = some j → j ≠ X ∧ j ≠ g ∧ j ≠ Y ∧ (Value.slice (some ⟨gr, o, none⟩) nr Cr).ownBlock ≠ some j ∧ bx + 1 < j) ∧
              w'.heap[Y]? = some (.cells #[.int .u32 isn, .int .i64 N, .slice PR k CR] 66))) := Lib.hid (by
          have hgw : Gw w6 (w6.alloc (.cells #[.int .i64 v0, .int .u16 v1, .int .u16 v2, .int .u32 sq, .int .u32 v4, .bool syn, .bool v6, .bool v7, .bool v8, .int .u16 v9, .string v10, .string data] 48)).drew := (gw_alloc1 w6 _).drew
          have hsrc : Src Try.prog 12 60 (.slice (some ⟨w6.heap.size, 0, none⟩) 1 1) 1 (cells ⟨v0, v1, v2, sq, v4, syn, v6, v7, v8, v9, v10, data⟩) (w6.alloc (.cells #[.int .i64 v0, .int .u16 v1, .int .u16 v2, .int .u32 sq, .int .u32 v4, .bool syn, .bool v6, .bool v7, .bool v8, .int .u16 v9, .string v10, .string data] 48)).drew := src_new (fun j u hu => by
            have := heap_alloc_new w6 (.cells #[.int .i64 v0, .int .u16 v1, .int .u16 v2, .int .u32 sq, .int .u32 v4, .bool syn, .bool v6, .bool v7, .bool v8, .int .u16 v9, .string v10, .string data] 48)
            rw [Nat.zero_add]
            refine cell12 this j u ?_
            simpa [cells] using hu)
          obtain ⟨P2, cap, w', h1, h2, h3, h4⟩ := app_seg (own_gw HR6.out hgw) 60 (.slice (some ⟨w6.heap.size, 0, none⟩) 1 1) ⟨v0, v1, v2, sq, v4, syn, v6, v7, v8, v9, v10, data⟩ hsrc (by omega)
          have hfr : Fr (fun j => (Value.slice PR k CR).ownBlock = some j) w6 w' := Fr.trans (hgw.mono (fun _ h => h.elim)) (Fr.of_grown h3) (fun _ _ h => h)
          refine ⟨_, w', h1, P2, cap, rfl, Lib.hid ⟨by rw [HTK.out]; exact h2, hfr, fun j hj => ?_, (hfr.block _ (Array.getElem?_eq_some_iff.1 HY6.out).1 (fun e => (HQ6.out Y e).2.2.1 rfl)).trans HY6.out⟩⟩
          rcases h4 with e | e
          · exact HQ6.out j (by rw [← e]; exact hj)
          · rw [hj, show (w6.alloc (.cells #[.int .i64 v0, .int .u16 v1, .int .u16 v2, .int .u32 sq, .int .u32 v4, .bool syn, .bool v6, .bool v7, .bool v8, .int .u16 v9, .string v10, .string data] 48)).drew.heap.size = w6.heap.size + 1 from World.size_alloc _ _] at e
            have e := Option.some.inj e
            have q1 := HC6.out.ltX
            have q2 := HC6.out.ltg
            have q3 := (Array.getElem?_eq_some_iff.1 HY6.out).1
            have q4 := World.block_lt_of_cell? _ _ B06.out
            refine ⟨by omega, by omega, by omega, fun e2 => ?_, by simp only at q4; omega⟩
            have := own_lt HO6.out e2
            omega)
        go_upto_region 12 with fail
        go_region_law (refine step_seg rfl (.tmp 70) (.tmp 75) rfl _ _ rfl rfl _ HAPP.out ?_; rintro v' w7 ⟨P2, C2, rfl, HN⟩; have y3 := cell12 HN.out.2.2.2 2 _ rfl; have f3 := free12 HN.out.2.2.2 2)
        all_goals
          have hY7 := heap_setCell_at (o := 2) HN.out.2.2.2 (.slice P2 (k + 1) C2)
          have hfY : Fr (fun j => (Value.slice PR k CR).ownBlock = some j ∨ j = Y) w6 (w7.setCell ⟨Y, 2, none⟩ (.slice P2 (k + 1) C2)) := (HN.out.2.1.mono (fun _ h => Or.inl h)).setCell _ _ (Or.inr rfl)
          have hNO : Own (w7.setCell ⟨Y, 2, none⟩ (.slice P2 (k + 1) C2)) 48 12 (.slice P2 (k + 1) C2) (k + 1) (flat (l.take (k + 1))) := own_keep HN.out.1 (fun j hj => Below.heap_setCell w7 ⟨Y, 2, none⟩ _ j (fun e => (HN.out.2.2.1 j hj).2.2.1 (by first | exact e | exact e.symm)))
          have hPO := own_keep HO6.out (fun j hj => hfY.block j (own_lt HO6.out hj) (fun e => e.elim (fun e => (HQ6.out j e).2.2.2.1 hj) (fun e => (HPB.out j hj).2.2.1 e)))
          have hC := HC6.out.keep (hfY.block X HC6.out.ltX (fun e => e.elim (fun e => (HQ6.out X e).1 rfl) (fun e => HXY.out.1 e))) (hfY.block g HC6.out.ltg (fun e => e.elim (fun e => (HQ6.out g e).2.1 rfl) (fun e => HXY.out.2.1 e)))
          have hG : Gw w (w7.setCell ⟨Y, 2, none⟩ (.slice P2 (k + 1) C2)) := Fr.trans HG6.out hfY (fun x hx e => by
            have q0 := HXY.out
            have q1 := HBX.out
            rcases e with e | e
            · have := (HQ6.out x e).2.2.2.2; show False; omega
            · show False; omega)
          have nB : ¬ ((Value.slice PR k CR).ownBlock = some (bx + 1) ∨ bx + 1 = Y) := fun e => by
            have q0 := HXY.out
            rcases e with e | e
            · have := (HQ6.out _ e).2.2.2.2; omega
            · omega
          have HNEW := Lib.hid (And.intro hC (And.intro hY7 (And.intro hNO (And.intro hPO (And.intro hG (And.intro HN.out.2.2.1 (And.intro (cell_fr (p := ⟨bx + 1, 0, none⟩) hfY nB B06.out) (cell_fr (p := ⟨bx + 1, 1, none⟩) hfY nB B16.out))))))))
          clear hY7 hfY hNO hPO hC hG nB
          go_wp2_with fail
          go_roundw
          case rel => exact ⟨k + 1, P2, C2, by omega, by go_num, HNEW⟩
          case measure => simp [intOf]; omega
      · obtain rfl : k = nr := by omega
        have b6 : decide (k < k) = false := by simp
        have htk : l.take k = l := List.take_of_length_le (by rw [HLL.out]; exact Nat.le_refl _)
        rw [htk] at HI
        have HREF : RefAt wr Y PR k CR isn N l := ⟨cell12 HI.out.2.1 0 _ rfl, cell12 HI.out.2.1 1 _ rfl, cell12 HI.out.2.1 2 _ rfl, own_segs HI.out.2.2.1 HLL.out, fun x hx => ⟨(HLOK.out x hx).1.sq, by have := (HLOK.out x hx).2; omega⟩, by omega, by omega, hi⟩
        obtain ⟨ff, hff⟩ : ∃ ff : ByteArray → ByteArray → Int → Bool, ∀ r t f, fitsF (fun off b => row N (allS isn l) off b) r.data.toList t.data.toList f = ff r t f := ⟨_, fun _ _ _ => rfl⟩
        obtain ⟨mc, hmc⟩ : ∃ mc : Int → Nat, ∀ off, cnt (row N (allS isn l) off) 256 = mc off := ⟨_, fun _ => rfl⟩
        obtain ⟨hq, hhq⟩ : ∃ hq : Int → Nat → Bool, ∀ off b, row N (allS isn l) off b = hq off b := ⟨_, fun _ _ => rfl⟩
        have HM1 : Hid (∀ W, Gw wr W → ∀ off : Int, Calls Try.prog 33 #[.pointer (some ⟨X, 0, none⟩), .int .i64 off] W fun e w' => e = .returned (.int .i64 (mc off : Nat)) ∧ Gw W w') := Lib.hid (fun W hW off => (many_eq (HI.out.1.gw hW) off _ (hmc off)).mono fun e w' h => ⟨h.1, h.2.2⟩)
        have HM2 : Hid (∀ W, Gw wr W → ∀ off : Int, -9223372036854775808 ≤ off ∧ off < 9223372036854775808 → Calls Try.prog 38 #[.pointer (some ⟨Y, 0, none⟩), .int .i64 off] W fun e w' => e = .returned (.int .i64 (mc off : Nat)) ∧ Gw W w') := Lib.hid (fun W hW off ho => (ref_many (HREF.gw hW) off ho).mono fun e w' h => ⟨h.1.trans (by rw [← hmc off]; rfl), h.2⟩)
        have HH1 : Hid (∀ W, Gw wr W → ∀ (off : Int) (b : Nat), b < 256 → Calls Try.prog 34 #[.pointer (some ⟨X, 0, none⟩), .int .i64 off, .int .u8 b] W fun e w' => e = .returned (.bool (hq off b)) ∧ Gw W w') := Lib.hid (fun W hW off b hb => (has_eq (HI.out.1.gw hW) off b hb _ (hhq off b)).mono fun e w' h => ⟨h.1, h.2.2⟩)
        have HH2 : Hid (∀ W, Gw wr W → ∀ (off : Int) (b : Nat), -9223372036854775808 ≤ off ∧ off < 9223372036854775808 → b < 256 → Calls Try.prog 39 #[.pointer (some ⟨Y, 0, none⟩), .int .i64 off, .int .u8 b] W fun e w' => e = .returned (.bool (hq off b)) ∧ Gw W w') := Lib.hid (fun W hW off b ho hb => (ref_has (HREF.gw hW) off ho b hb).mono fun e w' h => ⟨h.1.trans (by rw [← hhq off b]; rfl), h.2⟩)
        have HF1 : Hid (∀ W, Gw wr W → ∀ (r t : ByteArray) (f : Int), r.size ≤ 9223372036854775807 → t.size ≤ 9223372036854775807 → Calls Try.prog 35 #[.pointer (some ⟨X, 0, none⟩), .string r, .string t, .int .i64 f] W fun e w' => e = .returned (.bool (ff r t f)) ∧ Gw W w') := Lib.hid (fun W hW r t f hr ht => (fits_eq (HI.out.1.gw hW) r t f hr ht _ (hff r t f)).mono fun e w' h => ⟨h.1, h.2.2⟩)
        have HF2 : Hid (∀ W, Gw wr W → ∀ (r t : ByteArray) (f : Int), r.size ≤ 9223372036854775807 → t.size ≤ 9223372036854775807 → Calls Try.prog 40 #[.pointer (some ⟨Y, 0, none⟩), .string r, .string t, .int .i64 f] W fun e w' => e = .returned (.bool (ff r t f)) ∧ Gw W w') := Lib.hid (fun W hW r t f hr ht => (ref_fits (HREF.gw hW) r t f hr ht).mono fun e w' h => ⟨h.1.trans (by rw [← hff r t f]; rfl), h.2⟩)
        have b0 := HI.out.2.2.2.2.2.2.1
        have b1 := HI.out.2.2.2.2.2.2.2
        have HG := Lib.hid HI.out.2.2.2.2.1
        clear HI HREF hmc hhq hff htk HPB HLL HLOK HBX HXY
        have hm0 : ∃ q : Nat, (if 100 < (s0.size : Int) then (100 : Int) else s0.size) = q ∧ q ≤ 100 ∧ q ≤ s0.size := by
          by_cases h : 100 < (s0.size : Int)
          · exact ⟨100, by rw [if_pos h]; rfl, by omega, by omega⟩
          · exact ⟨s0.size, by rw [if_neg h], by omega, by omega⟩
        obtain ⟨q0, hq0, hq0a, hq0b⟩ := hm0
        have hm1 : ∃ q : Nat, (if 100 < (s1.size : Int) then (100 : Int) else s1.size) = q ∧ q ≤ 100 ∧ q ≤ s1.size := by
          by_cases h : 100 < (s1.size : Int)
          · exact ⟨100, by rw [if_pos h]; rfl, by omega, by omega⟩
          · exact ⟨s1.size, by rw [if_neg h], by omega, by omega⟩
        obtain ⟨q1, hq1, hq1a, hq1b⟩ := hm1
        have zq0 : (q0 : Int) ≤ s0.size := by omega
        have zq1 : (q1 : Int) ≤ s1.size := by omega
        go_wp2_with fail
        go_quiet (fail)
        have hgq := gw_drewN (Fr.refl (fun _ => False) wr) nq
        have hr0s : (s0.extract 0 q0).size ≤ 100 := by rw [ByteArray.size_extract]; omega
        have hr1s : (s1.extract 0 q1).size ≤ 100 := by rw [ByteArray.size_extract]; omega
        clear hq0 hq1 zq0 zq1 b0 b1
        generalize s0.extract 0 q0 = r0 at *
        generalize s1.extract 0 q1 = r1 at *
        clear hq0b hq1b hq0a hq1a
        generalize wr.drewN nq = wz at *
        have HGZ := Lib.hid hgq
        clear hgq
        obtain ⟨nb, hnb⟩ : ∃ nb : UInt8, nb.toNat = near := ⟨UInt8.ofNat near, by simp; omega⟩
        subst hnb
        obtain ⟨wb, rfl⟩ : ∃ wb, wb = wr := ⟨_, rfl⟩
        go_wp2_with fail
        go_loopw [15, 16] (fun v15 v16 wr => ∃ (o : Int) (made : ByteArray), -2 ≤ o ∧ o ≤ 70 ∧ (made.size : Int) ≤ o + 2 ∧ v16 = .int .i64 o ∧ v15 = .string made ∧ Hid (Gw wb wr)) (fun _ v16 _ => (70 - intOf v16).toNat)
        case atStart => exact ⟨-2, ⟨#[]⟩, by omega, by omega, by decide, rfl, rfl, HGZ⟩
        case round =>
          obtain ⟨o, made, ho1, ho2, hms, rfl, rfl, HJ⟩ := hrel
          clear HGZ
          by_cases hlt : o < 70
          · obtain ⟨c, hc⟩ : ∃ c, mc o = c := ⟨_, rfl⟩
            have HC := Lib.hid hc
            clear hc
            go_wp2_with fail
            refine (HM1.out _ HJ.out o).mono ?_
            rw [HC.out]
            rintro e x1 ⟨rfl, hg⟩
            have HG1 := Lib.hid (gw_trans HJ.out hg)
            clear hg HJ
            go_wp2_with fail
            refine (HM2.out _ HG1.out o ⟨by omega, by omega⟩).mono ?_
            rw [HC.out]
            rintro e x2 ⟨rfl, hg⟩
            have HG2 := Lib.hid (gw_trans HG1.out hg)
            clear hg HG1
            go_wp2_with fail
            go_loopw [18, 19] (fun v18 v19 wr => ∃ (b : Nat) (la : UInt8), b ≤ 256 ∧ v18 = .int .u8 (la.toNat : Int) ∧ v19 = .int .i64 b ∧ Hid (Gw wb wr)) (fun _ v19 _ => 256 - (intOf v19).toNat)
            case atStart => exact ⟨0, nb, by omega, rfl, rfl, HG2⟩
            case round =>
              obtain ⟨b, la, hb, rfl, rfl, HJ⟩ := hrel
              clear HG2
              by_cases hc0 : 0 < c
              · have zc : (0 : Int) < c := by omega
                by_cases hbl : b < 256
                · obtain ⟨b8, hb8⟩ : ∃ b8 : UInt8, b8.toNat = b := ⟨UInt8.ofNat b, by simp; omega⟩
                  subst hb8
                  have z0 : (b8.toNat : Int) < 256 := by omega
                  have z1 : (b8.toNat : Int) % 256 = b8.toNat := by omega
                  obtain ⟨x, hx⟩ : ∃ x, hq o b8.toNat = x := ⟨_, rfl⟩
                  have HX := Lib.hid hx
                  clear hx
                  go_wp2_with fail
                  refine (HH1.out _ HJ.out o b8.toNat hbl).mono ?_
                  rw [HX.out]
                  rintro e x3 ⟨rfl, hg⟩
                  have HG3 := Lib.hid (gw_trans HJ.out hg)
                  clear hg HJ
                  go_wp2_with fail
                  refine (HH2.out _ HG3.out o b8.toNat ⟨by omega, by omega⟩ hbl).mono ?_
                  rw [HX.out]
                  rintro e x4 ⟨rfl, hg⟩
                  have HG4 := Lib.hid (gw_trans HG3.out hg)
                  clear hg HG3
                  go_wp2_with fail
                  refine (HH2.out _ HG4.out o b8.toNat ⟨by omega, by omega⟩ hbl).mono ?_
                  rw [HX.out]
                  rintro e x5 ⟨rfl, hg⟩
                  have HG5 := Lib.hid (gw_trans HG4.out hg)
                  clear hg HG4
                  cases x with
                  | true =>
                    go_wp2_with fail
                    go_roundw
                    case rel => exact ⟨b8.toNat + 1, b8, by omega, rfl, by go_num, HG5⟩
                    case measure => simp [intOf]; omega
                  | false =>
                    go_wp2_with fail
                    go_roundw
                    case rel => exact ⟨b8.toNat + 1, la, by omega, rfl, by go_num, HG5⟩
                    case measure => simp [intOf]; omega
                · obtain rfl : b = 256 := by omega
                  by_cases h0 : 0 ≤ o
                  · by_cases hmo : (made.size : Int) = o
                    · subst hmo
                      have hcv := buf1 la wr
                      go_wp2_with fail
                      go_roundw
                      case rel => exact ⟨(made.size : Int) + 1, made ++ bs [la], by omega, by omega, by rw [ByteArray.size_append, show (bs [la]).size = 1 from rfl]; omega, by first | rfl | go_num, rfl, Lib.hid (gw_trans HJ.out (gw_alloc1 _ _))⟩
                      case measure => simp [intOf]; omega
                    · have b1 : ((made.size : Int) == o) = false := by rw [beq_eq_false_iff_ne]; exact hmo
                      go_wp2_with fail
                      go_roundw
                      case rel => exact ⟨o + 1, made, by omega, by omega, by omega, by first | rfl | go_num, rfl, HJ⟩
                      case measure => simp [intOf]; omega
                  · have b1 : decide (0 ≤ o) = false := decide_eq_false h0
                    go_wp2_with fail
                    go_roundw
                    case rel => exact ⟨o + 1, made, by omega, by omega, by omega, by first | rfl | go_num, rfl, HJ⟩
                    case measure => simp [intOf]; omega
              · obtain rfl : c = 0 := by omega
                by_cases hbl : b < 256
                · have z0 : (b : Int) < 256 := by omega
                  by_cases h0 : 0 ≤ o
                  · by_cases hmo : (made.size : Int) = o
                    · subst hmo
                      go_wp2_with fail
                      go_roundw
                      case rel => exact ⟨(made.size : Int) + 1, made, by omega, by omega, by omega, by first | rfl | go_num, rfl, HJ⟩
                      case measure => simp [intOf]; omega
                    · have b1 : ((made.size : Int) == o) = false := by rw [beq_eq_false_iff_ne]; exact hmo
                      go_wp2_with fail
                      go_roundw
                      case rel => exact ⟨o + 1, made, by omega, by omega, by omega, by first | rfl | go_num, rfl, HJ⟩
                      case measure => simp [intOf]; omega
                  · have b1 : decide (0 ≤ o) = false := decide_eq_false h0
                    go_wp2_with fail
                    go_roundw
                    case rel => exact ⟨o + 1, made, by omega, by omega, by omega, by first | rfl | go_num, rfl, HJ⟩
                    case measure => simp [intOf]; omega
                · obtain rfl : b = 256 := by omega
                  by_cases h0 : 0 ≤ o
                  · by_cases hmo : (made.size : Int) = o
                    · subst hmo
                      go_wp2_with fail
                      go_roundw
                      case rel => exact ⟨(made.size : Int) + 1, made, by omega, by omega, by omega, by first | rfl | go_num, rfl, HJ⟩
                      case measure => simp [intOf]; omega
                    · have b1 : ((made.size : Int) == o) = false := by rw [beq_eq_false_iff_ne]; exact hmo
                      go_wp2_with fail
                      go_roundw
                      case rel => exact ⟨o + 1, made, by omega, by omega, by omega, by first | rfl | go_num, rfl, HJ⟩
                      case measure => simp [intOf]; omega
                  · have b1 : decide (0 ≤ o) = false := decide_eq_false h0
                    go_wp2_with fail
                    go_roundw
                    case rel => exact ⟨o + 1, made, by omega, by omega, by omega, by first | rfl | go_num, rfl, HJ⟩
                    case measure => simp [intOf]; omega
          · obtain rfl : o = 70 := by omega
            go_wp2_with fail
            generalize wrap64 ((IntKind.u64.wrap fell).tmod 20) = v
            go_loopw [157] (fun v157 wr => ∃ i : Int, 0 ≤ i ∧ i ≤ 4 ∧ v157 = .int .i64 i ∧ Hid (Gw wb wr)) (fun v157 _ => (4 - intOf v157).toNat)
            case atStart => exact ⟨0, by omega, by omega, rfl, HJ⟩
            case round =>
              obtain ⟨i, hi0, hi4, rfl, HI⟩ := hrel
              clear HJ
              by_cases hil : i < 4
              · obtain ⟨f, hf⟩ : ∃ f : Int, ∀ w, (Instr.index 68 (.agg #[.int .i64 fell, .int .i64 v, .int .i64 (-1), .int .i64 (made.size : Int)]) (.int .i64 i)).run Try.prog w = .ok (.int .i64 f) w := by
                  obtain rfl | rfl | rfl | rfl : i = 0 ∨ i = 1 ∨ i = 2 ∨ i = 3 := by omega
                  · exact ⟨fell, fun _ => by kernel_rfl⟩
                  · exact ⟨v, fun _ => by kernel_rfl⟩
                  · exact ⟨(-1), fun _ => by kernel_rfl⟩
                  · exact ⟨(made.size : Int), fun _ => by kernel_rfl⟩
                obtain ⟨x, hx⟩ : ∃ x, (if (made.size : Int) < f then (made.size : Int) else f) = x := ⟨_, rfl⟩
                have hxle : x ≤ made.size := by rw [← hx]; split <;> omega
                obtain ⟨m, hm, hml⟩ : ∃ m : Nat, (if 0 < x then x else 0) = (m : Int) ∧ m ≤ made.size := by
                  by_cases h : 0 < x
                  · exact ⟨x.toNat, by rw [if_pos h]; omega, by omega⟩
                  · exact ⟨0, by rw [if_neg h]; rfl, by omega⟩
                obtain ⟨q, hq1, hq2, hqm, hql⟩ : ∃ q : Nat, (if (r1.size : Int) < (m : Int) then (r1.size : Int) else (m : Int)) = q ∧ (if r1.size < m then (r1.size : Int) else (m : Int)) = q ∧ q ≤ m ∧ q ≤ r1.size := by
                  by_cases h : r1.size < m
                  · exact ⟨r1.size, by rw [if_pos (by omega)], by rw [if_pos h], by omega, by omega⟩
                  · exact ⟨m, by rw [if_neg (by omega)], by rw [if_neg h], by omega, by omega⟩
                have zm : (m : Int) ≤ made.size := by omega
                have zq : (q : Int) ≤ r1.size := by omega
                go_wp2_with fail
                go_quiet (fail)
                have HI := Lib.hid (gw_drewN HI.out nq)
                generalize wr.drewN nq = wr2 at *
                go_wp2_with fail
                · skip
                  refine (HF1.out _ HI.out _ _ _ (by first | omega | (simp only [ByteArray.size_append, ByteArray.size_extract]; omega)) (by first | omega | (simp only [ByteArray.size_append, ByteArray.size_extract]; omega))).mono ?_
                  rintro e y0 ⟨rfl, hg⟩
                  have HV0 := Lib.hid (gw_trans HI.out hg)
                  clear hg HI
                  go_wp2_with fail
                  refine (HF2.out _ HV0.out _ _ _ (by first | omega | (simp only [ByteArray.size_append, ByteArray.size_extract]; omega)) (by first | omega | (simp only [ByteArray.size_append, ByteArray.size_extract]; omega))).mono ?_
                  rintro e y1 ⟨rfl, hg⟩
                  have HV1 := Lib.hid (gw_trans HV0.out hg)
                  clear hg HV0
                  go_wp2_with fail
                  refine (HF1.out _ HV1.out _ _ _ (by first | omega | (simp only [ByteArray.size_append, ByteArray.size_extract]; omega)) (by first | omega | (simp only [ByteArray.size_append, ByteArray.size_extract]; omega))).mono ?_
                  rintro e y2 ⟨rfl, hg⟩
                  have HV2 := Lib.hid (gw_trans HV1.out hg)
                  clear hg HV1
                  go_wp2_with fail
                  refine (HF2.out _ HV2.out _ _ _ (by first | omega | (simp only [ByteArray.size_append, ByteArray.size_extract]; omega)) (by first | omega | (simp only [ByteArray.size_append, ByteArray.size_extract]; omega))).mono ?_
                  rintro e y3 ⟨rfl, hg⟩
                  have HV3 := Lib.hid (gw_trans HV2.out hg)
                  clear hg HV2
                  go_wp2_with fail
                  refine (HF1.out _ HV3.out _ _ _ (by first | omega | (simp only [ByteArray.size_append, ByteArray.size_extract]; omega)) (by first | omega | (simp only [ByteArray.size_append, ByteArray.size_extract]; omega))).mono ?_
                  rintro e y4 ⟨rfl, hg⟩
                  have HV4 := Lib.hid (gw_trans HV3.out hg)
                  clear hg HV3
                  go_wp2_with fail
                  refine (HF2.out _ HV4.out _ _ _ (by first | omega | (simp only [ByteArray.size_append, ByteArray.size_extract]; omega)) (by first | omega | (simp only [ByteArray.size_append, ByteArray.size_extract]; omega))).mono ?_
                  rintro e y5 ⟨rfl, hg⟩
                  have HV5 := Lib.hid (gw_trans HV4.out hg)
                  clear hg HV4
                  go_wp2_with fail
                  refine (HF1.out _ HV5.out _ _ _ (by first | omega | (simp only [ByteArray.size_append, ByteArray.size_extract]; omega)) (by first | omega | (simp only [ByteArray.size_append, ByteArray.size_extract]; omega))).mono ?_
                  rintro e y6 ⟨rfl, hg⟩
                  have HV6 := Lib.hid (gw_trans HV5.out hg)
                  clear hg HV5
                  go_wp2_with fail
                  refine (HF2.out _ HV6.out _ _ _ (by first | omega | (simp only [ByteArray.size_append, ByteArray.size_extract]; omega)) (by first | omega | (simp only [ByteArray.size_append, ByteArray.size_extract]; omega))).mono ?_
                  rintro e y7 ⟨rfl, hg⟩
                  have HV7 := Lib.hid (gw_trans HV6.out hg)
                  clear hg HV6
                  go_wp2_with fail
                  go_roundw
                  case rel => exact ⟨i + 1, by omega, by omega, by first | rfl | go_num, HV7⟩
                  case measure => simp [intOf]; omega
              · obtain rfl : i = 4 := by omega
                clear hil
                go_wp2_with fail
                go_ret
                exact ⟨rfl, gw_trans HG.out HI.out⟩
end Go.Proofs.Ytmjajepdlopkiaa.Sh
