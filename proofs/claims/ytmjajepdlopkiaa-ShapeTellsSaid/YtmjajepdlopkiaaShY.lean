/- segs. -/
import Derived.Test.YtmjajepdlopkiaaShX
namespace Go.Proofs.Ytmjajepdlopkiaa.Sh
open Go.RowKit
set_option linter.unusedVariables false
set_option linter.unusedSimpArgs false

/-- Segments of the caller's, that lie in memory. -/
structure SegsIn (w : World) (A : Option Addr) (n C : Nat) (l : List Sg) : Prop where
  segs : Segs w A n C l
  ok : ∀ x ∈ l, x.Ok
/-- What segs answers: a row of the call's own. -/
def SegsP (w : World) (e : Ending) (w' : World) : Prop :=
  ∃ (P : Option Addr) (n C : Nat) (l : List Sg), e = .returned (.slice P n C) ∧ Own w' 48 12 (.slice P n C) n (flat l) ∧ l.length = n ∧ n ≤ 30 ∧ (∀ x ∈ l, x.Ok ∧ x.data.size ≤ 60) ∧ (∀ k, (Value.slice P n C).ownBlock = some k → w.heap.size ≤ k) ∧ Gw w w'
set_option maxRecDepth 100000 in
set_option maxHeartbeats 8000000 in
theorem segs_ {w : World} {A : Option Addr} {n C : Nat} {l : List Sg} (h : SegsIn w A n C l) (isn : Int) (hi : 0 ≤ isn ∧ isn < 4294967296) (near : Nat) (hnear : near < 256) :
    Calls Try.prog 37 #[.slice A n C, .int .u32 isn, .int .u8 near] w (SegsP w) := by
  have hCm := h.segs.2.2.1
  have hnC := h.segs.2.1
  have H := Lib.hid h
  clear h
  go_enter Try.func37, Try.ntmps37
  go_wp2_with fail
  go_loopg [7, 8] 30 (fun kx v7 v8 wr => ∃ (k : Nat) (P : Option Addr) (C' : Nat) (l' : List Sg), k ≤ n ∧ k ≤ 30 ∧ 30 - k ≤ kx ∧ v8 = .int .i64 k ∧ v7 = .slice P k C' ∧ Hid (Own wr 48 12 (.slice P k C') k (flat l') ∧ l'.length = k ∧ (∀ x ∈ l', x.Ok ∧ x.data.size ≤ 60) ∧ (∀ j, (Value.slice P k C').ownBlock = some j → w.heap.size ≤ j) ∧ Gw w wr))
  case atStart => exact ⟨0, none, 0, [], by omega, by omega, by omega, rfl, rfl, Lib.hid ⟨World.ownsRow_nil _ _ _ _, rfl, by simp, by simp [Value.ownBlock], Fr.refl _ _⟩⟩
  case round =>
    obtain ⟨k, P, C', l', hk, hk3, hkx, rfl, rfl, HI⟩ := hrel
    by_cases hkn : k < n
    · have z0 : (k : Int) < n := by omega
      by_cases h30 : k < 30
      · have z3 : (k : Int) < 30 := by omega
        have hkl : k < l.length := by rw [H.out.segs.1]; exact hkn
        obtain ⟨g, o, rfl, hat⟩ := H.out.segs.at hkl
        have hok := H.out.ok _ (List.getElem_mem hkl)
        generalize l[k] = x at *
        have hat : SegAt wr g (o + k * 12) x := fun j u hu => cell_gw HI.out.2.2.2.2 (hat j u hu)
        obtain ⟨v0, v1, v2, sq, v4, syn, v6, v7, v8, v9, v10, data⟩ := x
        have s0 := hat 0 _ rfl; have s1 := hat 1 _ rfl; have s2 := hat 2 _ rfl; have s3 := hat 3 _ rfl
        have s4 := hat 4 _ rfl; have s5 := hat 5 _ rfl; have s6 := hat 6 _ rfl; have s7 := hat 7 _ rfl
        have s8 := hat 8 _ rfl; have s9 := hat 9 _ rfl; have s10 := hat 10 _ rfl; have s11 := hat 11 _ rfl
        simp only [Nat.add_zero] at s0 s1 s2 s3 s4 s5 s6 s7 s8 s9 s10 s11
        have hdz : data.size ≤ 9223372036854775807 := hok.data
        have hmk : ∃ q : Nat, (if 60 < (data.size : Int) then (60 : Int) else data.size) = q ∧ q ≤ 60 ∧ q ≤ data.size := by
          by_cases h : 60 < (data.size : Int)
          · exact ⟨60, by rw [if_pos h]; rfl, by omega, by omega⟩
          · exact ⟨data.size, by rw [if_neg h], by omega, by omega⟩
        obtain ⟨q, hq, hq1, hq2⟩ := hmk
        have zq : (q : Int) ≤ data.size := by omega
        have hsq : 0 ≤ sq ∧ sq < 4294967296 := hok.sq
        have HOK := Lib.hid hok
        clear hat hok
        obtain ⟨rr, hrr⟩ : ∃ rr : Nat, (near : Int) % ((k : Int) + 2) = rr := ⟨near % (k + 2), rfl⟩
        by_cases hr1 : rr = 1
        · subst hr1
          go_upto_region 9 with fail
          have hg2 : Gw wr ((wr.alloc (.cells #[.int .i64 v0, .int .u16 v1, .int .u16 v2, .int .u32 sq, .int .u32 v4, .bool syn, .bool v6, .bool v7, .bool v8, .int .u16 v9, .string v10, .string (data.extract 0 q)] 48)).alloc (.cells #[.int .i64 v0, .int .u16 v1, .int .u16 v2, .int .u32 sq, .int .u32 v4, .bool syn, .bool v6, .bool v7, .bool v8, .int .u16 v9, .string v10, .string (data.extract 0 q)] 48)) := gw_trans (gw_alloc1 _ _) (gw_alloc1 _ _)
          have hsrc : Src Try.prog 12 60 (.slice (some ⟨wr.heap.size + 1, 0, none⟩) 1 1) 1 (cells ⟨v0, v1, v2, sq, v4, syn, v6, v7, v8, v9, v10, data.extract 0 q⟩) ((wr.alloc (.cells #[.int .i64 v0, .int .u16 v1, .int .u16 v2, .int .u32 sq, .int .u32 v4, .bool syn, .bool v6, .bool v7, .bool v8, .int .u16 v9, .string v10, .string (data.extract 0 q)] 48)).alloc (.cells #[.int .i64 v0, .int .u16 v1, .int .u16 v2, .int .u32 sq, .int .u32 v4, .bool syn, .bool v6, .bool v7, .bool v8, .int .u16 v9, .string v10, .string (data.extract 0 q)] 48)) := src_new (fun j u hu => by
            have := heap_alloc_new (wr.alloc (.cells #[.int .i64 v0, .int .u16 v1, .int .u16 v2, .int .u32 sq, .int .u32 v4, .bool syn, .bool v6, .bool v7, .bool v8, .int .u16 v9, .string v10, .string (data.extract 0 q)] 48)) (.cells #[.int .i64 v0, .int .u16 v1, .int .u16 v2, .int .u32 sq, .int .u32 v4, .bool syn, .bool v6, .bool v7, .bool v8, .int .u16 v9, .string v10, .string (data.extract 0 q)] 48)
            rw [World.size_alloc] at this
            rw [Nat.zero_add]
            refine cell12 this j u ?_
            simpa [cells] using hu)
          have hsz2 : ((wr.alloc (.cells #[.int .i64 v0, .int .u16 v1, .int .u16 v2, .int .u32 sq, .int .u32 v4, .bool syn, .bool v6, .bool v7, .bool v8, .int .u16 v9, .string v10, .string (data.extract 0 q)] 48)).alloc (.cells #[.int .i64 v0, .int .u16 v1, .int .u16 v2, .int .u32 sq, .int .u32 v4, .bool syn, .bool v6, .bool v7, .bool v8, .int .u16 v9, .string v10, .string (data.extract 0 q)] 48)).heap.size = wr.heap.size + 2 := by rw [World.size_alloc, World.size_alloc]
          have HG2 := Lib.hid hg2
          have HSRC := Lib.hid hsrc
          have HSZ := Lib.hid hsz2
          have HOW : Hid (Own ((wr.alloc (.cells #[.int .i64 v0, .int .u16 v1, .int .u16 v2, .int .u32 sq, .int .u32 v4, .bool syn, .bool v6, .bool v7, .bool v8, .int .u16 v9, .string v10, .string (data.extract 0 q)] 48)).alloc (.cells #[.int .i64 v0, .int .u16 v1, .int .u16 v2, .int .u32 sq, .int .u32 v4, .bool syn, .bool v6, .bool v7, .bool v8, .int .u16 v9, .string v10, .string (data.extract 0 q)] 48)) 48 12 (.slice P k C') k (flat l')) := Lib.hid ((HI.out.1.alloc _).alloc _)
          clear hg2 hsrc hsz2
          go_wp2_with (at_builtin; refine wpList_seg rfl (.tmp 46) (.tmp 48) rfl (.slice P k C') (.slice (some ⟨wr.heap.size + 1, 0, none⟩) 1 1) rfl rfl (fun v' w' => ∃ P2 C2, v' = .slice P2 (k + 1) C2 ∧ Own w' 48 12 (.slice P2 (k + 1) C2) (k + 1) (flat (l' ++ [⟨v0, v1, v2, sq, v4, syn, v6, v7, v8, v9, v10, data.extract 0 q⟩])) ∧ ((wr.alloc (.cells #[.int .i64 v0, .int .u16 v1, .int .u16 v2, .int .u32 sq, .int .u32 v4, .bool syn, .bool v6, .bool v7, .bool v8, .int .u16 v9, .string v10, .string (data.extract 0 q)] 48)).alloc (.cells #[.int .i64 v0, .int .u16 v1, .int .u16 v2, .int .u32 sq, .int .u32 v4, .bool syn, .bool v6, .bool v7, .bool v8, .int .u16 v9, .string v10, .string (data.extract 0 q)] 48)).grownBy w' (Value.slice P k C').ownBlock ∧ ((Value.slice P2 (k + 1) C2).ownBlock = (Value.slice P k C').ownBlock ∨ (Value.slice P2 (k + 1) C2).ownBlock = some ((wr.alloc (.cells #[.int .i64 v0, .int .u16 v1, .int .u16 v2, .int .u32 sq, .int .u32 v4, .bool syn, .bool v6, .bool v7, .bool v8, .int .u16 v9, .string v10, .string (data.extract 0 q)] 48)).alloc (.cells #[.int .i64 v0, .int .u16 v1, .int .u16 v2, .int .u32 sq, .int .u32 v4, .bool syn, .bool v6, .bool v7, .bool v8, .int .u16 v9, .string v10, .string (data.extract 0 q)] 48)).heap.size)) (by obtain ⟨P2, cap, w', h1, h2, h3, h4⟩ := app_seg HOW.out 60 (.slice (some ⟨wr.heap.size + 1, 0, none⟩) 1 1) ⟨v0, v1, v2, sq, v4, syn, v6, v7, v8, v9, v10, data.extract 0 q⟩ HSRC.out (by omega); exact ⟨_, w', h1, P2, cap, rfl, h2, h3, h4⟩) ?_; rintro v' w' ⟨P2, C2, rfl, ho, hgr, hat2⟩; have HOO := Lib.hid ho; have HGR := Lib.hid hgr; have HAT := Lib.hid hat2; clear ho hgr hat2)
          have hgn : Gw w w' := Fr.trans (gw_trans HI.out.2.2.2.2 HG2.out) (Fr.of_grown HGR.out) (fun x hx e => by have := HI.out.2.2.2.1 x e; show False; omega)
          have hbn : ∀ j, (Value.slice P2 (k + 1) C2).ownBlock = some j → w.heap.size ≤ j := fun j hj => by
            rcases HAT.out with e | e
            · exact HI.out.2.2.2.1 j (by rw [← e]; exact hj)
            · rw [hj, HSZ.out] at e
              have e := Option.some.inj e
              have := HI.out.2.2.2.2.size; omega
          have hall : ∀ x ∈ l' ++ [(⟨v0, v1, v2, sq, v4, syn, v6, v7, v8, v9, v10, data.extract 0 q⟩ : Sg)], x.Ok ∧ x.data.size ≤ 60 := fun x hx => by
            rcases List.mem_append.1 hx with hx | hx
            · exact HI.out.2.2.1 x hx
            · simp only [List.mem_singleton] at hx
              subst hx
              exact ⟨⟨hsq, by show (data.extract 0 q).size ≤ _; rw [ByteArray.size_extract]; omega⟩, by show (data.extract 0 q).size ≤ _; rw [ByteArray.size_extract]; omega⟩
          go_roundg (30 - (k + 1))
          case measure => omega
          case rel => exact ⟨k + 1, P2, C2, l' ++ [⟨v0, v1, v2, sq, v4, syn, v6, v7, v8, v9, v10, data.extract 0 q⟩], by omega, by omega, by omega, by go_num, rfl, Lib.hid ⟨HOO.out, by rw [List.length_append, HI.out.2.1]; rfl, hall, hbn, hgn⟩⟩
        · have b1 : ((rr : Int) != 1) = true := by rw [bne_iff_ne]; omega
          have b2 : (rr != 1) = true := by rw [bne_iff_ne]; exact hr1
          go_upto_region 9 with fail
          have hg2 : Gw wr ((wr.alloc (.cells #[.int .i64 v0, .int .u16 v1, .int .u16 v2, .int .u32 ((isn + 1 + sq % 40 - 3) % 4294967296), .int .u32 v4, .bool syn, .bool v6, .bool v7, .bool v8, .int .u16 v9, .string v10, .string (data.extract 0 q)] 48)).alloc (.cells #[.int .i64 v0, .int .u16 v1, .int .u16 v2, .int .u32 ((isn + 1 + sq % 40 - 3) % 4294967296), .int .u32 v4, .bool syn, .bool v6, .bool v7, .bool v8, .int .u16 v9, .string v10, .string (data.extract 0 q)] 48)) := gw_trans (gw_alloc1 _ _) (gw_alloc1 _ _)
          have hsrc : Src Try.prog 12 60 (.slice (some ⟨wr.heap.size + 1, 0, none⟩) 1 1) 1 (cells ⟨v0, v1, v2, ((isn + 1 + sq % 40 - 3) % 4294967296), v4, syn, v6, v7, v8, v9, v10, data.extract 0 q⟩) ((wr.alloc (.cells #[.int .i64 v0, .int .u16 v1, .int .u16 v2, .int .u32 ((isn + 1 + sq % 40 - 3) % 4294967296), .int .u32 v4, .bool syn, .bool v6, .bool v7, .bool v8, .int .u16 v9, .string v10, .string (data.extract 0 q)] 48)).alloc (.cells #[.int .i64 v0, .int .u16 v1, .int .u16 v2, .int .u32 ((isn + 1 + sq % 40 - 3) % 4294967296), .int .u32 v4, .bool syn, .bool v6, .bool v7, .bool v8, .int .u16 v9, .string v10, .string (data.extract 0 q)] 48)) := src_new (fun j u hu => by
            have := heap_alloc_new (wr.alloc (.cells #[.int .i64 v0, .int .u16 v1, .int .u16 v2, .int .u32 ((isn + 1 + sq % 40 - 3) % 4294967296), .int .u32 v4, .bool syn, .bool v6, .bool v7, .bool v8, .int .u16 v9, .string v10, .string (data.extract 0 q)] 48)) (.cells #[.int .i64 v0, .int .u16 v1, .int .u16 v2, .int .u32 ((isn + 1 + sq % 40 - 3) % 4294967296), .int .u32 v4, .bool syn, .bool v6, .bool v7, .bool v8, .int .u16 v9, .string v10, .string (data.extract 0 q)] 48)
            rw [World.size_alloc] at this
            rw [Nat.zero_add]
            refine cell12 this j u ?_
            simpa [cells] using hu)
          have hsz2 : ((wr.alloc (.cells #[.int .i64 v0, .int .u16 v1, .int .u16 v2, .int .u32 ((isn + 1 + sq % 40 - 3) % 4294967296), .int .u32 v4, .bool syn, .bool v6, .bool v7, .bool v8, .int .u16 v9, .string v10, .string (data.extract 0 q)] 48)).alloc (.cells #[.int .i64 v0, .int .u16 v1, .int .u16 v2, .int .u32 ((isn + 1 + sq % 40 - 3) % 4294967296), .int .u32 v4, .bool syn, .bool v6, .bool v7, .bool v8, .int .u16 v9, .string v10, .string (data.extract 0 q)] 48)).heap.size = wr.heap.size + 2 := by rw [World.size_alloc, World.size_alloc]
          have HG2 := Lib.hid hg2
          have HSRC := Lib.hid hsrc
          have HSZ := Lib.hid hsz2
          have HOW : Hid (Own ((wr.alloc (.cells #[.int .i64 v0, .int .u16 v1, .int .u16 v2, .int .u32 ((isn + 1 + sq % 40 - 3) % 4294967296), .int .u32 v4, .bool syn, .bool v6, .bool v7, .bool v8, .int .u16 v9, .string v10, .string (data.extract 0 q)] 48)).alloc (.cells #[.int .i64 v0, .int .u16 v1, .int .u16 v2, .int .u32 ((isn + 1 + sq % 40 - 3) % 4294967296), .int .u32 v4, .bool syn, .bool v6, .bool v7, .bool v8, .int .u16 v9, .string v10, .string (data.extract 0 q)] 48)) 48 12 (.slice P k C') k (flat l')) := Lib.hid ((HI.out.1.alloc _).alloc _)
          clear hg2 hsrc hsz2
          go_wp2_with (at_builtin; refine wpList_seg rfl (.tmp 46) (.tmp 48) rfl (.slice P k C') (.slice (some ⟨wr.heap.size + 1, 0, none⟩) 1 1) rfl rfl (fun v' w' => ∃ P2 C2, v' = .slice P2 (k + 1) C2 ∧ Own w' 48 12 (.slice P2 (k + 1) C2) (k + 1) (flat (l' ++ [⟨v0, v1, v2, ((isn + 1 + sq % 40 - 3) % 4294967296), v4, syn, v6, v7, v8, v9, v10, data.extract 0 q⟩])) ∧ ((wr.alloc (.cells #[.int .i64 v0, .int .u16 v1, .int .u16 v2, .int .u32 ((isn + 1 + sq % 40 - 3) % 4294967296), .int .u32 v4, .bool syn, .bool v6, .bool v7, .bool v8, .int .u16 v9, .string v10, .string (data.extract 0 q)] 48)).alloc (.cells #[.int .i64 v0, .int .u16 v1, .int .u16 v2, .int .u32 ((isn + 1 + sq % 40 - 3) % 4294967296), .int .u32 v4, .bool syn, .bool v6, .bool v7, .bool v8, .int .u16 v9, .string v10, .string (data.extract 0 q)] 48)).grownBy w' (Value.slice P k C').ownBlock ∧ ((Value.slice P2 (k + 1) C2).ownBlock = (Value.slice P k C').ownBlock ∨ (Value.slice P2 (k + 1) C2).ownBlock = some ((wr.alloc (.cells #[.int .i64 v0, .int .u16 v1, .int .u16 v2, .int .u32 ((isn + 1 + sq % 40 - 3) % 4294967296), .int .u32 v4, .bool syn, .bool v6, .bool v7, .bool v8, .int .u16 v9, .string v10, .string (data.extract 0 q)] 48)).alloc (.cells #[.int .i64 v0, .int .u16 v1, .int .u16 v2, .int .u32 ((isn + 1 + sq % 40 - 3) % 4294967296), .int .u32 v4, .bool syn, .bool v6, .bool v7, .bool v8, .int .u16 v9, .string v10, .string (data.extract 0 q)] 48)).heap.size)) (by obtain ⟨P2, cap, w', h1, h2, h3, h4⟩ := app_seg HOW.out 60 (.slice (some ⟨wr.heap.size + 1, 0, none⟩) 1 1) ⟨v0, v1, v2, ((isn + 1 + sq % 40 - 3) % 4294967296), v4, syn, v6, v7, v8, v9, v10, data.extract 0 q⟩ HSRC.out (by omega); exact ⟨_, w', h1, P2, cap, rfl, h2, h3, h4⟩) ?_; rintro v' w' ⟨P2, C2, rfl, ho, hgr, hat2⟩; have HOO := Lib.hid ho; have HGR := Lib.hid hgr; have HAT := Lib.hid hat2; clear ho hgr hat2)
          have hgn : Gw w w' := Fr.trans (gw_trans HI.out.2.2.2.2 HG2.out) (Fr.of_grown HGR.out) (fun x hx e => by have := HI.out.2.2.2.1 x e; show False; omega)
          have hbn : ∀ j, (Value.slice P2 (k + 1) C2).ownBlock = some j → w.heap.size ≤ j := fun j hj => by
            rcases HAT.out with e | e
            · exact HI.out.2.2.2.1 j (by rw [← e]; exact hj)
            · rw [hj, HSZ.out] at e
              have e := Option.some.inj e
              have := HI.out.2.2.2.2.size; omega
          have hall : ∀ x ∈ l' ++ [(⟨v0, v1, v2, ((isn + 1 + sq % 40 - 3) % 4294967296), v4, syn, v6, v7, v8, v9, v10, data.extract 0 q⟩ : Sg)], x.Ok ∧ x.data.size ≤ 60 := fun x hx => by
            rcases List.mem_append.1 hx with hx | hx
            · exact HI.out.2.2.1 x hx
            · simp only [List.mem_singleton] at hx
              subst hx
              exact ⟨⟨⟨Int.emod_nonneg _ (by omega), Int.emod_lt_of_pos _ (by omega)⟩, by show (data.extract 0 q).size ≤ _; rw [ByteArray.size_extract]; omega⟩, by show (data.extract 0 q).size ≤ _; rw [ByteArray.size_extract]; omega⟩
          go_roundg (30 - (k + 1))
          case measure => omega
          case rel => exact ⟨k + 1, P2, C2, l' ++ [⟨v0, v1, v2, ((isn + 1 + sq % 40 - 3) % 4294967296), v4, syn, v6, v7, v8, v9, v10, data.extract 0 q⟩], by omega, by omega, by omega, by go_num, rfl, Lib.hid ⟨HOO.out, by rw [List.length_append, HI.out.2.1]; rfl, hall, hbn, hgn⟩⟩
      · have hk30 : k = 30 := by omega
        subst hk30
        go_wp2_with fail
        go_ret
        exact ⟨P, 30, C', l', rfl, HI.out.1, HI.out.2.1, by omega, HI.out.2.2.1, HI.out.2.2.2.1, HI.out.2.2.2.2⟩
    · obtain rfl : k = n := by omega
      go_wp2_with fail
      go_ret
      exact ⟨P, k, C', l', rfl, HI.out.1, HI.out.2.1, by omega, HI.out.2.2.1, HI.out.2.2.2.1, HI.out.2.2.2.2⟩
end Go.Proofs.Ytmjajepdlopkiaa.Sh
