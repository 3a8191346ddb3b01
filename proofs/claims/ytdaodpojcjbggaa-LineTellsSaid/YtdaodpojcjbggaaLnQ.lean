/- The document's line: Turn. -/
import Derived.Test.YtdaodpojcjbggaaLnP
namespace Go.Proofs.Ytdaodpojcjbggaa.Ln
open Go.RowKit
set_option linter.unusedVariables false
set_option linter.unusedSimpArgs false

theorem lay0' {w w1 : World} {X A C B D a b} (L : LineAt w X A C B D a b) (hW : Gw w w1) {P : Option Addr} {C' : Nat} {a' : List ByteArray} (hr : Rw w1 P C' a') (hs : ∀ k, blk P = some k → w.heap.size ≤ k) :
    Then w X A B a' b (w1.setCell ⟨X, 0, none⟩ (.slice P a'.length C')) := by
  have hX := L.ltX
  have hXW : X < w1.heap.size := Nat.lt_of_lt_of_le hX hW.size
  have eX : w1.heap[X]? = w.heap[X]? := hW.block X hX (fun h => h)
  have k0 : w1.cell? ⟨X, 0, none⟩ = some (.slice A a.length C) := (World.cell?_of_block (a := ⟨X, 0, none⟩) eX).trans L.c0
  have k1 : w1.cell? ⟨X, 1, none⟩ = some (.slice B b.length D) := (World.cell?_of_block (a := ⟨X, 1, none⟩) eX).trans L.c1
  have q0 : w1.frozen? ⟨X, 0, none⟩ = false := (World.frozen?_of_block (a := ⟨X, 0, none⟩) eX).trans L.f0
  have q1 : w1.frozen? ⟨X, 1, none⟩ = false := (World.frozen?_of_block (a := ⟨X, 1, none⟩) eX).trans L.f1
  have ne : ∀ k, k ≠ X → ((w1.setCell ⟨X, 0, none⟩ (.slice P a'.length C')).heap[k]? = w1.heap[k]?) := fun k hk => Below.heap_setCell w1 ⟨X, 0, none⟩ _ k hk
  refine ⟨P, C', B, D, ⟨setCell_cell_same _ k0, ?_, by rw [World.frozen?_setCell]; exact q0, by rw [World.frozen?_setCell]; exact q1, ?_, ?_, ?_, L.nb, ?_⟩, ?_, ?_⟩
  · exact (World.cell?_setCell_other w1 ⟨X, 0, none⟩ ⟨X, 1, none⟩ _ (by simp)).trans k1
  · exact hr.keep (fun k hk => ne k (by have := hs k hk; omega))
  · exact (L.rb.keep (fun k hk => hW.block k (L.rb.lt hk) (fun h => h))).keep (fun k hk => ne k (fun e => L.nb (e ▸ hk)))
  · intro e; have := hs X e; omega
  · intro k hk hB
    have := hs k hk; have := L.rb.lt hB; omega
  · exact Fr.setCell (S := Ft X A B) (hW.mono (fun _ h => h.elim)) _ _ (.inl rfl)
  · rintro k (rfl | hk | hk)
    · exact .inl (.inl rfl)
    · exact .inr (hs k hk)
    · exact .inl (.inr (.inr hk))
theorem lay1' {w w1 : World} {X A C B D a b} (L : LineAt w X A C B D a b) (hW : Gw w w1) {P : Option Addr} {C' : Nat} {a' : List ByteArray} (hr : Rw w1 P C' a') (hs : ∀ k, blk P = some k → w.heap.size ≤ k) :
    Then w X A B a a' (w1.setCell ⟨X, 1, none⟩ (.slice P a'.length C')) := by
  have hX := L.ltX
  have hXW : X < w1.heap.size := Nat.lt_of_lt_of_le hX hW.size
  have eX : w1.heap[X]? = w.heap[X]? := hW.block X hX (fun h => h)
  have k0 : w1.cell? ⟨X, 0, none⟩ = some (.slice A a.length C) := (World.cell?_of_block (a := ⟨X, 0, none⟩) eX).trans L.c0
  have k1 : w1.cell? ⟨X, 1, none⟩ = some (.slice B b.length D) := (World.cell?_of_block (a := ⟨X, 1, none⟩) eX).trans L.c1
  have q0 : w1.frozen? ⟨X, 0, none⟩ = false := (World.frozen?_of_block (a := ⟨X, 0, none⟩) eX).trans L.f0
  have q1 : w1.frozen? ⟨X, 1, none⟩ = false := (World.frozen?_of_block (a := ⟨X, 1, none⟩) eX).trans L.f1
  have ne : ∀ k, k ≠ X → ((w1.setCell ⟨X, 1, none⟩ (.slice P a'.length C')).heap[k]? = w1.heap[k]?) := fun k hk => Below.heap_setCell w1 ⟨X, 1, none⟩ _ k hk
  refine ⟨A, C, P, C', ⟨?_, setCell_cell_same _ k1, by rw [World.frozen?_setCell]; exact q0, by rw [World.frozen?_setCell]; exact q1, ?_, ?_, L.na, ?_, ?_⟩, ?_, ?_⟩
  · exact (World.cell?_setCell_other w1 ⟨X, 1, none⟩ ⟨X, 0, none⟩ _ (by simp)).trans k0
  · exact (L.ra.keep (fun k hk => hW.block k (L.ra.lt hk) (fun h => h))).keep (fun k hk => ne k (fun e => L.na (e ▸ hk)))
  · exact hr.keep (fun k hk => ne k (by have := hs k hk; omega))
  · intro e; have := hs X e; omega
  · intro k hk hB
    have := hs k hB; have := L.ra.lt hk; omega
  · exact Fr.setCell (S := Ft X A B) (hW.mono (fun _ h => h.elim)) _ _ (.inl rfl)
  · rintro k (rfl | hk | hk)
    · exact .inl (.inl rfl)
    · exact .inl (.inr (.inl hk))
    · exact .inr (hs k hk)

/-- What has been laid out behind k rounds. -/
def outAt (l ys : List ByteArray) (i m k : Nat) : List ByteArray := l.take (min k i) ++ (if i < k then ys else []) ++ (l.drop (i + m)).take (k - (i + m))
theorem outAt_0 (l ys : List ByteArray) (i m : Nat) : outAt l ys i m 0 = [] := by simp [outAt]
theorem outAt_len (l ys : List ByteArray) (i m k : Nat) : (outAt l ys i m k).length ≤ k + ys.length := by
  unfold outAt
  have h1 : (l.take (min k i)).length ≤ min k i := List.length_take_le _ _
  have h2 : ((l.drop (i + m)).take (k - (i + m))).length ≤ k - (i + m) := List.length_take_le _ _
  have h3 : (if i < k then ys else []).length ≤ ys.length := by split <;> simp
  rw [List.length_append, List.length_append]
  omega
theorem outAt_lo {l ys : List ByteArray} {i m k : Nat} (h : k < l.length) (hk : k < i) : outAt l ys i m (k + 1) = outAt l ys i m k ++ [l[k]] := by
  unfold outAt
  rw [show min (k + 1) i = k + 1 by omega, show min k i = k by omega, if_neg (by omega), if_neg (by omega), show k + 1 - (i + m) = 0 by omega, show k - (i + m) = 0 by omega]
  simp
theorem outAt_mid (l ys : List ByteArray) {i m : Nat} (hm : 1 ≤ m) : outAt l ys i m (i + 1) = outAt l ys i m i ++ ys := by
  unfold outAt
  rw [show min (i + 1) i = i by omega, show min i i = i by omega, if_pos (by omega), if_neg (by omega), show i + 1 - (i + m) = 0 by omega, show i - (i + m) = 0 by omega]
  simp
theorem outAt_same (l ys : List ByteArray) {i m k : Nat} (h1 : i < k) (h2 : k < i + m) : outAt l ys i m (k + 1) = outAt l ys i m k := by
  unfold outAt
  rw [show min (k + 1) i = i by omega, show min k i = i by omega, if_pos (by omega), if_pos (by omega), show k + 1 - (i + m) = 0 by omega, show k - (i + m) = 0 by omega]
theorem outAt_hi {l ys : List ByteArray} {i m k : Nat} (h : k < l.length) (hk : i + m ≤ k) (hm : 1 ≤ m) : outAt l ys i m (k + 1) = outAt l ys i m k ++ [l[k]] := by
  unfold outAt
  rw [show min (k + 1) i = i by omega, show min k i = i by omega, if_pos (by omega), if_pos (by omega), show k + 1 - (i + m) = k - (i + m) + 1 by omega, List.take_add_one, List.getElem?_drop, show i + m + (k - (i + m)) = k by omega, List.getElem?_eq_getElem h]
  simp
theorem outAt_end (l ys : List ByteArray) (i m : Nat) (h : i + m ≤ l.length) (hm : 1 ≤ m) : outAt l ys i m l.length = l.take i ++ ys ++ l.drop (i + m) := by
  unfold outAt
  rw [show min l.length i = i by omega, if_pos (by omega), List.take_of_length_le (l := l.drop (i + m)) (by simp)]
theorem outAt_mem {l ys : List ByteArray} {i m k : Nat} {s : ByteArray} (h : s ∈ outAt l ys i m k) : s ∈ l ∨ s ∈ ys := by
  unfold outAt at h
  rcases List.mem_append.1 h with h | h
  · rcases List.mem_append.1 h with h | h
    · exact .inl (List.mem_of_mem_take h)
    · split at h
      · exact .inr h
      · cases h
  · exact .inl (List.mem_of_mem_drop (List.mem_of_mem_take h))
/-- Its block, if it has one, has been made since. -/
def SinceN (w : World) (v : Value) : Prop := ∀ k, v.ownBlock = some k → w.heap.size ≤ k
theorem sn_nil (w : World) : SinceN w (.slice none 0 0) := fun k h => by cases h
theorem sn_next {w W W1 W' : World} {v v' : Value} (hg : Gw w W) (hv : SinceN w v) (hW : Gw W W1) (hgr : W1.grownBy W' v.ownBlock) (hat : v'.ownBlock = v.ownBlock ∨ v'.ownBlock = some W1.heap.size) : SinceN w v' ∧ Gw w W' := by
  have hg1 := gw_trans hg hW
  refine ⟨fun k hk => ?_, Fr.trans hg1 (Fr.of_grown hgr) (fun x hx h => by have := hv x h; show False; omega)⟩
  rcases hat with h | h
  · exact hv k (h ▸ hk)
  · have e : W1.heap.size = k := Option.some.inj (h.symm.trans hk)
    have := hg1.size; omega

set_option maxRecDepth 100000 in
set_option maxHeartbeats 4000000 in
theorem rturn0 {w : World} {X A C B D a b} (L : LineAt w X A C B D a b) (i m : Nat) (hm : 1 ≤ m ∧ m ≤ 2) (hi : i + m ≤ a.length) (hxs : a.length ≤ 900000) (S : Option Addr) (c : Nat) (ys : List ByteArray) (hys : ys.length ≤ 90000) (hzs : ∀ s ∈ ys, s.size ≤ 9223372036854775807)
    (hsrc : ∀ W, Gw w W → Src Try.prog 1 26 (.slice S ys.length c) ys.length (ys.map Value.string) W) :
    Calls Try.prog 20 #[.pointer (some ⟨X, 0, none⟩), .int .i64 0, .int .i64 i, .int .i64 m, .slice S ys.length c] w fun e w' => e = .returned (.int .i64 0) ∧ Then w X A B (a.take i ++ ys ++ a.drop (i + m)) b w' := by
  have HL := Lib.hid L
  have c0 := L.c0
  have hX := L.ltX
  have HS := Lib.hid hsrc
  obtain ⟨l, hl⟩ : ∃ l, a = l := ⟨_, rfl⟩
  obtain ⟨n, hn⟩ : ∃ n, l.length = n := ⟨_, rfl⟩
  have HLE : Hid (a = l) := Lib.hid hl
  have HLL := Lib.hid hn
  have hcl : ∀ j, (h : j < l.length) → ∃ g, A = some ⟨g, 0, none⟩ ∧ w.cell? ⟨g, j, none⟩ = some (.string l[j]) := by
    subst hl
    intro j hj
    rcases L.ra.at with ⟨_, e, _⟩ | ⟨g, e, _, _, _, hc⟩
    · rw [e] at hj; simp at hj
    · exact ⟨g, e, hc j hj⟩
  obtain ⟨g, rfl, -⟩ := hcl 0 (by rw [hn, ← hn, ← hl]; omega)
  have hcell : ∀ j, (h : j < l.length) → w.cell? ⟨g, j, none⟩ = some (.string l[j]) := fun j hj => by
    obtain ⟨g', e, h⟩ := hcl j hj
    cases e; exact h
  have HCELL := Lib.hid hcell
  have hlen : a.length = n := by rw [hl, hn]
  rw [hlen] at c0 hi hxs
  have HZ := Lib.hid hzs
  obtain ⟨u, hu⟩ : ∃ u, ys.length = u := ⟨_, rfl⟩
  rw [hu] at hys ⊢
  have HU := Lib.hid hu
  clear hcl hcell hn hl hsrc hlen hzs hu L
  have y1 : decide (n ≤ i) = false := decide_eq_false (by omega)
  have y2 : decide ((i : Int) < 0) = false := decide_eq_false (by omega)
  have y3 : decide ((m : Int) < 1) = false := decide_eq_false (by omega)
  have y4 : decide (2 < (m : Int)) = false := decide_eq_false (by omega)
  have y5 : decide ((n : Int) - i < m) = false := decide_eq_false (by omega)
  go_enter Try.func20, Try.ntmps20
  go_wp2_with (go_at_call 42; refine (endOk _ (by omega) _).mono ?_; rintro e w' ⟨rfl, rfl⟩)
  go_loopw [12, 13] (fun v12 v13 wr => ∃ (k : Nat) (P : Option Addr) (q E : Nat), k ≤ n ∧ Hid (q = (outAt l ys i m k).length) ∧ v12 = .slice P q E ∧ v13 = .int .i64 k ∧ Hid (Own wr 9 1 (.slice P q E) q ((outAt l ys i m k).map Value.string) ∧ SinceN w (.slice P q E) ∧ Gw w wr)) (fun _ v13 _ => n - (intOf v13).toNat)
  case atStart => exact ⟨0, none, 0, 0, by omega, Lib.hid (by rw [outAt_0]; rfl), rfl, rfl, Lib.hid ⟨by rw [outAt_0]; exact World.ownsRow_nil _ _ _ _, sn_nil w, Fr.refl _ _⟩⟩
  case round =>
    obtain ⟨k, P, q, E, hk, HQ, rfl, rfl, HO⟩ := hrel
    have hqb : q ≤ 1000000 := by
      have h1 := HQ.out; have h2 := outAt_len l ys i m k; have h3 := HLL.out; have h4 := HU.out; omega
    have hz1 : IntKind.i64.wrap ((i : Int) + m) = (i : Int) + m := IntWalk.i64_in _ (by omega)
    by_cases hkn : k < n
    · have z0 : (k : Int) < n := by omega
      by_cases h1 : k < i
      · have z1 : ((k : Int) == (i : Int)) = false := by rw [beq_eq_false_iff_ne]; omega
        have z2 : (k : Int) < i := by omega
        have hkl : k < l.length := by have := HLL.out; omega
        have q1 := cell_gw HO.out.2.2 (HCELL.out k hkl)
        have hstep := outAt_lo (ys := ys) (m := m) hkl h1
        have HST := Lib.hid hstep
        clear hstep
        have hsx : ∃ sx, l[k] = sx := ⟨_, rfl⟩
        obtain ⟨sx, hsx⟩ := hsx
        rw [hsx] at q1
        have HSX := Lib.hid hsx
        clear hsx
        go_wp2_with (at_builtin; refine wpList_row rfl (.tmp 69) (.tmp 74) rfl (.slice P q E) q _ rfl (World.ownsRow.alloc HO.out.1 _) _ 1 [.string sx] rfl (src_one (by (repeat (first | (with_reducible refine cell_new_at ?_; first | with_reducible rfl | (simp; done)) | with_reducible refine cell_alloc_old _ ?_ | with_reducible refine cell_drew ?_ | with_reducible refine cell_gw (by with_reducible assumption) ?_)); done)) (by omega) ?_; rintro v1 w2 ⟨P1, E1, rfl⟩ ho1 hgr1 hat1; have HN1 := Lib.hid (sn_next HO.out.2.2 HO.out.2.1 (gw_alloc1 _ _) hgr1 hat1); have HO1 := Lib.hid ho1; clear ho1 hgr1 hat1)
        go_roundw
        case rel =>
          rw [HSX.out] at HST
          exact ⟨k + 1, P1, q + 1, E1, by omega, by have := HQ.out; have := HST.out; rw [this]; simp; omega, rfl, by go_num, Lib.hid ⟨by rw [HST.out, List.map_append]; exact HO1.out, HN1.out⟩⟩
        case measure => simp [intOf]; omega
      · by_cases h2 : k = i
        · subst h2
          have z2 : ¬ (k : Int) < k := by omega
          have z3 : ¬ (k : Int) + m ≤ k := by omega
          have HST := Lib.hid (outAt_mid l ys (i := k) (m := m) hm.1)
          go_wp2_with (at_builtin; refine wpList_row rfl (.tmp 56) (.tmp 57) rfl (.slice P q E) q _ rfl HO.out.1 _ u (ys.map Value.string) rfl (HU.out ▸ HS.out _ HO.out.2.2) (by omega) ?_; rintro v1 w2 ⟨P1, E1, rfl⟩ ho1 hgr1 hat1; have HN1 := Lib.hid (sn_next HO.out.2.2 HO.out.2.1 (Fr.refl _ _) hgr1 hat1); have HO1 := Lib.hid ho1; clear ho1 hgr1 hat1)
          go_roundw
          case rel =>
            exact ⟨k + 1, P1, q + u, E1, by omega, Lib.hid (by have h1 := HQ.out; have h2 := HST.out; have h3 := HU.out; rw [h2]; simp; omega), rfl, by go_num, Lib.hid ⟨by rw [HST.out, List.map_append]; exact HO1.out, HN1.out⟩⟩
          case measure => simp [intOf]; omega
        · have z1 : ((k : Int) == (i : Int)) = false := by rw [beq_eq_false_iff_ne]; omega
          have z2 : ¬ (k : Int) < i := by omega
          by_cases h3 : k < i + m
          · have z3 : ¬ (i : Int) + m ≤ k := by omega
            have HST := Lib.hid (outAt_same l ys (i := i) (m := m) (k := k) (by omega) h3)
            go_wp2_with fail
            go_roundw
            case rel => exact ⟨k + 1, P, q, E, by omega, Lib.hid (by rw [HST.out]; exact HQ.out), rfl, by go_num, Lib.hid (by rw [HST.out]; exact HO.out)⟩
            case measure => simp [intOf]; omega
          · have z3 : (i : Int) + m ≤ k := by omega
            have hkl : k < l.length := by have := HLL.out; omega
            have q1 := cell_gw HO.out.2.2 (HCELL.out k hkl)
            have hstep := outAt_hi (ys := ys) (i := i) (m := m) hkl (by omega) hm.1
            have HST := Lib.hid hstep
            clear hstep
            have hsx : ∃ sx, l[k] = sx := ⟨_, rfl⟩
            obtain ⟨sx, hsx⟩ := hsx
            rw [hsx] at q1
            have HSX := Lib.hid hsx
            clear hsx
            go_wp2_with (at_builtin; refine wpList_row rfl (.tmp 69) (.tmp 74) rfl (.slice P q E) q _ rfl (World.ownsRow.alloc HO.out.1 _) _ 1 [.string sx] rfl (src_one (by (repeat (first | (with_reducible refine cell_new_at ?_; first | with_reducible rfl | (simp; done)) | with_reducible refine cell_alloc_old _ ?_ | with_reducible refine cell_drew ?_ | with_reducible refine cell_gw (by with_reducible assumption) ?_)); done)) (by omega) ?_; rintro v1 w2 ⟨P1, E1, rfl⟩ ho1 hgr1 hat1; have HN1 := Lib.hid (sn_next HO.out.2.2 HO.out.2.1 (gw_alloc1 _ _) hgr1 hat1); have HO1 := Lib.hid ho1; clear ho1 hgr1 hat1)
            go_roundw
            case rel =>
              rw [HSX.out] at HST
              exact ⟨k + 1, P1, q + 1, E1, by omega, by have := HQ.out; have := HST.out; rw [this]; simp; omega, rfl, by go_num, Lib.hid ⟨by rw [HST.out, List.map_append]; exact HO1.out, HN1.out⟩⟩
            case measure => simp [intOf]; omega
    · obtain rfl : k = n := by omega
      have HF := Lib.hid (outAt_end l ys i m (by have := HLL.out; omega) hm.1)
      have hr : Rw wr P E (outAt l ys i m k) := by
        have h1 := HQ.out
        refine ⟨by rw [← h1]; exact HO.out.1, by rw [← h1]; exact hqb, fun s hs => ?_⟩
        rcases outAt_mem hs with h | h
        · have := HLE.out; subst this; exact HL.out.ra.sz s h
        · exact HZ.out s h
      have hth := lay0' HL.out HO.out.2.2 hr (fun k hk => HO.out.2.1 k (by rw [ownBlock_blk]; exact hk))
      have hfr : wr.frozen? ⟨X, 0, none⟩ = false := (World.frozen?_of_block (a := ⟨X, 0, none⟩) (HO.out.2.2.block X hX (fun h => h))).trans HL.out.f0
      have hce : wr.cell? ⟨X, 0, none⟩ = some (.slice (some ⟨g, 0, none⟩) k C) := cell_gw HO.out.2.2 c0
      rw [← HQ.out] at hth
      have HTH := Lib.hid hth
      clear hth hr
      go_wp2_with fail
      go_ret
      refine ⟨rfl, ?_⟩
      have := HTH.out
      have e1 := HF.out
      have e2 := HLL.out
      rw [show k = l.length from e2.symm, e1] at this
      have e3 := HLE.out
      subst e3
      exact this

set_option maxRecDepth 100000 in
set_option maxHeartbeats 4000000 in
theorem rturn1 {w : World} {X A C B D a b} (L : LineAt w X A C B D a b) (i m : Nat) (hm : 1 ≤ m ∧ m ≤ 2) (hi : i + m ≤ b.length) (hxs : b.length ≤ 900000) (S : Option Addr) (c : Nat) (ys : List ByteArray) (hys : ys.length ≤ 90000) (hzs : ∀ s ∈ ys, s.size ≤ 9223372036854775807)
    (hsrc : ∀ W, Gw w W → Src Try.prog 1 26 (.slice S ys.length c) ys.length (ys.map Value.string) W) :
    Calls Try.prog 20 #[.pointer (some ⟨X, 0, none⟩), .int .i64 1, .int .i64 i, .int .i64 m, .slice S ys.length c] w fun e w' => e = .returned (.int .i64 0) ∧ Then w X A B a (b.take i ++ ys ++ b.drop (i + m)) w' := by
  have HL := Lib.hid L
  have c0 := L.c1
  have hX := L.ltX
  have HS := Lib.hid hsrc
  obtain ⟨l, hl⟩ : ∃ l, b = l := ⟨_, rfl⟩
  obtain ⟨n, hn⟩ : ∃ n, l.length = n := ⟨_, rfl⟩
  have HLE : Hid (b = l) := Lib.hid hl
  have HLL := Lib.hid hn
  have hcl : ∀ j, (h : j < l.length) → ∃ g, B = some ⟨g, 0, none⟩ ∧ w.cell? ⟨g, j, none⟩ = some (.string l[j]) := by
    subst hl
    intro j hj
    rcases L.rb.at with ⟨_, e, _⟩ | ⟨g, e, _, _, _, hc⟩
    · rw [e] at hj; simp at hj
    · exact ⟨g, e, hc j hj⟩
  obtain ⟨g, rfl, -⟩ := hcl 0 (by rw [hn, ← hn, ← hl]; omega)
  have hcell : ∀ j, (h : j < l.length) → w.cell? ⟨g, j, none⟩ = some (.string l[j]) := fun j hj => by
    obtain ⟨g', e, h⟩ := hcl j hj
    cases e; exact h
  have HCELL := Lib.hid hcell
  have hlen : b.length = n := by rw [hl, hn]
  rw [hlen] at c0 hi hxs
  have HZ := Lib.hid hzs
  obtain ⟨u, hu⟩ : ∃ u, ys.length = u := ⟨_, rfl⟩
  rw [hu] at hys ⊢
  have HU := Lib.hid hu
  clear hcl hcell hn hl hsrc hlen hzs hu L
  have y1 : decide (n ≤ i) = false := decide_eq_false (by omega)
  have y2 : decide ((i : Int) < 0) = false := decide_eq_false (by omega)
  have y3 : decide ((m : Int) < 1) = false := decide_eq_false (by omega)
  have y4 : decide (2 < (m : Int)) = false := decide_eq_false (by omega)
  have y5 : decide ((n : Int) - i < m) = false := decide_eq_false (by omega)
  go_enter Try.func20, Try.ntmps20
  go_wp2_with (go_at_call 42; refine (endOk _ (by omega) _).mono ?_; rintro e w' ⟨rfl, rfl⟩)
  go_loopw [12, 13] (fun v12 v13 wr => ∃ (k : Nat) (P : Option Addr) (q E : Nat), k ≤ n ∧ Hid (q = (outAt l ys i m k).length) ∧ v12 = .slice P q E ∧ v13 = .int .i64 k ∧ Hid (Own wr 9 1 (.slice P q E) q ((outAt l ys i m k).map Value.string) ∧ SinceN w (.slice P q E) ∧ Gw w wr)) (fun _ v13 _ => n - (intOf v13).toNat)
  case atStart => exact ⟨0, none, 0, 0, by omega, Lib.hid (by rw [outAt_0]; rfl), rfl, rfl, Lib.hid ⟨by rw [outAt_0]; exact World.ownsRow_nil _ _ _ _, sn_nil w, Fr.refl _ _⟩⟩
  case round =>
    obtain ⟨k, P, q, E, hk, HQ, rfl, rfl, HO⟩ := hrel
    have hqb : q ≤ 1000000 := by
      have h1 := HQ.out; have h2 := outAt_len l ys i m k; have h3 := HLL.out; have h4 := HU.out; omega
    have hz1 : IntKind.i64.wrap ((i : Int) + m) = (i : Int) + m := IntWalk.i64_in _ (by omega)
    by_cases hkn : k < n
    · have z0 : (k : Int) < n := by omega
      by_cases h1 : k < i
      · have z1 : ((k : Int) == (i : Int)) = false := by rw [beq_eq_false_iff_ne]; omega
        have z2 : (k : Int) < i := by omega
        have hkl : k < l.length := by have := HLL.out; omega
        have q1 := cell_gw HO.out.2.2 (HCELL.out k hkl)
        have hstep := outAt_lo (ys := ys) (m := m) hkl h1
        have HST := Lib.hid hstep
        clear hstep
        have hsx : ∃ sx, l[k] = sx := ⟨_, rfl⟩
        obtain ⟨sx, hsx⟩ := hsx
        rw [hsx] at q1
        have HSX := Lib.hid hsx
        clear hsx
        go_wp2_with (at_builtin; refine wpList_row rfl (.tmp 69) (.tmp 74) rfl (.slice P q E) q _ rfl (World.ownsRow.alloc HO.out.1 _) _ 1 [.string sx] rfl (src_one (by (repeat (first | (with_reducible refine cell_new_at ?_; first | with_reducible rfl | (simp; done)) | with_reducible refine cell_alloc_old _ ?_ | with_reducible refine cell_drew ?_ | with_reducible refine cell_gw (by with_reducible assumption) ?_)); done)) (by omega) ?_; rintro v1 w2 ⟨P1, E1, rfl⟩ ho1 hgr1 hat1; have HN1 := Lib.hid (sn_next HO.out.2.2 HO.out.2.1 (gw_alloc1 _ _) hgr1 hat1); have HO1 := Lib.hid ho1; clear ho1 hgr1 hat1)
        go_roundw
        case rel =>
          rw [HSX.out] at HST
          exact ⟨k + 1, P1, q + 1, E1, by omega, by have := HQ.out; have := HST.out; rw [this]; simp; omega, rfl, by go_num, Lib.hid ⟨by rw [HST.out, List.map_append]; exact HO1.out, HN1.out⟩⟩
        case measure => simp [intOf]; omega
      · by_cases h2 : k = i
        · subst h2
          have z2 : ¬ (k : Int) < k := by omega
          have z3 : ¬ (k : Int) + m ≤ k := by omega
          have HST := Lib.hid (outAt_mid l ys (i := k) (m := m) hm.1)
          go_wp2_with (at_builtin; refine wpList_row rfl (.tmp 56) (.tmp 57) rfl (.slice P q E) q _ rfl HO.out.1 _ u (ys.map Value.string) rfl (HU.out ▸ HS.out _ HO.out.2.2) (by omega) ?_; rintro v1 w2 ⟨P1, E1, rfl⟩ ho1 hgr1 hat1; have HN1 := Lib.hid (sn_next HO.out.2.2 HO.out.2.1 (Fr.refl _ _) hgr1 hat1); have HO1 := Lib.hid ho1; clear ho1 hgr1 hat1)
          go_roundw
          case rel =>
            exact ⟨k + 1, P1, q + u, E1, by omega, Lib.hid (by have h1 := HQ.out; have h2 := HST.out; have h3 := HU.out; rw [h2]; simp; omega), rfl, by go_num, Lib.hid ⟨by rw [HST.out, List.map_append]; exact HO1.out, HN1.out⟩⟩
          case measure => simp [intOf]; omega
        · have z1 : ((k : Int) == (i : Int)) = false := by rw [beq_eq_false_iff_ne]; omega
          have z2 : ¬ (k : Int) < i := by omega
          by_cases h3 : k < i + m
          · have z3 : ¬ (i : Int) + m ≤ k := by omega
            have HST := Lib.hid (outAt_same l ys (i := i) (m := m) (k := k) (by omega) h3)
            go_wp2_with fail
            go_roundw
            case rel => exact ⟨k + 1, P, q, E, by omega, Lib.hid (by rw [HST.out]; exact HQ.out), rfl, by go_num, Lib.hid (by rw [HST.out]; exact HO.out)⟩
            case measure => simp [intOf]; omega
          · have z3 : (i : Int) + m ≤ k := by omega
            have hkl : k < l.length := by have := HLL.out; omega
            have q1 := cell_gw HO.out.2.2 (HCELL.out k hkl)
            have hstep := outAt_hi (ys := ys) (i := i) (m := m) hkl (by omega) hm.1
            have HST := Lib.hid hstep
            clear hstep
            have hsx : ∃ sx, l[k] = sx := ⟨_, rfl⟩
            obtain ⟨sx, hsx⟩ := hsx
            rw [hsx] at q1
            have HSX := Lib.hid hsx
            clear hsx
            go_wp2_with (at_builtin; refine wpList_row rfl (.tmp 69) (.tmp 74) rfl (.slice P q E) q _ rfl (World.ownsRow.alloc HO.out.1 _) _ 1 [.string sx] rfl (src_one (by (repeat (first | (with_reducible refine cell_new_at ?_; first | with_reducible rfl | (simp; done)) | with_reducible refine cell_alloc_old _ ?_ | with_reducible refine cell_drew ?_ | with_reducible refine cell_gw (by with_reducible assumption) ?_)); done)) (by omega) ?_; rintro v1 w2 ⟨P1, E1, rfl⟩ ho1 hgr1 hat1; have HN1 := Lib.hid (sn_next HO.out.2.2 HO.out.2.1 (gw_alloc1 _ _) hgr1 hat1); have HO1 := Lib.hid ho1; clear ho1 hgr1 hat1)
            go_roundw
            case rel =>
              rw [HSX.out] at HST
              exact ⟨k + 1, P1, q + 1, E1, by omega, by have := HQ.out; have := HST.out; rw [this]; simp; omega, rfl, by go_num, Lib.hid ⟨by rw [HST.out, List.map_append]; exact HO1.out, HN1.out⟩⟩
            case measure => simp [intOf]; omega
    · obtain rfl : k = n := by omega
      have HF := Lib.hid (outAt_end l ys i m (by have := HLL.out; omega) hm.1)
      have hr : Rw wr P E (outAt l ys i m k) := by
        have h1 := HQ.out
        refine ⟨by rw [← h1]; exact HO.out.1, by rw [← h1]; exact hqb, fun s hs => ?_⟩
        rcases outAt_mem hs with h | h
        · have := HLE.out; subst this; exact HL.out.rb.sz s h
        · exact HZ.out s h
      have hth := lay1' HL.out HO.out.2.2 hr (fun k hk => HO.out.2.1 k (by rw [ownBlock_blk]; exact hk))
      have hfr : wr.frozen? ⟨X, 1, none⟩ = false := (World.frozen?_of_block (a := ⟨X, 1, none⟩) (HO.out.2.2.block X hX (fun h => h))).trans HL.out.f1
      have hce : wr.cell? ⟨X, 1, none⟩ = some (.slice (some ⟨g, 0, none⟩) k D) := cell_gw HO.out.2.2 c0
      rw [← HQ.out] at hth
      have HTH := Lib.hid hth
      clear hth hr
      go_wp2_with fail
      go_ret
      refine ⟨rfl, ?_⟩
      have := HTH.out
      have e1 := HF.out
      have e2 := HLL.out
      rw [show k = l.length from e2.symm, e1] at this
      have e3 := HLE.out
      subst e3
      exact this
end Go.Proofs.Ytdaodpojcjbggaa.Ln
