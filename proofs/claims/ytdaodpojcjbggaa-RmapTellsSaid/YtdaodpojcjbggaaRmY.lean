/- Both tables side by side. -/
import Derived.Test.YtdaodpojcjbggaaRmX
namespace Go.Proofs.Ytdaodpojcjbggaa.Rm
open Go.RowKit Go.Proofs.Ytdaodpojcjbggaa.Ln
set_option linter.unusedVariables false
set_option linter.unusedSimpArgs false

/-- Both tables: the program's at X, the document's at Y; and blocks that are neither's. -/
def D (w0 w : World) (Bx : List (Nat × Obj)) (X Y : Nat) (r b : Int) (l : List M) (b2 : Int) (k : List M) : Prop :=
  ∃ H P C, Gw w0 w ∧ TS w0 w H X r b l ∧ RTab w Y r b2 P C k ∧ Y ∈ H ∧ Y ≠ X ∧ w0.heap.size ≤ Y ∧ (∀ j, (Value.slice P k.length C).ownBlock = some j → j ∈ H ∧ j ≠ X ∧ w0.heap.size ≤ j) ∧ ∀ p ∈ Bx, p.1 ∉ H ∧ w.heap[p.1]? = some p.2
theorem D.g {w0 w Bx X Y r b l b2 k} (h : D w0 w Bx X Y r b l b2 k) : Gw w0 w := by obtain ⟨_, _, _, h, _⟩ := h; exact h
theorem D.ok {w0 w Bx X Y r b l b2 k} (h : D w0 w Bx X Y r b l b2 k) : Ok r b l := by obtain ⟨_, _, _, _, h, _⟩ := h; exact h.ok
theorem D.blk {w0 w Bx X Y r b l b2 k} (h : D w0 w Bx X Y r b l b2 k) {p : Nat × Obj} (hp : p ∈ Bx) : w.heap[p.1]? = some p.2 := by obtain ⟨_, _, _, _, _, _, _, _, _, _, h⟩ := h; exact (h p hp).2
theorem D.gw {w0 w w' Bx X Y r b l b2 k} (h : D w0 w Bx X Y r b l b2 k) (hg : Gw w w') : D w0 w' Bx X Y r b l b2 k := by
  obtain ⟨H, P, C, h0, h1, h2, h3, h4, h5, h6, h7⟩ := h
  exact ⟨H, P, C, gw_trans h0 hg, h1.gw hg, h2.gw hg, h3, h4, h5, h6, fun p hp => ⟨(h7 p hp).1, (hg.block _ (Array.getElem?_eq_some_iff.1 (h7 p hp).2).1 (fun h => h)).trans (h7 p hp).2⟩⟩
theorem D.box {w0 w Bx X Y r b l b2 k} (h : D w0 w Bx X Y r b l b2 k) (o : Obj) : D w0 (w.alloc o) ((w.heap.size, o) :: Bx) X Y r b l b2 k := by
  have hg := gw_alloc1 w o
  obtain ⟨H, P, C, h0, h1, h2, h3, h4, h5, h6, h7⟩ := h
  refine ⟨H, P, C, gw_trans h0 hg, h1.gw hg, h2.gw hg, h3, h4, h5, h6, fun p hp => ?_⟩
  rcases List.mem_cons.1 hp with rfl | hp
  · exact ⟨fun e => by have := h1.2.2.1 _ e; simp at this, heap_alloc_new w o⟩
  · exact ⟨(h7 p hp).1, (hg.block _ (Array.getElem?_eq_some_iff.1 (h7 p hp).2).1 (fun h => h)).trans (h7 p hp).2⟩
theorem D.drop {w0 w Bx X Y r b l b2 k} (h : D w0 w Bx X Y r b l b2 k) : D w0 w [] X Y r b l b2 k := by
  obtain ⟨H, P, C, h0, h1, h2, h3, h4, h5, h6, h7⟩ := h
  exact ⟨H, P, C, h0, h1, h2, h3, h4, h5, h6, fun p hp => by simp at hp⟩
theorem TS.fr {w0 w w' H X r b l} {S : Nat → Prop} (h : TS w0 w H X r b l) (hf : Fr S w w') (hS : ∀ j, S j → j ∈ H) (hX : ¬ S X) : TS w0 w' H X r b l := by
  obtain ⟨h1, h2, h3, A, C, T, h4⟩ := h
  exact ⟨h1, h2, fun k hk => by have := h3 k hk; have := hf.size; omega, A, C, T.keep hf.size (hf.block X T.ltX hX) (fun k hk hlt => hf.block k hlt (fun e => (h4 k hk).1 (hS k e))), h4⟩
theorem TS.fr2 {w0 w w' H X r b l} {S : Nat → Prop} (h : TS w0 w H X r b l) (hf : Fr S w w') (hS : ∀ j, S j → j ∈ H) (hX : ¬ S X) {x : Nat} (h1 : w.heap.size ≤ x) (h2 : x < w'.heap.size) : TS w0 w' (x :: H) X r b l := by
  obtain ⟨a1, a2, a3, A, C, T, a4⟩ := h
  refine ⟨List.mem_cons_of_mem _ a1, a2, fun k hk => ?_, A, C, T.keep hf.size (hf.block X T.ltX hX) (fun k hk hlt => hf.block k hlt (fun e => (a4 k hk).1 (hS k e))), fun k hk => ⟨fun e => ?_, (a4 k hk).2⟩⟩
  · rcases List.mem_cons.1 hk with rfl | hk
    · exact h2
    · have := a3 k hk; have := hf.size; omega
  · rcases List.mem_cons.1 e with rfl | e
    · have := T.maps.lt hk; omega
    · exact (a4 k hk).1 e
theorem RTab.fx {w w' : World} {X Y : Nat} {r b : Int} {P : Option Addr} {C : Nat} {k : List M} (h : RTab w Y r b P C k) (hf : Fx X w w') (hY : Y ≠ X) (hP : ∀ j, (Value.slice P k.length C).ownBlock = some j → j ≠ X) : RTab w' Y r b P C k := by
  refine ⟨(hf.block Y h.ltY hY).trans h.blkY, own_blk h.own (fun j hj => ?_), h.ne⟩
  rcases h.own.2 with ⟨e, _⟩ | ⟨g, cap, cur, hv, _, hg, _⟩
  · rw [e] at hj; cases hj
  · have hj2 := hj
    rw [hv] at hj
    have hj := Option.some.inj hj
    subst hj
    exact hf.block _ (Array.getElem?_eq_some_iff.1 hg).1 (hP _ hj2)
/-- What a call of either table leaves. -/
def DP (w0 : World) (Bx : List (Nat × Obj)) (X Y : Nat) (r b : Int) (l : List M) (b2 : Int) (k : List M) (ret e : Ending) (w' : World) : Prop := e = ret ∧ D w0 w' Bx X Y r b l b2 k
theorem d_tab {w0 w Bx X Y r b l b2 k} (h : D w0 w Bx X Y r b l b2 k) {f : Nat} {args : Array Value} {b' : Int} {l' : List M} {ret : Ending}
    (hc : ∀ H, TS w0 w H X r b l → Calls Try.prog f args w (TabP w0 w H X r b' l' ret)) : Calls Try.prog f args w (DP w0 Bx X Y r b' l' b2 k ret) := by
  obtain ⟨H, P, C, h0, h1, h2, h3, h4, h5, h6, h7⟩ := h
  refine (hc H h1).mono ?_
  rintro e w' ⟨rfl, ht, hf⟩
  refine ⟨rfl, H, P, C, gw_fx h0 h1.2.1 hf, ht, h2.fx hf h4 (fun j hj => (h6 j hj).2.1), h3, h4, h5, h6, fun p hp => ⟨(h7 p hp).1, (hf.block _ (Array.getElem?_eq_some_iff.1 (h7 p hp).2).1 (fun e => (h7 p hp).1 (e ▸ h1.1))).trans (h7 p hp).2⟩⟩
theorem d_put {w0 w Bx X Y r b l b2 k} (h : D w0 w Bx X Y r b l b2 k) (m : M) (hw : Wf m) : Calls Try.prog 31 #[.pointer (some ⟨X, 0, none⟩), agg m] w (DP w0 Bx X Y r b (putL r b l m) b2 k (.returned (.bool (putB r b l m)))) :=
  d_tab h fun H ht => put_ ht m hw
theorem d_cut {w0 w Bx X Y r b l b2 k} (h : D w0 w Bx X Y r b l b2 k) (n : Int) (hn : -9223372036854775808 ≤ n ∧ n < 9223372036854775808) : Calls Try.prog 36 #[.pointer (some ⟨X, 0, none⟩), .int .i64 n] w (DP w0 Bx X Y r (cutB b n) (l.drop (pos l (cutB b n))) b2 k (.returned (.tuple #[]))) :=
  d_tab h fun H ht => cut_ ht n hn
theorem own_size {w : World} {e size : Nat} {v : Value} {n : Nat} {xs : List Value} (h : Own w e size v n xs) {j : Nat} (hj : v.ownBlock = some j) : j < w.heap.size := by
  rcases h.2 with ⟨e, _⟩ | ⟨g, cap, cur, hv, _, hg, _⟩
  · rw [e] at hj; cases hj
  · rw [hv] at hj
    have hj := Option.some.inj hj
    subst hj
    exact (Array.getElem?_eq_some_iff.1 hg).1
theorem d_ref' {w0 w w' : World} {Bx : List (Nat × Obj)} {X Y : Nat} {r b : Int} {l : List M} {b2 : Int} {k : List M} {b2' : Int} {k' : List M} {H : List Nat} {P P' : Option Addr} {C C' : Nat}
    (h0 : Gw w0 w) (h1 : TS w0 w H X r b l) (h2 : RTab w Y r b2 P C k) (h3 : Y ∈ H) (h4 : Y ≠ X) (h5 : w0.heap.size ≤ Y) (h6 : ∀ j, (Value.slice P k.length C).ownBlock = some j → j ∈ H ∧ j ≠ X ∧ w0.heap.size ≤ j) (h7 : ∀ p ∈ Bx, p.1 ∉ H ∧ w.heap[p.1]? = some p.2)
    (t : RTab w' Y r b2' P' C' k') (hf : Fr (fun j => j = Y ∨ (Value.slice P k.length C).ownBlock = some j) w w') (hx : ∀ x, (Value.slice P' k'.length C').ownBlock = some x → (Value.slice P k.length C).ownBlock = some x ∨ w.heap.size ≤ x) :
    D w0 w' Bx X Y r b l b2' k' := by
  have hS : ∀ j, (j = Y ∨ (Value.slice P k.length C).ownBlock = some j) → j ∈ H := fun j hj => by
    rcases hj with rfl | hj
    · exact h3
    · exact (h6 j hj).1
  have hX : ¬ (X = Y ∨ (Value.slice P k.length C).ownBlock = some X) := fun hj => by
    rcases hj with hj | hj
    · exact h4 hj.symm
    · exact (h6 X hj).2.1 rfl
  have hg : Gw w0 w' := Fr.trans h0 hf (fun x hx hj => by
    rcases hj with hj | hj
    · omega
    · have := (h6 x hj).2.2; omega)
  have hB : ∀ p ∈ Bx, p.1 < w.heap.size ∧ w'.heap[p.1]? = some p.2 := fun p hp =>
    have hlt := (Array.getElem?_eq_some_iff.1 (h7 p hp).2).1
    ⟨hlt, (hf.block _ hlt (fun e => (h7 p hp).1 (hS _ e))).trans (h7 p hp).2⟩
  cases hj : (Value.slice P' k'.length C').ownBlock with
  | none => exact ⟨H, P', C', hg, h1.fr hf hS hX, t, h3, h4, h5, fun j e => (by rw [hj] at e; cases e), fun p hp => ⟨(h7 p hp).1, (hB p hp).2⟩⟩
  | some x =>
    rcases hx x hj with e | e
    · exact ⟨H, P', C', hg, h1.fr hf hS hX, t, h3, h4, h5, fun j e2 => by rw [hj] at e2; cases e2; exact h6 x e, fun p hp => ⟨(h7 p hp).1, (hB p hp).2⟩⟩
    · have hlt : x < w'.heap.size := own_size t.own hj
      have hXx : X < w.heap.size := h1.2.2.1 X h1.1
      refine ⟨x :: H, P', C', hg, h1.fr2 hf hS hX e hlt, t, List.mem_cons_of_mem _ h3, h4, h5, fun j e2 => by rw [hj] at e2; cases e2; exact ⟨List.mem_cons_self, by omega, by have := h0.size; omega⟩, fun p hp => ⟨fun e3 => ?_, (hB p hp).2⟩⟩
      rcases List.mem_cons.1 e3 with e3 | e3
      · have := (hB p hp).1; omega
      · exact (h7 p hp).1 e3
theorem d_doc {w0 w Bx X Y r b l b2 k} (h : D w0 w Bx X Y r b l b2 k) {f : Nat} {args : Array Value} {b2' : Int} {k' : List M} {ret : Ending}
    (hc : ∀ P C, RTab w Y r b2 P C k → Calls Try.prog f args w (fun e w' => e = ret ∧ ∃ P' C', RTab w' Y r b2' P' C' k' ∧ Fr (fun j => j = Y ∨ (Value.slice P k.length C).ownBlock = some j) w w' ∧ ∀ x, (Value.slice P' k'.length C').ownBlock = some x → (Value.slice P k.length C).ownBlock = some x ∨ w.heap.size ≤ x)) :
    Calls Try.prog f args w (DP w0 Bx X Y r b l b2' k' ret) := by
  obtain ⟨H, P, C, h0, h1, h2, h3, h4, h5, h6, h7⟩ := h
  refine (hc P C h2).mono ?_
  rintro e w' ⟨rfl, P', C', t, hf, hx⟩
  refine ⟨rfl, d_ref' (w := w) (P := P) (C := C) h0 h1 h2 h3 h4 h5 h6 h7 t hf hx⟩
theorem d_rput {w0 w Bx X Y r b l b2 k} (h : D w0 w Bx X Y r b l b2 k) (hk : k.length ≤ 2900) (hb : 0 ≤ b2 ∧ b2 ≤ 2305843009213693952) (m : M) : Calls Try.prog 45 #[.pointer (some ⟨Y, 0, none⟩), agg m] w (DP w0 Bx X Y r b l b2 (if putB r b2 k m then k ++ [m] else k) (.returned (.bool (putB r b2 k m)))) :=
  d_doc h fun P C t => (rput t hk h.ok.r hb m).mono fun e w' hh => hh
theorem d_rcut {w0 w Bx X Y r b l b2 k} (h : D w0 w Bx X Y r b l b2 k) (hk : k.length ≤ 2900) (n : Int) (hn : -9223372036854775808 ≤ n ∧ n < 9223372036854775808) : Calls Try.prog 46 #[.pointer (some ⟨Y, 0, none⟩), .int .i64 n] w (DP w0 Bx X Y r b l (cutB b2 n) (k.filter fun x => decide (cutB b2 n ≤ x.at')) (.returned (.tuple #[]))) :=
  d_doc h fun P C t => (rcut t (by omega) n hn).mono fun e w' hh => by
    obtain ⟨he, P', C', t', hf, hx⟩ := hh
    exact ⟨he, P', C', t', Fr.mono hf (fun _ e => .inl e), fun x e => .inr (hx x e)⟩
theorem d_at {w0 w Bx X Y r b l b2 k} (h : D w0 w Bx X Y r b l b2 k) (a : Int) : Calls Try.prog 34 #[.pointer (some ⟨X, 0, none⟩), .int .i64 a] w (AtP (get l a) (has l a) w) := by
  obtain ⟨H, P, C, h0, h1, h2, _⟩ := h
  exact at_ h1 a
theorem d_rat {w0 w Bx X Y r b l b2 k} (h : D w0 w Bx X Y r b l b2 k) (hk : k.length ≤ 2900) (a : Int) : Calls Try.prog 48 #[.pointer (some ⟨Y, 0, none⟩), .int .i64 a] w (AtP (get k a) (has k a) w) := by
  obtain ⟨H, P, C, h0, h1, h2, _⟩ := h
  exact rat h2 (by omega) a
theorem d_len {w0 w Bx X Y r b l b2 k} (h : D w0 w Bx X Y r b l b2 k) : Calls Try.prog 33 #[.pointer (some ⟨X, 0, none⟩)] w fun e w' => e = .returned (.int .i64 (l.length : Int)) ∧ w = w' := by
  obtain ⟨H, P, C, h0, h1, h2, _⟩ := h
  exact len_ h1
theorem d_begin {w0 w Bx X Y r b l b2 k} (h : D w0 w Bx X Y r b l b2 k) : Calls Try.prog 37 #[.pointer (some ⟨X, 0, none⟩)] w fun e w' => e = .returned (.int .i64 b) ∧ w = w' := by
  obtain ⟨H, P, C, h0, h1, h2, _⟩ := h
  exact begin_ h1
theorem d_all {w0 w Bx X Y r b l b2 k} (h : D w0 w Bx X Y r b l b2 k) : Calls Try.prog 32 #[.pointer (some ⟨X, 0, none⟩)] w (CloneP w l) := by
  obtain ⟨H, P, C, h0, h1, h2, _⟩ := h
  exact all_ h1
theorem d_rall {w0 w Bx X Y r b l b2 k} (h : D w0 w Bx X Y r b l b2 k) (hk : k.length ≤ 2900) (hb : 0 ≤ b2 ∧ b2 ≤ 2305843009213693952) : Calls Try.prog 49 #[.pointer (some ⟨Y, 0, none⟩)] w (CloneP w (rows k b2 r.toNat)) := by
  have hr := h.ok.r
  obtain ⟨H, P, C, h0, h1, h2, _⟩ := h
  exact rall h2 (by omega) hr hb
theorem D.cells {w0 w Bx X Y r b l b2 k} (h : D w0 w Bx X Y r b l b2 k) : w.cell? ⟨Y, 1, none⟩ = some (.int .i64 b2) ∧ ∃ P C, w.cell? ⟨Y, 2, none⟩ = some (.slice P k.length C) := by
  obtain ⟨H, P, C, h0, h1, h2, _⟩ := h
  exact ⟨cellAt h2.blkY 1 _ rfl, P, C, cellAt h2.blkY 2 _ rfl⟩
/-- What both tables say alike. -/
theorem perm_has {l k : List M} (h : l.Perm k) (a : Int) : has l a = has k a := by
  rw [Bool.eq_iff_iff, has_mem, has_mem]
  exact ⟨fun ⟨x, hx, e⟩ => ⟨x, h.mem_iff.1 hx, e⟩, fun ⟨x, hx, e⟩ => ⟨x, h.mem_iff.2 hx, e⟩⟩
theorem srt_uniq {l : List M} (hs : Srt l) {x y : M} (hx : x ∈ l) (hy : y ∈ l) (e : x.at' = y.at') : x = y := by
  obtain ⟨i, hi, rfl⟩ := List.getElem_of_mem hx
  obtain ⟨j, hj, rfl⟩ := List.getElem_of_mem hy
  rcases Nat.lt_trichotomy i j with h | h | h
  · have := (List.pairwise_iff_getElem.1 hs) i j hi hj h; omega
  · subst h; rfl
  · have := (List.pairwise_iff_getElem.1 hs) j i hj hi h; omega
theorem get_mem {k : List M} {a : Int} (h : has k a = true) : get k a ∈ k ∧ (get k a).at' = a := by
  unfold get
  cases hf : k.find? (fun x => decide (x.at' = a)) with
  | none =>
    rw [List.find?_eq_none] at hf
    obtain ⟨x, hx, e⟩ := (has_mem k a).1 h
    exact absurd (by simpa using e) (hf x hx)
  | some x =>
    exact ⟨List.mem_of_find?_eq_some hf, by simpa using List.find?_some hf⟩
theorem perm_get {l k : List M} (hs : Srt l) (h : l.Perm k) (a : Int) : get l a = get k a := by
  cases hh : has k a with
  | false => rw [get_none hh, get_none ((perm_has h a).trans hh)]
  | true =>
    obtain ⟨h1, h2⟩ := get_mem hh
    obtain ⟨h3, h4⟩ := get_mem ((perm_has h a).trans hh)
    exact srt_uniq hs h3 (h.mem_iff.2 h1) (h4.trans h2.symm)
theorem perm_put {l k : List M} (h : l.Perm k) (r b : Int) (m : M) : putB r b l m = putB r b k m ∧ (putL r b l m).Perm (if putB r b k m then k ++ [m] else k) := by
  have e : putB r b l m = putB r b k m := by unfold putB; rw [perm_has h]
  refine ⟨e, ?_⟩
  unfold putL
  rw [e]
  split
  · have h1 : (ins l m).Perm (m :: l) := by
      unfold ins
      have h2 := List.perm_middle (a := m) (l₁ := l.take (pos l m.at')) (l₂ := l.drop (pos l m.at'))
      rwa [List.take_append_drop] at h2
    exact h1.trans ((List.Perm.cons m h).trans (List.perm_append_singleton m k).symm)
  · exact h
theorem perm_cut {l k : List M} (hs : Srt l) (h : l.Perm k) (b : Int) : (l.drop (pos l b)).Perm (k.filter fun x => decide (b ≤ x.at')) := by
  rw [drop_pos hs]; exact h.filter _
theorem rows_mem (k : List M) (b : Int) (j : Nat) (x : M) : x ∈ rows k b j ↔ ∃ i : Nat, i < j ∧ has k (b + i) = true ∧ x = get k (b + i) := by
  unfold rows
  rw [List.mem_flatMap]
  constructor
  · rintro ⟨i, hi, hx⟩
    refine ⟨i, by simpa using hi, ?_⟩
    split at hx
    · rename_i h; exact ⟨h, by simpa using hx⟩
    · simp at hx
  · rintro ⟨i, hi, h, rfl⟩
    exact ⟨i, by simpa using hi, by rw [if_pos h]; simp⟩
theorem rows_srt (k : List M) (b : Int) (j : Nat) : Srt (rows k b j) := by
  induction j with
  | zero => exact List.Pairwise.nil
  | succ j ih =>
    rw [rows_succ]
    unfold Srt
    rw [List.pairwise_append]
    refine ⟨ih, by split <;> simp, fun x hx y hy => ?_⟩
    obtain ⟨i, hi, h, rfl⟩ := (rows_mem k b j x).1 hx
    split at hy
    · rename_i h2
      have : y = get k (b + j) := by simpa using hy
      subst this
      rw [(get_mem h).2, (get_mem h2).2]
      omega
    · simp at hy
theorem perm_rows {r b : Int} {l k : List M} (ok : Ok r b l) (h : l.Perm k) : rows k b r.toNat = l := by
  refine srt_ext (rows_srt _ _ _) ok.srt (fun x => ?_)
  rw [rows_mem]
  constructor
  · rintro ⟨i, hi, hh, rfl⟩
    exact h.mem_iff.2 (get_mem hh).1
  · intro hx
    have h1 := ok.within x hx
    have h2 := ok.r
    have hh : has k x.at' = true := (has_mem k _).2 ⟨x, h.mem_iff.1 hx, rfl⟩
    have e : b + ((x.at' - b).toNat : Int) = x.at' := by omega
    refine ⟨(x.at' - b).toNat, by omega, by rw [e]; exact hh, ?_⟩
    rw [e]
    obtain ⟨h3, h4⟩ := get_mem hh
    exact srt_uniq ok.srt hx (h.mem_iff.2 h3) h4.symm
end Go.Proofs.Ytdaodpojcjbggaa.Rm
