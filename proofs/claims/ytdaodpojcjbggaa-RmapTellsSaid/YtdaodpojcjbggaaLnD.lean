/- Put. -/
import Derived.Test.YtdaodpojcjbggaaLnC
import Derived.Deep.AppendLies
import Derived.Deep.RegionLaw
import Derived.Deep.QuietTactic
import Derived.BigQuiet
namespace Go.Proofs.Ytdaodpojcjbggaa.Ln
open Go.RowKit
set_option linter.unusedVariables false

theorem ownBlock_blk (A : Option Addr) (n C : Nat) : (Value.slice A n C).ownBlock = blk A := by cases A <;> rfl
theorem strInfo : ∃ i, Try.prog.info? 9 = some i ∧ i.zero = some (.string ⟨#[]⟩) ∧ i.size = 1 ∧ i.bytes = 16 := ⟨_, rfl, rfl, rfl, rfl⟩
theorem setCell_cell_same {w : World} {p : Addr} {u : Value} (v : Value) (h : w.cell? p = some u) : (w.setCell p v).cell? p = some v := World.cell?_setCell_same' _ _ _ (by rw [h]; rfl)

/-- What may follow a change of a line: the line behind it, and that nothing else has turned. -/
def Then (w : World) (X : Nat) (A B : Option Addr) (a' b' : List ByteArray) (w' : World) : Prop :=
  ∃ A' C' B' D', LineAt w' X A' C' B' D' a' b' ∧ Fr (Ft X A B) w w' ∧ ∀ k, Ft X A' B' k → Ft X A B k ∨ w.heap.size ≤ k

/-- A new row laid in place 0. -/
theorem lay0 {w W w1 : World} {X A C B D a b} (L : LineAt w X A C B D a b) (hW : Gw w W) {g cap : Nat} {a' : List ByteArray} (hl : a'.length ≤ 1000000) (hz : ∀ s ∈ a', s.size ≤ 9223372036854775807)
    (hown : w1.ownsRow 0 9 1 (.slice (some ⟨g, 0, none⟩) a'.length cap) a'.length (a'.map Value.string)) (hgr : Fr (fun k => blk A = some k) W w1) (hat : blk A = some g ∨ w.heap.size ≤ g) :
    Then w X A B a' b (w1.setCell ⟨X, 0, none⟩ (.slice (some ⟨g, 0, none⟩) a'.length cap)) := by
  have hX := L.ltX
  have hXW : X < W.heap.size := Nat.lt_of_lt_of_le hX hW.size
  have gX : g ≠ X := by
    rcases hat with h | h
    · intro e; exact L.na (e ▸ h)
    · omega
  have eX : w1.heap[X]? = w.heap[X]? := (hgr.block X hXW (fun e => L.na e)).trans (hW.block X hX (fun h => h))
  have k0 : w1.cell? ⟨X, 0, none⟩ = some (.slice A a.length C) := (World.cell?_of_block (a := ⟨X, 0, none⟩) eX).trans L.c0
  have k1 : w1.cell? ⟨X, 1, none⟩ = some (.slice B b.length D) := (World.cell?_of_block (a := ⟨X, 1, none⟩) eX).trans L.c1
  have q0 : w1.frozen? ⟨X, 0, none⟩ = false := (World.frozen?_of_block (a := ⟨X, 0, none⟩) eX).trans L.f0
  have q1 : w1.frozen? ⟨X, 1, none⟩ = false := (World.frozen?_of_block (a := ⟨X, 1, none⟩) eX).trans L.f1
  have eB : ∀ k, blk B = some k → w1.heap[k]? = w.heap[k]? := fun k hk => by
    have hlt := L.rb.lt hk
    exact (hgr.block k (Nat.lt_of_lt_of_le hlt hW.size) (fun e => L.nab k e hk)).trans (hW.block k hlt (fun h => h))
  have ne : ∀ k, k ≠ X → ((w1.setCell ⟨X, 0, none⟩ (.slice (some ⟨g, 0, none⟩) a'.length cap)).heap[k]? = w1.heap[k]?) := fun k hk => Below.heap_setCell w1 ⟨X, 0, none⟩ _ k hk
  refine ⟨some ⟨g, 0, none⟩, cap, B, D, ⟨setCell_cell_same _ k0, ?_, by rw [World.frozen?_setCell]; exact q0, by rw [World.frozen?_setCell]; exact q1, ?_, ?_, ?_, L.nb, ?_⟩, ?_, ?_⟩
  · exact (World.cell?_setCell_other w1 ⟨X, 0, none⟩ ⟨X, 1, none⟩ _ (by simp)).trans k1
  · exact Rw.keep ⟨hown, hl, hz⟩ (fun k hk => ne k (by simp [blk] at hk; omega))
  · exact (L.rb.keep eB).keep (fun k hk => ne k (fun e => L.nb (e ▸ hk)))
  · simp [blk]; exact gX
  · intro k hk hB
    simp [blk] at hk; subst hk
    rcases hat with h | h
    · exact L.nab g h hB
    · have := L.rb.lt hB; omega
  · refine Fr.setCell (S := Ft X A B) (Fr.trans (S := Ft X A B) (hW.mono (fun _ h => h.elim)) hgr (fun k _ hk => .inr (.inl hk))) _ _ (.inl rfl)
  · rintro k (rfl | hk | hk)
    · exact .inl (.inl rfl)
    · simp [blk] at hk; subst hk
      rcases hat with h | h
      · exact .inl (.inr (.inl h))
      · exact .inr h
    · exact .inl (.inr (.inr hk))
theorem lay1 {w W w1 : World} {X A C B D a b} (L : LineAt w X A C B D a b) (hW : Gw w W) {g cap : Nat} {b' : List ByteArray} (hl : b'.length ≤ 1000000) (hz : ∀ s ∈ b', s.size ≤ 9223372036854775807)
    (hown : w1.ownsRow 0 9 1 (.slice (some ⟨g, 0, none⟩) b'.length cap) b'.length (b'.map Value.string)) (hgr : Fr (fun k => blk B = some k) W w1) (hat : blk B = some g ∨ w.heap.size ≤ g) :
    Then w X A B a b' (w1.setCell ⟨X, 1, none⟩ (.slice (some ⟨g, 0, none⟩) b'.length cap)) := by
  have hX := L.ltX
  have hXW : X < W.heap.size := Nat.lt_of_lt_of_le hX hW.size
  have gX : g ≠ X := by
    rcases hat with h | h
    · intro e; exact L.nb (e ▸ h)
    · omega
  have eX : w1.heap[X]? = w.heap[X]? := (hgr.block X hXW (fun e => L.nb e)).trans (hW.block X hX (fun h => h))
  have k0 : w1.cell? ⟨X, 0, none⟩ = some (.slice A a.length C) := (World.cell?_of_block (a := ⟨X, 0, none⟩) eX).trans L.c0
  have k1 : w1.cell? ⟨X, 1, none⟩ = some (.slice B b.length D) := (World.cell?_of_block (a := ⟨X, 1, none⟩) eX).trans L.c1
  have q0 : w1.frozen? ⟨X, 0, none⟩ = false := (World.frozen?_of_block (a := ⟨X, 0, none⟩) eX).trans L.f0
  have q1 : w1.frozen? ⟨X, 1, none⟩ = false := (World.frozen?_of_block (a := ⟨X, 1, none⟩) eX).trans L.f1
  have eA : ∀ k, blk A = some k → w1.heap[k]? = w.heap[k]? := fun k hk => by
    have hlt := L.ra.lt hk
    exact (hgr.block k (Nat.lt_of_lt_of_le hlt hW.size) (fun e => L.nab k hk e)).trans (hW.block k hlt (fun h => h))
  have ne : ∀ k, k ≠ X → ((w1.setCell ⟨X, 1, none⟩ (.slice (some ⟨g, 0, none⟩) b'.length cap)).heap[k]? = w1.heap[k]?) := fun k hk => Below.heap_setCell w1 ⟨X, 1, none⟩ _ k hk
  refine ⟨A, C, some ⟨g, 0, none⟩, cap, ⟨?_, setCell_cell_same _ k1, by rw [World.frozen?_setCell]; exact q0, by rw [World.frozen?_setCell]; exact q1, ?_, ?_, L.na, ?_, ?_⟩, ?_, ?_⟩
  · exact (World.cell?_setCell_other w1 ⟨X, 1, none⟩ ⟨X, 0, none⟩ _ (by simp)).trans k0
  · exact (L.ra.keep eA).keep (fun k hk => ne k (fun e => L.na (e ▸ hk)))
  · exact Rw.keep ⟨hown, hl, hz⟩ (fun k hk => ne k (by simp [blk] at hk; omega))
  · simp [blk]; exact gX
  · intro k hk hB
    simp [blk] at hB; subst hB
    rcases hat with h | h
    · exact L.nab g hk h
    · have := L.ra.lt hk; omega
  · refine Fr.setCell (S := Ft X A B) (Fr.trans (S := Ft X A B) (hW.mono (fun _ h => h.elim)) hgr (fun k _ hk => .inr (.inr hk))) _ _ (.inl rfl)
  · rintro k (rfl | hk | hk)
    · exact .inl (.inl rfl)
    · exact .inl (.inr (.inl hk))
    · simp [blk] at hk; subst hk
      rcases hat with h | h
      · exact .inl (.inr (.inr h))
      · exact .inr h

theorem cell_alloc_old {W : World} {p : Addr} {v : Value} (o : Obj) (h : W.cell? p = some v) : (W.alloc o).cell? p = some v := (World.cell?_of_block (a := p) (heap_alloc_old W o (World.block_lt_of_cell? _ _ h))).trans h
theorem cell_drew {W : World} {p : Addr} {v : Value} (h : W.cell? p = some v) : W.drew.cell? p = some v := h
theorem cell_new_at {W : World} {b : Nat} {v : Value} {t : TypeId} (h : W.heap.size = b) : (W.alloc (.cells #[v] t)).cell? ⟨b, 0, none⟩ = some v := by
  subst h; rw [World.cell?_alloc_new]; rfl
theorem cell_fr {S : Nat → Prop} {W W' : World} {p : Addr} {v : Value} (hb : Fr S W W') (hn : ¬ S p.block) (h : W.cell? p = some v) : W'.cell? p = some v := (World.cell?_of_block (a := p) (hb.block _ (World.block_lt_of_cell? _ _ h) hn)).trans h
theorem cell_gw {W W' : World} {p : Addr} {v : Value} (hb : Gw W W') (h : W.cell? p = some v) : W'.cell? p = some v := cell_fr hb (fun h => h) h
theorem news1 {W : World} {b : Nat} {v : Value} (h : W.cell? ⟨b, 0, none⟩ = some v) : ∀ j u, [v][j]? = some u → W.cell? ((⟨b, 0, none⟩ : Addr).add j) = some u := by
  intro j u hj
  cases j with
  | zero => simp at hj; subst hj; exact h
  | succ j => simp at hj
theorem one1 (s : ByteArray) : ∀ u ∈ [Value.string s], u.oneCell' = true := by
  intro u hu; simp at hu; subst hu; rfl
theorem stay {w W w1 : World} {X A C B D a b} (L : LineAt w X A C B D a b) (hW : Gw w W) {n C' : Nat} {A' : Option Addr} (hA : A' = A ∨ A' = B) (hgr : W.grownBy w1 (Value.slice A' n C').ownBlock) :
    (w1.cell? ⟨X, 0, none⟩ = some (.slice A a.length C) ∧ w1.frozen? ⟨X, 0, none⟩ = false) ∧ (w1.cell? ⟨X, 1, none⟩ = some (.slice B b.length D) ∧ w1.frozen? ⟨X, 1, none⟩ = false) := by
  have hX := L.ltX
  have hXW : X < W.heap.size := Nat.lt_of_lt_of_le hX hW.size
  have hne : some X ≠ (Value.slice A' n C').ownBlock := by
    rw [ownBlock_blk]
    rcases hA with rfl | rfl
    · exact fun e => L.na e.symm
    · exact fun e => L.nb e.symm
  have eX : w1.heap[X]? = w.heap[X]? := (hgr.block X hXW hne).trans (hW.block X hX (fun h => h))
  exact ⟨⟨(World.cell?_of_block (a := ⟨X, 0, none⟩) eX).trans L.c0, (World.frozen?_of_block (a := ⟨X, 0, none⟩) eX).trans L.f0⟩, (World.cell?_of_block (a := ⟨X, 1, none⟩) eX).trans L.c1, (World.frozen?_of_block (a := ⟨X, 1, none⟩) eX).trans L.f1⟩

set_option maxRecDepth 100000 in
set_option maxHeartbeats 4000000 in
theorem put0 {w : World} {X A C B D a b} (L : LineAt w X A C B D a b) (s : ByteArray) (hs : s.size ≤ 9223372036854775807) (hl : a.length < 1000000) :
    Calls Try.prog 15 #[.pointer (some ⟨X, 0, none⟩), .int .i64 0, .string s] w fun e w' => e = .returned (.int .i64 0) ∧ Then w X A B (a ++ [s]) b w' := by
  obtain ⟨i, hi, hz, hsz, hb⟩ := strInfo
  have c0 := L.c0
  have hX := L.ltX
  have HL := Lib.hid L
  have h63 : a.length + 1 ≤ maxLen := by simp [maxLen]; omega
  clear L
  go_enter Try.func15, Try.ntmps15
  go_wp2_with (go_at_call 41; refine (rightOk _ _ (by omega) _).mono ?_; rintro e w' ⟨rfl, rfl⟩)
  go_region_law (refine step_append_lies _ rfl (.tmp 21) (.tmp 23) 26 rfl 0 9 i (.string ⟨#[]⟩) 1 16 Try.underlying26 hi hz hsz hb rfl (by omega) (.slice A a.length C) a.length (a.map Value.string) rfl (World.ownsRow.alloc (World.ownsRow.drew HL.out.ra.own) _) ⟨w.heap.size, 0, none⟩ 1 1 [.string s] rfl rfl (news1 (by (repeat (first | (with_reducible refine cell_new_at ?_; first | with_reducible rfl | (simp; done)) | with_reducible refine cell_alloc_old _ ?_ | with_reducible refine cell_drew ?_ | with_reducible refine cell_gw (by with_reducible assumption) ?_)); done)) (one1 s) (by omega) h63 (by omega) (Nat.zero_le _) _ rfl ?_; intro g cap w1 hown hgr hat hlt; have hst := (stay HL.out (((Fr.refl _ w).alloc (.cells #[.string s] 9)).drew) (.inl rfl) hgr).1)
  all_goals
    go_wp2_with fail
    go_ret
    refine ⟨rfl, ?_⟩
    have el : (a ++ [s]).length = a.length + 1 := by simp
    have h := lay0 (w1 := w1) (g := g) (cap := cap) (a' := a ++ [s]) HL.out (((Fr.refl _ w).alloc (.cells #[.string s] 9)).drew) (by simp; omega)
      (by intro x hx; rcases List.mem_append.1 hx with hx | hx; (· exact HL.out.ra.sz x hx); (· simp at hx; subst hx; exact hs))
      (by rw [el, List.map_append]; exact hown) ((Fr.of_grown hgr).mono (by rw [ownBlock_blk]; exact fun _ h => h)) (hat.imp (by rw [ownBlock_blk]; exact id) (by rintro rfl; show w.heap.size ≤ (w.alloc _).heap.size; rw [World.size_alloc]; omega))
    rw [el] at h
    exact h
set_option maxRecDepth 100000 in
set_option maxHeartbeats 4000000 in
theorem put1 {w : World} {X A C B D a b} (L : LineAt w X A C B D a b) (s : ByteArray) (hs : s.size ≤ 9223372036854775807) (hl : b.length < 1000000) :
    Calls Try.prog 15 #[.pointer (some ⟨X, 0, none⟩), .int .i64 1, .string s] w fun e w' => e = .returned (.int .i64 0) ∧ Then w X A B a (b ++ [s]) w' := by
  obtain ⟨i, hi, hz, hsz, hb⟩ := strInfo
  have c1 := L.c1
  have hX := L.ltX
  have HL := Lib.hid L
  have h63 : b.length + 1 ≤ maxLen := by simp [maxLen]; omega
  clear L
  go_enter Try.func15, Try.ntmps15
  go_wp2_with (go_at_call 41; refine (rightOk _ _ (by omega) _).mono ?_; rintro e w' ⟨rfl, rfl⟩)
  go_region_law (refine step_append_lies _ rfl (.tmp 21) (.tmp 23) 26 rfl 0 9 i (.string ⟨#[]⟩) 1 16 Try.underlying26 hi hz hsz hb rfl (by omega) (.slice B b.length D) b.length (b.map Value.string) rfl (World.ownsRow.alloc (World.ownsRow.drew HL.out.rb.own) _) ⟨w.heap.size, 0, none⟩ 1 1 [.string s] rfl rfl (news1 (by (repeat (first | (with_reducible refine cell_new_at ?_; first | with_reducible rfl | (simp; done)) | with_reducible refine cell_alloc_old _ ?_ | with_reducible refine cell_drew ?_ | with_reducible refine cell_gw (by with_reducible assumption) ?_)); done)) (one1 s) (by omega) h63 (by omega) (Nat.zero_le _) _ rfl ?_; intro g cap w1 hown hgr hat hlt; have hst := (stay HL.out (((Fr.refl _ w).alloc (.cells #[.string s] 9)).drew) (.inr rfl) hgr).2)
  all_goals
    go_wp2_with fail
    go_ret
    refine ⟨rfl, ?_⟩
    have el : (b ++ [s]).length = b.length + 1 := by simp
    have h := lay1 (w1 := w1) (g := g) (cap := cap) (b' := b ++ [s]) HL.out (((Fr.refl _ w).alloc (.cells #[.string s] 9)).drew) (by simp; omega)
      (by intro x hx; rcases List.mem_append.1 hx with hx | hx; (· exact HL.out.rb.sz x hx); (· simp at hx; subst hx; exact hs))
      (by rw [el, List.map_append]; exact hown) ((Fr.of_grown hgr).mono (by rw [ownBlock_blk]; exact fun _ h => h)) (hat.imp (by rw [ownBlock_blk]; exact id) (by rintro rfl; show w.heap.size ≤ (w.alloc _).heap.size; rw [World.size_alloc]; omega))
    rw [el] at h
    exact h
end Go.Proofs.Ytdaodpojcjbggaa.Ln
