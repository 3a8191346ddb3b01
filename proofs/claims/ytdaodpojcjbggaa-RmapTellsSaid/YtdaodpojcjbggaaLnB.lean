/- Package line: what a line is in memory; its readings. -/
import Derived.Test.YtdaodpojcjbggaaLnA
namespace Go.Proofs.Ytdaodpojcjbggaa.Ln
open Go.RowKit
set_option linter.unusedVariables false

/-- Only the blocks of S may have turned. -/
structure Fr (S : Nat → Prop) (w w' : World) : Prop where
  os : w'.os = w.os
  tape : w'.tape = w.tape
  output : w'.output = w.output
  size : w.heap.size ≤ w'.heap.size
  block : ∀ k, k < w.heap.size → ¬ S k → w'.heap[k]? = w.heap[k]?
theorem Fr.refl (S : Nat → Prop) (w : World) : Fr S w w := ⟨rfl, rfl, rfl, Nat.le_refl _, fun _ _ _ => rfl⟩
theorem Fr.trans {S T : Nat → Prop} {a b c : World} (h : Fr S a b) (k : Fr T b c) (hT : ∀ x, x < a.heap.size → T x → S x) : Fr S a c :=
  ⟨k.os.trans h.os, k.tape.trans h.tape, k.output.trans h.output, Nat.le_trans h.size k.size, fun x hx hs => (k.block x (Nat.lt_of_lt_of_le hx h.size) (fun ht => hs (hT x hx ht))).trans (h.block x hx hs)⟩
theorem Fr.mono {S T : Nat → Prop} {a b : World} (h : Fr S a b) (hs : ∀ x, S x → T x) : Fr T a b := ⟨h.os, h.tape, h.output, h.size, fun k hk hn => h.block k hk (fun e => hn (hs k e))⟩
theorem Fr.alloc {S : Nat → Prop} {a b : World} (h : Fr S a b) (o : Obj) : Fr S a (b.alloc o) :=
  ⟨h.os, h.tape, h.output, by simp; have := h.size; omega, fun k hk hn => (heap_alloc_old b o (Nat.lt_of_lt_of_le hk h.size)).trans (h.block k hk hn)⟩
theorem Fr.drew {S : Nat → Prop} {a b : World} (h : Fr S a b) : Fr S a b.drew := ⟨h.os, h.tape, h.output, h.size, h.block⟩
theorem Fr.setCell {S : Nat → Prop} {a b : World} (h : Fr S a b) (p : Addr) (v : Value) (hp : S p.block) : Fr S a (b.setCell p v) :=
  ⟨h.os, h.tape, h.output, by simpa [World.setCell] using h.size, fun k hk hn => (Below.heap_setCell b p v k (fun e => hn (e ▸ hp))).trans (h.block k hk hn)⟩
theorem Fr.of_grown {w w' : World} {row : Option Nat} (h : w.grownBy w' row) : Fr (fun k => row = some k) w w' := ⟨h.os, h.tape, h.output, h.size, fun k hk hn => h.block k hk (fun e => hn e.symm)⟩
theorem Fr.below {S : Nat → Prop} {w w' : World} {B : Nat} (h : Fr S w w') (hS : ∀ k, S k → B ≤ k) (hB : B ≤ w.heap.size) : Below B w w' :=
  ⟨h.os, h.tape, h.output, h.size, fun k hk => h.block k (by omega) (fun e => by have := hS k e; omega)⟩
/-- Nothing that lay has turned. -/
abbrev Gw (w w' : World) : Prop := Fr (fun _ => False) w w'

def blk (A : Option Addr) : Option Nat := A.map (·.block)
/-- A row of texts that a call has built: its address and its capacity. -/
structure Rw (w : World) (A : Option Addr) (C : Nat) (xs : List ByteArray) : Prop where
  own : Own w 9 1 (.slice A xs.length C) xs.length (xs.map Value.string)
  len : xs.length ≤ 1000000
  sz : ∀ s ∈ xs, s.size ≤ 9223372036854775807
theorem Rw.keep {w w' : World} {A : Option Addr} {C : Nat} {xs : List ByteArray} (h : Rw w A C xs) (hb : ∀ k, blk A = some k → w'.heap[k]? = w.heap[k]?) : Rw w' A C xs := by
  refine ⟨⟨h.own.1, h.own.2.imp id ?_⟩, h.len, h.sz⟩
  rintro ⟨g, cap, cur, hv, h1, h2, h3⟩
  refine ⟨g, cap, cur, hv, h1, (hb g ?_).trans h2, h3⟩
  injection hv with e _ _
  subst e; rfl
theorem Rw.lt {w : World} {A : Option Addr} {C : Nat} {xs : List ByteArray} (h : Rw w A C xs) {k : Nat} (hk : blk A = some k) : k < w.heap.size := by
  rcases h.own.2 with ⟨e, _⟩ | ⟨g, cap, cur, hv, _, hg, _⟩
  · injection e with e _ _; subst e; simp [blk] at hk
  · injection hv with e _ _; subst e
    simp [blk] at hk; subst hk
    exact (Array.getElem?_eq_some_iff.1 hg).1
/-- Its texts, where they lie. -/
theorem Rw.at {w : World} {A : Option Addr} {C : Nat} {xs : List ByteArray} (h : Rw w A C xs) : (A = none ∧ xs = [] ∧ C = 0) ∨ ∃ g, A = some ⟨g, 0, none⟩ ∧ xs.length ≤ C ∧ C ≤ maxLen ∧ g < w.heap.size ∧ ∀ i, (hi : i < xs.length) → w.cell? ⟨g, i, none⟩ = some (.string xs[i]) := by
  rcases h.own.2 with ⟨e, h0⟩ | ⟨g, cap, cur, hv, _, hg, hc, hm, _⟩
  · injection e with e _ e3
    exact .inl ⟨e, List.eq_nil_of_length_eq_zero h0, e3⟩
  · right
    have hcells := h.own.cells (g := g) (by rw [hv]; rfl)
    injection hv with e _ e3; subst e e3
    refine ⟨g, rfl, hc, hm, (Array.getElem?_eq_some_iff.1 hg).1, fun i hi => ?_⟩
    have := hcells i (.string xs[i]) (by simp [hi])
    have e : (⟨g, 0, none⟩ : Addr).add i = ⟨g, i, none⟩ := by unfold Addr.add; split <;> simp_all
    rwa [e] at this

/-- A line in memory. -/
structure LineAt (w : World) (X : Nat) (A : Option Addr) (C : Nat) (B : Option Addr) (D : Nat) (a b : List ByteArray) : Prop where
  c0 : w.cell? ⟨X, 0, none⟩ = some (.slice A a.length C)
  c1 : w.cell? ⟨X, 1, none⟩ = some (.slice B b.length D)
  f0 : w.frozen? ⟨X, 0, none⟩ = false
  f1 : w.frozen? ⟨X, 1, none⟩ = false
  ra : Rw w A C a
  rb : Rw w B D b
  na : blk A ≠ some X
  nb : blk B ≠ some X
  nab : ∀ k, blk A = some k → blk B ≠ some k
/-- Its blocks. -/
def Ft (X : Nat) (A B : Option Addr) (k : Nat) : Prop := k = X ∨ blk A = some k ∨ blk B = some k
theorem LineAt.ltX {w X A C B D a b} (h : LineAt w X A C B D a b) : X < w.heap.size := World.block_lt_of_cell? _ _ h.c0
theorem LineAt.ft_lt {w X A C B D a b} (h : LineAt w X A C B D a b) {k : Nat} (hk : Ft X A B k) : k < w.heap.size := by
  rcases hk with rfl | hk | hk
  · exact h.ltX
  · exact h.ra.lt hk
  · exact h.rb.lt hk
theorem LineAt.keep {w w' X A C B D a b} (h : LineAt w X A C B D a b) (hb : ∀ k, Ft X A B k → w'.heap[k]? = w.heap[k]?) : LineAt w' X A C B D a b :=
  ⟨(World.cell?_of_block (a := ⟨X, 0, none⟩) (hb X (.inl rfl))).trans h.c0, (World.cell?_of_block (a := ⟨X, 1, none⟩) (hb X (.inl rfl))).trans h.c1,
    (World.frozen?_of_block (a := ⟨X, 0, none⟩) (hb X (.inl rfl))).trans h.f0, (World.frozen?_of_block (a := ⟨X, 1, none⟩) (hb X (.inl rfl))).trans h.f1,
    h.ra.keep (fun k hk => hb k (.inr (.inl hk))), h.rb.keep (fun k hk => hb k (.inr (.inr hk))), h.na, h.nb, h.nab⟩
theorem LineAt.fr {w w' X A C B D a b} {S : Nat → Prop} (h : LineAt w X A C B D a b) (hf : Fr S w w') (hd : ∀ k, Ft X A B k → ¬ S k) : LineAt w' X A C B D a b :=
  h.keep fun k hk => hf.block k (h.ft_lt hk) (hd k hk)

theorem rightNil (to : Int) (w : World) : Calls Try.prog 41 #[.pointer none, .int .i64 to] w fun e w' => e = .returned (.int .i64 1) ∧ w = w' := by
  go_enter Try.func41, Try.ntmps41
  go_wp2
  go_ret
  exact ⟨rfl, rfl⟩
theorem rightOk (X : Nat) (to : Int) (h : to = 0 ∨ to = 1) (w : World) : Calls Try.prog 41 #[.pointer (some ⟨X, 0, none⟩), .int .i64 to] w fun e w' => e = .returned (.int .i64 0) ∧ w = w' := by
  rcases h with rfl | rfl
  all_goals
    go_enter Try.func41, Try.ntmps41
    go_wp2
    go_ret
    exact ⟨rfl, rfl⟩
theorem rightBad (X : Nat) (to : Int) (h : to < 0 ∨ 2 ≤ to) (w : World) : Calls Try.prog 41 #[.pointer (some ⟨X, 0, none⟩), .int .i64 to] w fun e w' => e = .returned (.int .i64 2) ∧ w = w' := by
  by_cases h0 : to < 0
  all_goals
    have h2 : to < 0 ∨ 2 ≤ to := h
    go_enter Try.func41, Try.ntmps41
    go_wp2
    all_goals first | (go_ret; exact ⟨rfl, rfl⟩) | (exfalso; omega)
theorem endOk (to : Int) (h : to = 0 ∨ to = 1) (w : World) : Calls Try.prog 42 #[.int .i64 to] w fun e w' => e = .returned (.bool true) ∧ w = w' := by
  rcases h with rfl | rfl
  all_goals
    go_enter Try.func42, Try.ntmps42
    go_wp2
    go_ret
    exact ⟨rfl, rfl⟩
theorem endBad (to : Int) (h : to < 0 ∨ 2 ≤ to) (w : World) : Calls Try.prog 42 #[.int .i64 to] w fun e w' => e = .returned (.bool false) ∧ w = w' := by
  have h0 : (to == 0) = false := by rw [beq_eq_false_iff_ne]; omega
  have h1 : (to == 1) = false := by rw [beq_eq_false_iff_ne]; omega
  go_enter Try.func42, Try.ntmps42
  go_wp2
  go_ret
  exact ⟨rfl, rfl⟩
end Go.Proofs.Ytdaodpojcjbggaa.Ln
