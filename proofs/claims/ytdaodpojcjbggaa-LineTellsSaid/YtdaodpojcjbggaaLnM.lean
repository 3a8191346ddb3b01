/- A line, and two rows that the law itself builds, each standing while the others turn. -/
import Derived.Test.YtdaodpojcjbggaaLnK
namespace Go.Proofs.Ytdaodpojcjbggaa.Ln
open Go.RowKit
set_option linter.unusedVariables false

/-- The line at X and the rows x, y, all made since w0, their blocks apart. -/
def LX (w0 W : World) (X : Nat) (a b : List ByteArray) (P : Option Addr) (Cp : Nat) (x : List ByteArray) (R : Option Addr) (Cr : Nat) (y : List ByteArray) : Prop :=
  ∃ A C B D, LineAt W X A C B D a b ∧ (∀ k, Ft X A B k → w0.heap.size ≤ k) ∧ Gw w0 W ∧ Rw W P Cp x ∧ Rw W R Cr y ∧
    (∀ k, blk P = some k → ¬ Ft X A B k ∧ w0.heap.size ≤ k) ∧ (∀ k, blk R = some k → ¬ Ft X A B k ∧ w0.heap.size ≤ k) ∧ (∀ k, blk P = some k → blk R ≠ some k)
theorem LX.of_st {w0 W : World} {X a b} (h : St w0 W X a b) : LX w0 W X a b none 0 [] none 0 [] := by
  obtain ⟨⟨A, C, B, D, L, hf⟩, hg⟩ := h
  exact ⟨A, C, B, D, L, hf, hg, ⟨World.ownsRow_nil _ _ _ _, by simp, by simp⟩, ⟨World.ownsRow_nil _ _ _ _, by simp, by simp⟩, by simp [blk], by simp [blk], by simp [blk]⟩
theorem LX.st {w0 W : World} {X a b P Cp x R Cr y} (h : LX w0 W X a b P Cp x R Cr y) : St w0 W X a b := by
  obtain ⟨A, C, B, D, L, hf, hg, _⟩ := h
  exact ⟨⟨A, C, B, D, L, hf⟩, hg⟩
theorem LX.gw {w0 W W' : World} {X a b P Cp x R Cr y} (h : LX w0 W X a b P Cp x R Cr y) (hW : Gw W W') : LX w0 W' X a b P Cp x R Cr y := by
  obtain ⟨A, C, B, D, L, hf, hg, hp, hr, h1, h2, h3⟩ := h
  exact ⟨A, C, B, D, L.fr hW (fun _ _ h => h), hf, gw_trans hg hW, hp.keep (fun k hk => hW.block k (hp.lt hk) (fun h => h)), hr.keep (fun k hk => hW.block k (hr.lt hk) (fun h => h)), h1, h2, h3⟩
theorem LX.rows {w0 W : World} {X a b P Cp x R Cr y} (h : LX w0 W X a b P Cp x R Cr y) : Rw W P Cp x ∧ Rw W R Cr y ∧ Gw w0 W := by
  obtain ⟨A, C, B, D, L, hf, hg, hp, hr, h1, h2, h3⟩ := h
  exact ⟨hp, hr, hg⟩
theorem LX.then {w0 w w' : World} {X A C B D a b P Cp x R Cr y a' b'} (L : LineAt w X A C B D a b) (hf : ∀ k, Ft X A B k → w0.heap.size ≤ k) (hg : Gw w0 w) (hp : Rw w P Cp x) (hr : Rw w R Cr y)
    (h1 : ∀ k, blk P = some k → ¬ Ft X A B k ∧ w0.heap.size ≤ k) (h2 : ∀ k, blk R = some k → ¬ Ft X A B k ∧ w0.heap.size ≤ k) (h3 : ∀ k, blk P = some k → blk R ≠ some k) (ht : Then w X A B a' b' w') : LX w0 w' X a' b' P Cp x R Cr y := by
  obtain ⟨A', C', B', D', L', hfr, hft⟩ := ht
  refine ⟨A', C', B', D', L', fun k hk => ?_, ?_, hp.keep (fun k hk => hfr.block k (hp.lt hk) (h1 k hk).1), hr.keep (fun k hk => hfr.block k (hr.lt hk) (h2 k hk).1), fun k hk => ⟨fun hk' => ?_, (h1 k hk).2⟩, fun k hk => ⟨fun hk' => ?_, (h2 k hk).2⟩, h3⟩
  · rcases hft k hk with h | h
    · exact hf k h
    · have := hg.size; omega
  · exact Fr.trans hg hfr (fun x hx h => by have := hf x h; omega)
  · rcases hft k hk' with h | h
    · exact (h1 k hk).1 h
    · have := hp.lt hk; omega
  · rcases hft k hk' with h | h
    · exact (h2 k hk).1 h
    · have := hr.lt hk; omega
theorem lx_take0 {w0 w : World} {X a b P Cp x R Cr y} (h : LX w0 w X a b P Cp x R Cr y) (s : ByteArray) (r : List ByteArray) (ha : a = s :: r) (hl : a.length ≤ 900000) :
    Calls Try.prog 17 #[.pointer (some ⟨X, 0, none⟩), .int .i64 0, .int .i64 0] w fun e w' => e = .returned (.tuple #[.string s, .int .i64 0]) ∧ LX w0 w' X r b P Cp x R Cr y := by
  subst ha
  obtain ⟨A, C, B, D, L, hf, hg, hp, hr, h1, h2, h3⟩ := h
  exact (take0 L 0 (by simp) hl).mono fun e w' ⟨he, ht⟩ => ⟨he, LX.then L hf hg hp hr h1 h2 h3 ht⟩
theorem lx_take1 {w0 w : World} {X a b P Cp x R Cr y} (h : LX w0 w X a b P Cp x R Cr y) (s : ByteArray) (r : List ByteArray) (hb : b = s :: r) (hl : b.length ≤ 900000) :
    Calls Try.prog 17 #[.pointer (some ⟨X, 0, none⟩), .int .i64 1, .int .i64 0] w fun e w' => e = .returned (.tuple #[.string s, .int .i64 0]) ∧ LX w0 w' X a r P Cp x R Cr y := by
  subst hb
  obtain ⟨A, C, B, D, L, hf, hg, hp, hr, h1, h2, h3⟩ := h
  exact (take1 L 0 (by simp) hl).mono fun e w' ⟨he, ht⟩ => ⟨he, LX.then L hf hg hp hr h1 h2 h3 ht⟩

/-- One text more in the row x. -/
theorem lx_app {w0 W w1 : World} {X a b P Cp x R Cr y} (h : LX w0 W X a b P Cp x R Cr y) (s : ByteArray) (hs : s.size ≤ 9223372036854775807) (hl : x.length < 1000000) {P' : Option Addr} {C' : Nat}
    (hown : Own w1 9 1 (.slice P' (x.length + 1) C') (x.length + 1) (x.map Value.string ++ [.string s])) (hgr : W.grownBy w1 (Value.slice P x.length Cp).ownBlock) (hat : (Value.slice P' (x.length + 1) C').ownBlock = (Value.slice P x.length Cp).ownBlock ∨ (Value.slice P' (x.length + 1) C').ownBlock = some W.heap.size) :
    LX w0 w1 X a b P' C' (x ++ [s]) R Cr y := by
  obtain ⟨A, C, B, D, L, hf, hg, hp, hr, h1, h2, h3⟩ := h
  simp only [ownBlock_blk] at hgr hat
  have hfr := Fr.of_grown hgr
  refine ⟨A, C, B, D, L.fr hfr (fun k hk e => (h1 k e).1 hk), hf, Fr.trans hg hfr (fun k hk e => by have := (h1 k e).2; omega), ⟨by simpa using hown, by simp; omega, ?_⟩, hr.keep (fun k hk => hfr.block k (hr.lt hk) (fun e => h3 k e hk)), fun k hk => ?_, h2, fun k hk hR => ?_⟩
  · intro z hz
    rcases List.mem_append.1 hz with hz | hz
    · exact hp.sz z hz
    · simp at hz; subst hz; exact hs
  · rcases hat with e | e
    · exact h1 k (e ▸ hk)
    · have e2 : W.heap.size = k := Option.some.inj (e.symm.trans hk)
      refine ⟨fun hk' => ?_, by have := hg.size; omega⟩
      have := L.ft_lt hk'; omega
  · rcases hat with e | e
    · exact h3 k (e ▸ hk) hR
    · have e2 : W.heap.size = k := Option.some.inj (e.symm.trans hk)
      have := hr.lt hR; omega
theorem LX.swap {w0 W : World} {X a b P Cp x R Cr y} (h : LX w0 W X a b P Cp x R Cr y) : LX w0 W X a b R Cr y P Cp x := by
  obtain ⟨A, C, B, D, L, hf, hg, hp, hr, h1, h2, h3⟩ := h
  exact ⟨A, C, B, D, L, hf, hg, hr, hp, h2, h1, fun k hk hk' => h3 k hk' hk⟩
theorem Rw.own' {w : World} {A : Option Addr} {C n : Nat} {xs : List ByteArray} (h : Rw w A C xs) (hn : xs.length = n) : Own w 9 1 (.slice A n C) n (xs.map Value.string) := by subst hn; exact h.own
theorem lx_appn {w0 W w1 : World} {X a b P Cp x R Cr y} {n : Nat} (h : LX w0 W X a b P Cp x R Cr y) (hn : x.length = n) (s : ByteArray) (hs : s.size ≤ 9223372036854775807) (hl : n < 1000000) {P' : Option Addr} {C' : Nat}
    (hown : Own w1 9 1 (.slice P' (n + 1) C') (n + 1) (x.map Value.string ++ [.string s])) (hgr : W.grownBy w1 (Value.slice P n Cp).ownBlock) (hat : (Value.slice P' (n + 1) C').ownBlock = (Value.slice P n Cp).ownBlock ∨ (Value.slice P' (n + 1) C').ownBlock = some W.heap.size) :
    LX w0 w1 X a b P' C' (x ++ [s]) R Cr y := by subst hn; exact lx_app h s hs hl hown hgr hat
theorem src_one {W : World} {b c : Nat} {s : ByteArray} (h : W.cell? ⟨b, 0, none⟩ = some (.string s)) : Src Try.prog 1 26 (.slice (some ⟨b, 0, none⟩) 1 c) 1 [.string s] W :=
  src_any (e' := 9) Try.underlying26 (some ⟨b, 0, none⟩) 1 c _ rfl (fun e => by cases e) (fun a ha => by cases ha; exact news1 h) (one1 s)
end Go.Proofs.Ytdaodpojcjbggaa.Ln
