/- A line that has been made since a world, whatever its blocks (printed by linest.py). -/
import Derived.Test.YtdaodpojcjbggaaLnI
namespace Go.Proofs.Ytdaodpojcjbggaa.Ln
open Go.RowKit
set_option linter.unusedVariables false

/-- The line at X, all of whose blocks have been made since w0; all that lay in w0 is as it was. -/
def St (w0 w : World) (X : Nat) (a b : List ByteArray) : Prop :=
  (∃ A C B D, LineAt w X A C B D a b ∧ ∀ k, Ft X A B k → w0.heap.size ≤ k) ∧ Gw w0 w
theorem St.gw {w0 w w' : World} {X a b} (h : St w0 w X a b) (hg : Gw w w') : St w0 w' X a b := by
  obtain ⟨⟨A, C, B, D, L, hf⟩, hg0⟩ := h
  exact ⟨⟨A, C, B, D, L.fr hg (fun _ _ h => h), hf⟩, Fr.trans hg0 hg (fun _ _ h => h)⟩
theorem st_then {w0 w w' : World} {X A B a' b'} (hf : ∀ k, Ft X A B k → w0.heap.size ≤ k) (hg : Gw w0 w) (ht : Then w X A B a' b' w') : St w0 w' X a' b' := by
  obtain ⟨A', C', B', D', L', hfr, hft⟩ := ht
  refine ⟨⟨A', C', B', D', L', fun k hk => ?_⟩, ?_⟩
  · rcases hft k hk with h | h
    · exact hf k h
    · have := hg.size; omega
  · exact Fr.trans hg hfr (fun x hx h => by have := hf x h; omega)
theorem src_strs {W : World} {S : Option Addr} {ys : List ByteArray} {c : Nat} (h : Strs W S ys.length ys) (hS : S = none → ys = []) : Src Try.prog 1 26 (.slice S ys.length c) ys.length (ys.map Value.string) W := by
  refine src_any (e' := 9) Try.underlying26 S ys.length c _ (by simp) (fun e => by rw [hS e]; rfl) (fun a ha j u hu => ?_) (fun u hu => ?_)
  · have hj : j < ys.length := by
      have := (List.getElem?_eq_some_iff.1 hu).1; simpa using this
    rcases h.2.2.2 with rfl | ⟨b, off, rfl, hc⟩
    · simp at hj
    · cases ha
      have e : (⟨b, off, none⟩ : Addr).add j = ⟨b, off + j, none⟩ := by unfold Addr.add; split <;> simp_all
      rw [e]
      have e2 : u = .string ys[j] := by
        rw [List.getElem?_map, List.getElem?_eq_getElem hj] at hu; simpa using hu.symm
      rw [e2]
      exact hc j hj
  · obtain ⟨s, _, rfl⟩ := List.mem_map.1 hu
    rfl
theorem strs_nil (w : World) : Strs w none 0 [] := ⟨rfl, by omega, by simp, .inl rfl⟩
theorem strs_new (w : World) (ss : List ByteArray) (n : Nat) (t : TypeId) (hn : ss.length = n) (hn2 : n ≤ 1000) (hs : ∀ s ∈ ss, s.size ≤ 9223372036854775807) : Strs (w.alloc (.cells (ss.map Value.string).toArray t)) (some ⟨w.heap.size, 0, none⟩) n ss :=
  ⟨hn, by omega, hs, .inr ⟨w.heap.size, 0, rfl, fun i hi => by rw [World.cell?_alloc_new]; simp [hi]⟩⟩
theorem strs_at (W : World) (b : Nat) (vs : Array Value) (ss : List ByteArray) (n : Nat) (t : TypeId) (hb : W.heap.size = b) (hv : vs = (ss.map Value.string).toArray) (hn : ss.length = n) (hn2 : n ≤ 1000) (hs : ∀ s ∈ ss, s.size ≤ 9223372036854775807) : Strs (W.alloc (.cells vs t)) (some ⟨b, 0, none⟩) n ss := by
  subst hb hv; exact strs_new W ss n t hn hn2 hs
theorem st_new {w0 : World} (w : World) (hg : Gw w0 w) : Calls Try.prog 12 #[] w fun e w' => ∃ X, e = .returned (.pointer (some ⟨X, 0, none⟩)) ∧ St w0 w' X [] [] :=
  (new_ w).mono fun e w' ⟨he, h1, h2⟩ => ⟨_, he, ⟨_, _, _, _, h2, fun k hk => by
    rcases hk with rfl | hk | hk
    · exact hg.size
    · simp [blk] at hk
    · simp [blk] at hk⟩, Fr.trans hg h1 (fun _ _ h => h)⟩
theorem st_len {w0 w : World} {X a b} (h : St w0 w X a b) (to : Int) (ht : to = 0 ∨ to = 1) : Calls Try.prog 23 #[.pointer (some ⟨X, 0, none⟩), .int .i64 to] w fun e w' => e = .returned (.int .i64 ((sel to a b).length : Int)) ∧ w = w' := by
  obtain ⟨⟨A, C, B, D, L, hf⟩, hg⟩ := h
  exact lenOk L to ht
theorem st_at {w0 w : World} {X a b} (h : St w0 w X a b) (to i : Int) (ht : to = 0 ∨ to = 1) (hi : -9223372036854775808 ≤ i ∧ i < 9223372036854775808) :
    Calls Try.prog 25 #[.pointer (some ⟨X, 0, none⟩), .int .i64 to, .int .i64 i] w fun e w' => e = .returned (.tuple #[.string (atS (sel to a b) i).1, .bool (atS (sel to a b) i).2]) ∧ w = w' := by
  obtain ⟨⟨A, C, B, D, L, hf⟩, hg⟩ := h
  exact atOk L to i ht hi

theorem st_put0 {w0 w : World} {X a b} (h : St w0 w X a b) (s : ByteArray) (hs : s.size ≤ 9223372036854775807) (hl : a.length < 1000000) :
    Calls Try.prog 15 #[.pointer (some ⟨X, 0, none⟩), .int .i64 0, .string s] w fun e w' => e = .returned (.int .i64 0) ∧ St w0 w' X (a ++ [s]) b := by
  obtain ⟨⟨A, C, B, D, L, hf⟩, hg⟩ := h
  exact (put0 L s hs hl).mono fun e w' ⟨he, ht⟩ => ⟨he, st_then hf hg ht⟩
theorem st_turn0 {w0 w : World} {X a b} (h : St w0 w X a b) (iI mI : Int) (i m : Nat) (hI : iI = i) (hM : mI = m) (hm : 1 ≤ m ∧ m ≤ 2) (hi : i + m ≤ a.length) (hxs : a.length ≤ 900000) (S : Option Addr) (n c : Nat) (ys : List ByteArray) (hn : ys.length = n) (hys : n ≤ 90000) (hsrc : Strs w S n ys) (hS : S = none → ys = []) :
    Calls Try.prog 19 #[.pointer (some ⟨X, 0, none⟩), .int .i64 0, .int .i64 iI, .int .i64 mI, .slice S n c] w fun e w' => e = .returned (.int .i64 0) ∧ St w0 w' X (a.take i ++ ys ++ a.drop (i + m)) b := by
  subst hn hI hM
  obtain ⟨⟨A, C, B, D, L, hf⟩, hg⟩ := h
  exact (turn0 L i m hm hi hxs S c ys hys hsrc.2.2.1 (fun W hW => src_strs (hsrc.gw hW) hS)).mono fun e w' ⟨he, ht⟩ => ⟨he, st_then hf hg ht⟩
theorem st_turnArg0 {w0 w : World} {X a b} (h : St w0 w X a b) (i m : Int) (hm : m < 1 ∨ 2 < m) (S : Option Addr) (n c : Nat) :
    Calls Try.prog 19 #[.pointer (some ⟨X, 0, none⟩), .int .i64 0, .int .i64 i, .int .i64 m, .slice S n c] w fun e w' => e = .returned (.int .i64 2) ∧ w = w' := by
  obtain ⟨⟨A, C, B, D, L, hf⟩, hg⟩ := h
  exact turnArg0 L i m hm S n c
theorem st_turnNone0 {w0 w : World} {X a b} (h : St w0 w X a b) (i m : Int) (hm : 1 ≤ m ∧ m ≤ 2) (hi : i < 0 ∨ (a.length : Int) - m < i) (S : Option Addr) (n c : Nat) :
    Calls Try.prog 19 #[.pointer (some ⟨X, 0, none⟩), .int .i64 0, .int .i64 i, .int .i64 m, .slice S n c] w fun e w' => e = .returned (.int .i64 8) ∧ w = w' := by
  obtain ⟨⟨A, C, B, D, L, hf⟩, hg⟩ := h
  exact turnNone0 L i m hm hi S n c
theorem st_take0 {w0 w : World} {X a b} (h : St w0 w X a b) (iI : Int) (i : Nat) (hI : iI = i) (hi : i < a.length) (hxs : a.length ≤ 900000) :
    Calls Try.prog 17 #[.pointer (some ⟨X, 0, none⟩), .int .i64 0, .int .i64 iI] w fun e w' => e = .returned (.tuple #[.string a[i], .int .i64 0]) ∧ St w0 w' X (a.take i ++ a.drop (i + 1)) b := by
  subst hI
  obtain ⟨⟨A, C, B, D, L, hf⟩, hg⟩ := h
  exact (take0 L i hi hxs).mono fun e w' ⟨he, ht⟩ => ⟨he, st_then hf hg ht⟩
theorem st_takeNone0 {w0 w : World} {X a b} (h : St w0 w X a b) (i : Int) (hr : -9223372036854775808 ≤ i ∧ i < 9223372036854775808) (hi : i < 0 ∨ (a.length : Int) ≤ i) :
    Calls Try.prog 17 #[.pointer (some ⟨X, 0, none⟩), .int .i64 0, .int .i64 i] w fun e w' => e = .returned (.tuple #[.string ⟨#[]⟩, .int .i64 8]) ∧ w = w' := by
  obtain ⟨⟨A, C, B, D, L, hf⟩, hg⟩ := h
  exact takeNone0 L i hr hi
theorem st_all0 {w0 w : World} {X a b} (h : St w0 w X a b) :
    Calls Try.prog 24 #[.pointer (some ⟨X, 0, none⟩), .int .i64 0] w fun e w' => ∃ A' C', e = .returned (.slice A' a.length C') ∧ Rw w' A' C' a ∧ Gw w w' ∧ Fresh w A' ∧ St w0 w' X a b := by
  have h0 := h
  obtain ⟨⟨A, C, B, D, L, hf⟩, hg⟩ := h
  exact (all0 L).mono fun e w' ⟨A', C', he, h1, h2, h3⟩ => ⟨A', C', he, h1, h2, h3, h0.gw h2⟩

theorem st_put1 {w0 w : World} {X a b} (h : St w0 w X a b) (s : ByteArray) (hs : s.size ≤ 9223372036854775807) (hl : b.length < 1000000) :
    Calls Try.prog 15 #[.pointer (some ⟨X, 0, none⟩), .int .i64 1, .string s] w fun e w' => e = .returned (.int .i64 0) ∧ St w0 w' X a (b ++ [s]) := by
  obtain ⟨⟨A, C, B, D, L, hf⟩, hg⟩ := h
  exact (put1 L s hs hl).mono fun e w' ⟨he, ht⟩ => ⟨he, st_then hf hg ht⟩
theorem st_turn1 {w0 w : World} {X a b} (h : St w0 w X a b) (iI mI : Int) (i m : Nat) (hI : iI = i) (hM : mI = m) (hm : 1 ≤ m ∧ m ≤ 2) (hi : i + m ≤ b.length) (hxs : b.length ≤ 900000) (S : Option Addr) (n c : Nat) (ys : List ByteArray) (hn : ys.length = n) (hys : n ≤ 90000) (hsrc : Strs w S n ys) (hS : S = none → ys = []) :
    Calls Try.prog 19 #[.pointer (some ⟨X, 0, none⟩), .int .i64 1, .int .i64 iI, .int .i64 mI, .slice S n c] w fun e w' => e = .returned (.int .i64 0) ∧ St w0 w' X a (b.take i ++ ys ++ b.drop (i + m)) := by
  subst hn hI hM
  obtain ⟨⟨A, C, B, D, L, hf⟩, hg⟩ := h
  exact (turn1 L i m hm hi hxs S c ys hys hsrc.2.2.1 (fun W hW => src_strs (hsrc.gw hW) hS)).mono fun e w' ⟨he, ht⟩ => ⟨he, st_then hf hg ht⟩
theorem st_turnArg1 {w0 w : World} {X a b} (h : St w0 w X a b) (i m : Int) (hm : m < 1 ∨ 2 < m) (S : Option Addr) (n c : Nat) :
    Calls Try.prog 19 #[.pointer (some ⟨X, 0, none⟩), .int .i64 1, .int .i64 i, .int .i64 m, .slice S n c] w fun e w' => e = .returned (.int .i64 2) ∧ w = w' := by
  obtain ⟨⟨A, C, B, D, L, hf⟩, hg⟩ := h
  exact turnArg1 L i m hm S n c
theorem st_turnNone1 {w0 w : World} {X a b} (h : St w0 w X a b) (i m : Int) (hm : 1 ≤ m ∧ m ≤ 2) (hi : i < 0 ∨ (b.length : Int) - m < i) (S : Option Addr) (n c : Nat) :
    Calls Try.prog 19 #[.pointer (some ⟨X, 0, none⟩), .int .i64 1, .int .i64 i, .int .i64 m, .slice S n c] w fun e w' => e = .returned (.int .i64 8) ∧ w = w' := by
  obtain ⟨⟨A, C, B, D, L, hf⟩, hg⟩ := h
  exact turnNone1 L i m hm hi S n c
theorem st_take1 {w0 w : World} {X a b} (h : St w0 w X a b) (iI : Int) (i : Nat) (hI : iI = i) (hi : i < b.length) (hxs : b.length ≤ 900000) :
    Calls Try.prog 17 #[.pointer (some ⟨X, 0, none⟩), .int .i64 1, .int .i64 iI] w fun e w' => e = .returned (.tuple #[.string b[i], .int .i64 0]) ∧ St w0 w' X a (b.take i ++ b.drop (i + 1)) := by
  subst hI
  obtain ⟨⟨A, C, B, D, L, hf⟩, hg⟩ := h
  exact (take1 L i hi hxs).mono fun e w' ⟨he, ht⟩ => ⟨he, st_then hf hg ht⟩
theorem st_takeNone1 {w0 w : World} {X a b} (h : St w0 w X a b) (i : Int) (hr : -9223372036854775808 ≤ i ∧ i < 9223372036854775808) (hi : i < 0 ∨ (b.length : Int) ≤ i) :
    Calls Try.prog 17 #[.pointer (some ⟨X, 0, none⟩), .int .i64 1, .int .i64 i] w fun e w' => e = .returned (.tuple #[.string ⟨#[]⟩, .int .i64 8]) ∧ w = w' := by
  obtain ⟨⟨A, C, B, D, L, hf⟩, hg⟩ := h
  exact takeNone1 L i hr hi
theorem st_all1 {w0 w : World} {X a b} (h : St w0 w X a b) :
    Calls Try.prog 24 #[.pointer (some ⟨X, 0, none⟩), .int .i64 1] w fun e w' => ∃ A' C', e = .returned (.slice A' b.length C') ∧ Rw w' A' C' b ∧ Gw w w' ∧ Fresh w A' ∧ St w0 w' X a b := by
  have h0 := h
  obtain ⟨⟨A, C, B, D, L, hf⟩, hg⟩ := h
  exact (all1 L).mono fun e w' ⟨A', C', he, h1, h2, h3⟩ => ⟨A', C', he, h1, h2, h3, h0.gw h2⟩
end Go.Proofs.Ytdaodpojcjbggaa.Ln
