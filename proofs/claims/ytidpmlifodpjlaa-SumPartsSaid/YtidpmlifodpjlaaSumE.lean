/- Of and Whole at parts that the call itself has laid; the chapter's examples (works). -/
import Derived.Test.YtidpmlifodpjlaaSumD
namespace Go.Proofs.Ytidpmlifodpjlaa.Sm
open Go.RowKit
set_option linter.unusedVariables false

theorem strs1 {w : World} {b off : Nat} {s : ByteArray} (hc : w.cell? ⟨b, off, none⟩ = some (.string s)) (hs : s.size ≤ 9223372036854775807) : Strs w (some ⟨b, off, none⟩) 1 [s] :=
  ⟨rfl, by omega, fun x hx => by simp at hx; subst hx; exact hs, .inr ⟨b, off, rfl, fun i hi => by
    obtain rfl : i = 0 := by simp at hi; exact hi
    exact hc⟩⟩
theorem strs2 {w : World} {b off : Nat} {s t : ByteArray} (hc : w.cell? ⟨b, off, none⟩ = some (.string s)) (hc1 : w.cell? ⟨b, off + 1, none⟩ = some (.string t)) (hs : s.size ≤ 9223372036854775807) (ht : t.size ≤ 9223372036854775807) : Strs w (some ⟨b, off, none⟩) 2 [s, t] :=
  ⟨rfl, by omega, fun x hx => by simp at hx; rcases hx with rfl | rfl <;> assumption, .inr ⟨b, off, rfl, fun i hi => by
    have : i = 0 ∨ i = 1 := by simp at hi; omega
    rcases this with rfl | rfl
    · exact hc
    · exact hc1⟩⟩
theorem strs0 (w : World) : Strs w none 0 [] := ⟨rfl, by omega, fun x hx => by simp at hx, .inl rfl⟩
theorem lt_of_cell {w : World} {b off : Nat} {v : Value} (hc : w.cell? ⟨b, off, none⟩ = some v) : ∀ x, (some ⟨b, off, none⟩ : Option Addr) = some x → x.block < w.heap.size :=
  fun x hx => by cases hx; exact World.block_lt_of_cell? _ _ hc
theorem of1 (b cap : Nat) (s : ByteArray) (w : World) (hc : w.cell? ⟨b, 0, none⟩ = some (.string s)) (hs : s.size ≤ 9223372036854775807) :
    Calls Try.prog 16 #[.slice (some ⟨b, 0, none⟩) 1 cap] w fun e W' => e = .returned (.int .u16 (Sm s.data.toList)) ∧ Gw w W' := by
  have := of (some ⟨b, 0, none⟩) 1 cap [s] w (strs1 hc hs)
  have e : bytesOf [s] = s.data.toList := by simp [bytesOf]
  rwa [e] at this
theorem of2 (b cap : Nat) (s t : ByteArray) (w : World) (hc : w.cell? ⟨b, 0, none⟩ = some (.string s)) (hc1 : w.cell? ⟨b, 1, none⟩ = some (.string t)) (hs : s.size ≤ 9223372036854775807) (ht : t.size ≤ 9223372036854775807) :
    Calls Try.prog 16 #[.slice (some ⟨b, 0, none⟩) 2 cap] w fun e W' => e = .returned (.int .u16 (Sm (s.data.toList ++ t.data.toList))) ∧ Gw w W' := by
  have := of (some ⟨b, 0, none⟩) 2 cap [s, t] w (strs2 hc (by simpa using hc1) hs ht)
  have e : bytesOf [s, t] = s.data.toList ++ t.data.toList := by simp [bytesOf]
  rwa [e] at this
theorem of0 (w : World) : Calls Try.prog 16 #[.slice none 0 0] w fun e W' => e = .returned (.int .u16 0) ∧ Gw w W' :=
  of none 0 0 [] w (strs0 w)
theorem whole1 (b cap : Nat) (s : ByteArray) (w : World) (hc : w.cell? ⟨b, 0, none⟩ = some (.string s)) (hs : s.size ≤ 9223372036854775807) :
    Calls Try.prog 17 #[.slice (some ⟨b, 0, none⟩) 1 cap] w fun e W' => e = .returned (.bool (Sm s.data.toList == 65535)) ∧ Gw w W' := by
  have := whole (some ⟨b, 0, none⟩) 1 cap [s] w (strs1 hc hs)
  have e : bytesOf [s] = s.data.toList := by simp [bytesOf]
  rwa [e] at this
theorem whole0 (w : World) : Calls Try.prog 17 #[.slice none 0 0] w fun e W' => e = .returned (.bool false) ∧ Gw w W' :=
  whole none 0 0 [] w (strs0 w)

/-- Of at parts that were laid just now. -/
theorem of_new (ss : List ByteArray) (n : Nat) (t : TypeId) (w : World) (hn : ss.length = n) (hn2 : n ≤ 9223372036854775807) (hs : ∀ s ∈ ss, s.size ≤ 9223372036854775807) :
    Calls Try.prog 16 #[.slice (some ⟨w.heap.size, 0, none⟩) n n] (w.alloc (.cells (ss.map Value.string).toArray t)) fun e W' => e = .returned (.int .u16 (Sm (bytesOf ss))) ∧ Gw w W' := by
  refine (of (some ⟨w.heap.size, 0, none⟩) n n ss _ ⟨hn, hn2, hs, .inr ⟨w.heap.size, 0, rfl, fun i hi => ?_⟩⟩).mono fun e W' ⟨he, hg⟩ => ⟨he, Gw.trans ((Gw.refl w).alloc _) hg⟩
  rw [World.cell?_alloc_new]; simp [hi]
theorem whole_new (ss : List ByteArray) (n : Nat) (t : TypeId) (w : World) (hn : ss.length = n) (hn2 : n ≤ 9223372036854775807) (hs : ∀ s ∈ ss, s.size ≤ 9223372036854775807) :
    Calls Try.prog 17 #[.slice (some ⟨w.heap.size, 0, none⟩) n n] (w.alloc (.cells (ss.map Value.string).toArray t)) fun e W' => e = .returned (.bool (Sm (bytesOf ss) == 65535)) ∧ Gw w W' := by
  refine (whole (some ⟨w.heap.size, 0, none⟩) n n ss _ ⟨hn, hn2, hs, .inr ⟨w.heap.size, 0, rfl, fun i hi => ?_⟩⟩).mono fun e W' ⟨he, hg⟩ => ⟨he, Gw.trans ((Gw.refl w).alloc _) hg⟩
  rw [World.cell?_alloc_new]; simp [hi]
theorem of1n (s : ByteArray) (t : TypeId) (w : World) (hs : s.size ≤ 9223372036854775807) :
    Calls Try.prog 16 #[.slice (some ⟨w.heap.size, 0, none⟩) 1 1] (w.alloc (.cells #[.string s] t)) fun e W' => e = .returned (.int .u16 (Sm s.data.toList)) ∧ Gw w W' := by
  have := of_new [s] 1 t w rfl (by omega) (fun x hx => by simp at hx; subst hx; exact hs)
  have e : bytesOf [s] = s.data.toList := by simp [bytesOf]
  rwa [e] at this
theorem of2n (s u : ByteArray) (t : TypeId) (w : World) (hs : s.size ≤ 9223372036854775807) (hu : u.size ≤ 9223372036854775807) :
    Calls Try.prog 16 #[.slice (some ⟨w.heap.size, 0, none⟩) 2 2] (w.alloc (.cells #[.string s, .string u] t)) fun e W' => e = .returned (.int .u16 (Sm (s.data.toList ++ u.data.toList))) ∧ Gw w W' := by
  have := of_new [s, u] 2 t w rfl (by omega) (fun x hx => by simp at hx; rcases hx with rfl | rfl <;> assumption)
  have e : bytesOf [s, u] = s.data.toList ++ u.data.toList := by simp [bytesOf]
  rwa [e] at this
theorem whole1n (s : ByteArray) (t : TypeId) (w : World) (hs : s.size ≤ 9223372036854775807) :
    Calls Try.prog 17 #[.slice (some ⟨w.heap.size, 0, none⟩) 1 1] (w.alloc (.cells #[.string s] t)) fun e W' => e = .returned (.bool (Sm s.data.toList == 65535)) ∧ Gw w W' := by
  have := whole_new [s] 1 t w rfl (by omega) (fun x hx => by simp at hx; subst hx; exact hs)
  have e : bytesOf [s] = s.data.toList := by simp [bytesOf]
  rwa [e] at this

set_option maxRecDepth 100000 in
set_option maxHeartbeats 4000000 in
theorem works (w : World) : Calls Try.prog 18 #[] w fun e w' => e = .returned (.bool true) ∧ Gw w w' := by
  have s1 : Sm [1, 2, 3, 4] = 1030 := by decide
  have s2 : Sm [1, 2, 3] = 1026 := by decide
  have s3 : Sm [255, 255, 0, 1] = 1 := by decide
  have s4 : Sm [0, 0] = 0 := by decide
  have s5 : Sm [255, 254, 0, 1] = 65535 := by decide
  have f1 : Fo 65535 = 65535 := by decide
  have f2 : Fo 65536 = 1 := by decide
  have f3 : Fo 18446744073709551615 = 65535 := by decide
  have t1 : Tn 1030 258 773 = 1545 := by decide
  go_enter Try.func18, Try.ntmps18
  go_wp2_with (first | (go_at_call 16; ((with_reducible refine (of1n _ _ _ ?_).mono ?_); (· decide)); rintro e w' ⟨rfl, hb⟩) | (go_at_call 16; ((with_reducible refine (of2n _ _ _ _ ?_ ?_).mono ?_); (· decide); (· decide)); rintro e w' ⟨rfl, hb⟩) | (go_at_call 16; (with_reducible refine (of0 _).mono ?_); rintro e w' ⟨rfl, hb⟩) | (go_at_call 17; ((with_reducible refine (whole1n _ _ _ ?_).mono ?_); (· decide)); rintro e w' ⟨rfl, hb⟩) | (go_at_call 17; (with_reducible refine (whole0 _).mono ?_); rintro e w' ⟨rfl, hb⟩) | (go_at_call 19; refine (fold _ _ (by omega)).mono ?_; rintro e w' ⟨rfl, rfl⟩) | (go_at_call 21; refine (same _ _ _ (by omega) (by omega)).mono ?_; rintro e w' ⟨rfl, rfl⟩) | (go_at_call 23; refine (not_ _ _ (by omega)).mono ?_; rintro e w' ⟨rfl, rfl⟩) | (go_at_call 25; refine (turn _ _ _ _ (by omega) (by omega) (by omega)).mono ?_; rintro e w' ⟨rfl, rfl⟩))
  go_ret
  exact ⟨rfl, by repeat (first | exact Gw.refl _ | refine Gw.trans ?_ (by assumption))⟩
end Go.Proofs.Ytidpmlifodpjlaa.Sm
