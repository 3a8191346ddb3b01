/- The parts that are summed: package dsum's, and the document's. -/
import Derived.Test.YtidpmlifodpjlaaDsA
import Derived.Test.YtidpmlifodpjlaaSumE
import Derived.Deep.AppendSrc
namespace Go.Proofs.Ytidpmlifodpjlaa.Sm
open Go.RowKit
set_option linter.unusedVariables false

theorem Put64 (n : Int) (hn : 0 ≤ n ∧ n < 18446744073709551616) (w : World) :
    Calls Try.prog 38 #[.string ⟨#[]⟩, .int .u64 n] w fun e w' => e = .returned (.string ⟨(be 8 n).toArray⟩) ∧ Gw w w' := by
  go_enter Try.func38, Try.ntmps38
  go_wp2_with (go_at_call 41; refine (put64 _ hn _).mono ?_; rintro e w' ⟨rfl, hb⟩)
  go_ret
  exact ⟨rfl, hb⟩
theorem Put32 (n : Int) (hn : 0 ≤ n ∧ n < 4294967296) (w : World) :
    Calls Try.prog 39 #[.string ⟨#[]⟩, .int .u32 n] w fun e w' => e = .returned (.string ⟨(be 4 n).toArray⟩) ∧ Gw w w' := by
  go_enter Try.func39, Try.ntmps39
  go_wp2_with (go_at_call 42; refine (put32 _ hn _).mono ?_; rintro e w' ⟨rfl, hb⟩)
  go_ret
  exact ⟨rfl, hb⟩
theorem Put16 (n : Int) (hn : 0 ≤ n ∧ n ≤ 65535) (w : World) :
    Calls Try.prog 40 #[.string ⟨#[]⟩, .int .u16 n] w fun e w' => e = .returned (.string ⟨(be 2 n).toArray⟩) ∧ Gw w w' := by
  go_enter Try.func40, Try.ntmps40
  go_wp2_with (go_at_call 43; refine (put16 _ hn _).mono ?_; rintro e w' ⟨rfl, hb⟩)
  go_ret
  exact ⟨rfl, hb⟩

theorem be_mod2 (n : Int) : be 2 (n % 65536) = be 2 n := by
  simp only [be, byt]
  have h1 : n % 65536 / 256 % 256 = n / 256 % 256 := by omega
  have h2 : n % 65536 % 256 = n % 256 := by omega
  rw [h1, h2]

set_option maxRecDepth 100000 in
set_option maxHeartbeats 4000000 in
theorem parts (dsn ssn n told : Int) (t : ByteArray) (b c : Nat) (w : World) (hd : 0 ≤ dsn ∧ dsn < 18446744073709551616) (hs : 0 ≤ ssn ∧ ssn < 4294967296) (hn : -9223372036854775808 ≤ n ∧ n < 9223372036854775808) (ht : 0 ≤ told ∧ told ≤ 65535)
    (hc : w.cell? ⟨b, 0, none⟩ = some (.string t)) :
    Calls Try.prog 34 #[.int .u64 dsn, .int .u32 ssn, .int .i64 n, .int .u16 told, .slice (some ⟨b, 0, none⟩) 1 c] w fun e w' => ∃ g cap, e = .returned (.slice (some ⟨g, 0, none⟩) 5 cap) ∧ Gw w w' ∧
      ∀ i, (h : i < 5) → w'.cell? ⟨g, i, none⟩ = some (.string ([⟨(be 8 dsn).toArray⟩, ⟨(be 4 ssn).toArray⟩, ⟨(be 2 n).toArray⟩, ⟨(be 2 told).toArray⟩, t] : List ByteArray)[i]) := by
  have hw := IntKind.wrap_u16 n
  have hfit : ¬ 281474976710656 < Builtin.nextslicecap 5 4 * Try.t9.bytes := by decide
  have hlt := World.block_lt_of_cell? _ _ hc
  go_enter Try.func34, Try.ntmps34
  go_wp2_with (first | (go_at_call 38; refine (Put64 _ hd _).mono ?_; rintro e w1 ⟨rfl, hb1⟩) | (go_at_call 39; refine (Put32 _ hs _).mono ?_; rintro e w2 ⟨rfl, hb2⟩) | (go_at_call 40; refine (Put16 _ (by omega) _).mono ?_; rintro e w3 ⟨rfl, hb3⟩; have hc3 : w3.cell? ⟨b, 0, none⟩ = some (.string t) := (by (repeat (first | (with_reducible refine cell_new_at ?_; first | with_reducible rfl | (simp; done)) | with_reducible refine cell_alloc_l _ ?_ | with_reducible refine cell_drew ?_ | with_reducible refine cell_gw (by with_reducible assumption) ?_)); exact hc); have hlt3 : b < w3.heap.size := World.block_lt_of_cell? _ _ hc3))
  go_ret
  refine ⟨w3.heap.size + 1, _, rfl, ?_, ?_⟩
  · refine Gw.drew (Gw.alloc (Gw.alloc ?_ _) _)
    exact Gw.trans hb1 (Gw.trans hb2 (Gw.trans (by assumption) hb3))
  · intro i hi
    have hz : ((w3.alloc (.cells #[.string ⟨(be 8 dsn).toArray⟩, .string ⟨(be 4 ssn).toArray⟩, .string ⟨(be 2 (n % 65536)).toArray⟩, .string ⟨(be 2 told).toArray⟩] 62))).heap.size = w3.heap.size + 1 := by simp
    rw [World.cell?_drew, ← hz, World.cell?_alloc_new, be_mod2]
    have : i = 0 ∨ i = 1 ∨ i = 2 ∨ i = 3 ∨ i = 4 := by omega
    rcases this with rfl | rfl | rfl | rfl | rfl <;> (rw [Array.getElem?_append_left (by simp)]; simp)
/-- All bytes that are summed. -/
def allB (dsn ssn n told : Int) (t : List UInt8) : List UInt8 := be 8 dsn ++ (be 4 ssn ++ (be 2 n ++ (be 2 told ++ t)))

theorem strs5 {w : World} {g : Nat} {l : List ByteArray} (h : ∀ i, (h : i < l.length) → w.cell? ⟨g, i, none⟩ = some (.string l[i])) (hl : l.length ≤ 100) (hs : ∀ s ∈ l, s.size ≤ 9223372036854775807) : Strs w (some ⟨g, 0, none⟩) l.length l :=
  ⟨rfl, by omega, hs, .inr ⟨g, 0, rfl, fun i hi => by rw [Nat.zero_add]; exact h i hi⟩⟩
theorem strs_parts {w : World} {g : Nat} {dsn ssn n told : Int} {t : ByteArray} (hz : t.size ≤ 9223372036854775807)
    (h : ∀ i, (h : i < 5) → w.cell? ⟨g, i, none⟩ = some (.string ([⟨(be 8 dsn).toArray⟩, ⟨(be 4 ssn).toArray⟩, ⟨(be 2 n).toArray⟩, ⟨(be 2 told).toArray⟩, t] : List ByteArray)[i])) :
    Strs w (some ⟨g, 0, none⟩) 5 [⟨(be 8 dsn).toArray⟩, ⟨(be 4 ssn).toArray⟩, ⟨(be 2 n).toArray⟩, ⟨(be 2 told).toArray⟩, t] :=
  strs5 (l := [⟨(be 8 dsn).toArray⟩, ⟨(be 4 ssn).toArray⟩, ⟨(be 2 n).toArray⟩, ⟨(be 2 told).toArray⟩, t]) h (by simp) (by
    intro s hs
    simp only [List.mem_cons, List.not_mem_nil, or_false] at hs
    rcases hs with rfl | rfl | rfl | rfl | rfl
    · show Array.size _ ≤ _; simp [be_length]
    · show Array.size _ ≤ _; simp [be_length]
    · show Array.size _ ≤ _; simp [be_length]
    · show Array.size _ ≤ _; simp [be_length]
    · exact hz)
theorem bytes_parts (dsn ssn n told : Int) (t : ByteArray) : bytesOf [⟨(be 8 dsn).toArray⟩, ⟨(be 4 ssn).toArray⟩, ⟨(be 2 n).toArray⟩, ⟨(be 2 told).toArray⟩, t] = allB dsn ssn n told t.data.toList := by simp [bytesOf, allB]

set_option maxHeartbeats 1000000 in
theorem dof (dsn ssn n : Int) (t : ByteArray) (w : World) (hd : 0 ≤ dsn ∧ dsn < 18446744073709551616) (hs : 0 ≤ ssn ∧ ssn < 4294967296) (hn : -9223372036854775808 ≤ n ∧ n < 9223372036854775808) (hz : t.size ≤ 9223372036854775807) :
    Calls Try.prog 28 #[.int .u64 dsn, .int .u32 ssn, .int .i64 n, .string t] w fun e w' => e = .returned (.int .u16 (65535 - Sm (allB dsn ssn n 0 t.data.toList))) ∧ Gw w w' := by
  have hr := Sm_range (allB dsn ssn n 0 t.data.toList)
  go_enter Try.func28, Try.ntmps28
  go_wp2_with (first | (go_at_call 34; refine (parts dsn ssn n 0 t _ _ _ hd hs hn (by omega) ?_).mono ?_; (· (repeat (first | (with_reducible refine cell_new_at ?_; first | with_reducible rfl | (simp; done)) | with_reducible refine cell_alloc_l _ ?_ | with_reducible refine cell_drew ?_ | with_reducible refine cell_gw (by with_reducible assumption) ?_)); done); rintro e w1 ⟨g, cap, rfl, hb1, hcs⟩) | (go_at_call 16; refine (of _ _ _ _ _ (strs_parts hz hcs)).mono ?_; rw [bytes_parts]; rintro e w2 ⟨rfl, hb2⟩) | (go_at_call 23; refine (not_ _ _ hr).mono ?_; rintro e w3 ⟨rfl, rfl⟩))
  go_ret
  exact ⟨rfl, Gw.trans (gw_alloc1 _ _) (Gw.trans hb1 hb2)⟩

set_option maxHeartbeats 1000000 in
theorem dright (dsn ssn n told : Int) (t : ByteArray) (w : World) (hd : 0 ≤ dsn ∧ dsn < 18446744073709551616) (hs : 0 ≤ ssn ∧ ssn < 4294967296) (hn : -9223372036854775808 ≤ n ∧ n < 9223372036854775808) (ht : 0 ≤ told ∧ told ≤ 65535) (hz : t.size ≤ 9223372036854775807) :
    Calls Try.prog 29 #[.int .u64 dsn, .int .u32 ssn, .int .i64 n, .string t, .int .u16 told] w fun e w' => e = .returned (.bool (Sm (allB dsn ssn n told t.data.toList) == 65535)) ∧ Gw w w' := by
  go_enter Try.func29, Try.ntmps29
  go_wp2_with (first | (go_at_call 34; refine (parts dsn ssn n told t _ _ _ hd hs hn ht ?_).mono ?_; (· (repeat (first | (with_reducible refine cell_new_at ?_; first | with_reducible rfl | (simp; done)) | with_reducible refine cell_alloc_l _ ?_ | with_reducible refine cell_drew ?_ | with_reducible refine cell_gw (by with_reducible assumption) ?_)); done); rintro e w1 ⟨g, cap, rfl, hb1, hcs⟩) | (go_at_call 17; refine (whole _ _ _ _ _ (strs_parts hz hcs)).mono ?_; rw [bytes_parts]; rintro e w2 ⟨rfl, hb2⟩))
  go_ret
  exact ⟨rfl, Gw.trans (gw_alloc1 _ _) (Gw.trans hb1 hb2)⟩

set_option maxRecDepth 100000 in
set_option maxHeartbeats 1000000 in
theorem dworks (w : World) : Calls Try.prog 31 #[] w fun e w' => e = .returned (.bool true) ∧ Gw w w' := by
  have s1 : Sm (allB 1 2 2 0 [97, 98]) = 24935 := by decide
  have s2 : Sm (allB 1 2 2 40600 [97, 98]) = 65535 := by decide
  have s3 : Sm (allB 1 2 2 40601 [97, 98]) = 1 := by decide
  have s4 : Sm (allB 1 2 2 40600 [97, 99]) = 1 := by decide
  have s5 : Sm (allB 0 0 0 0 []) = 0 := by decide
  go_enter Try.func31, Try.ntmps31
  go_wp2_with (first | (go_at_call 28; refine (dof _ _ _ _ _ (by omega) (by omega) (by omega) (by decide)).mono ?_; rintro e w' ⟨rfl, hb⟩) | (go_at_call 29; refine (dright _ _ _ _ _ _ (by omega) (by omega) (by omega) (by omega) (by decide)).mono ?_; rintro e w' ⟨rfl, hb⟩))
  go_ret
  exact ⟨rfl, by (repeat (first | with_reducible exact Gw.refl _ | with_reducible assumption | with_reducible refine Gw.alloc ?_ _ | with_reducible refine Gw.drew ?_ | with_reducible refine Gw.trans ?_ (by with_reducible assumption)))⟩
end Go.Proofs.Ytidpmlifodpjlaa.Sm
