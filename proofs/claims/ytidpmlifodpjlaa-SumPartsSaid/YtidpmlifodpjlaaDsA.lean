/- The numbers' bytes: package cursor's Put, the document's Laid. -/
import Derived.Test.YtidpmlifodpjlaaSumK
namespace Go.Proofs.Ytidpmlifodpjlaa.Sm
open Go.RowKit
set_option linter.unusedVariables false

/-- A byte of a number. -/
def byt (n : Int) : UInt8 := UInt8.ofNat (n % 256).toNat
theorem byt_toNat (n : Int) : ((byt n).toNat : Int) = n % 256 := by
  unfold byt; rw [UInt8.toNat_ofNat']; omega
/-- A number in so many bytes, the greatest one first. -/
def be : Nat → Int → List UInt8
  | 0, _ => []
  | k + 1, n => be k (n / 256) ++ [byt n]
theorem be_length (k : Nat) (n : Int) : (be k n).length = k := by
  induction k generalizing n with
  | zero => rfl
  | succ k ih => simp [be, ih]

theorem buf_alloc (w : World) (l : List UInt8) (t : TypeId) : Buf (w.alloc (.cells (l.map fun c => Value.int .u8 (c.toNat : Int)).toArray t)) w.heap.size l := by
  refine ⟨by simp, fun j hj => ⟨?_, ?_⟩⟩
  · rw [World.cell?_alloc_new]; simp [hj]
  · have : (w.alloc (.cells (l.map fun c => Value.int .u8 (c.toNat : Int)).toArray t)).heap[w.heap.size]? = some (.cells (l.map fun c => Value.int .u8 (c.toNat : Int)).toArray t) := by
      show (w.heap.push _)[w.heap.size]? = _
      simp
    unfold World.frozen?
    rw [this]
    simp

/-- The rest of a row of bytes taken as a string. -/
theorem buf_str_from {W : World} {B : Nat} {l : List UInt8} (h : Buf W B l) (o n : Nat) (hn : o + n = l.length) (c : Nat) : (convert 38 9 (.slice (some ⟨B, o, none⟩) n c)).run Try.prog W = .ok (.string ⟨(l.drop o).toArray⟩) W := by
  have hl : (l.drop o).length = n := by simp; omega
  have := run_convert_bytes_back (P := Try.prog) W 38 9 5 ⟨B, o, none⟩ c (l.drop o) Try.underlying38 Try.underlying5 Try.underlying9 (fun j hj => by
    have hj2 : o + j < l.length := by omega
    have e : (⟨B, o, none⟩ : Addr).add j = ⟨B, o + j, none⟩ := by
      unfold Addr.add; split
      · rename_i h; subst h; rfl
      · rfl
    rw [e, (h.2 (o + j) hj2).1, List.getElem_drop])
  rwa [hl] at this

theorem conv8 (w : World) (t : TypeId) (l : List UInt8) (o n : Nat) (hl : l.length = 8) (hn : o + n = 8) (c : Nat) (a0 a1 a2 a3 a4 a5 a6 a7 : Int) (h : [a0, a1, a2, a3, a4, a5, a6, a7] = l.map fun c => (c.toNat : Int)) :
    (convert 38 9 (.slice (some ⟨w.heap.size, o, none⟩) n c)).run Try.prog (w.alloc (.cells #[.int .u8 a0, .int .u8 a1, .int .u8 a2, .int .u8 a3, .int .u8 a4, .int .u8 a5, .int .u8 a6, .int .u8 a7] t)) =
      .ok (.string ⟨(l.drop o).toArray⟩) (w.alloc (.cells #[.int .u8 a0, .int .u8 a1, .int .u8 a2, .int .u8 a3, .int .u8 a4, .int .u8 a5, .int .u8 a6, .int .u8 a7] t)) := by
  have e : (#[.int .u8 a0, .int .u8 a1, .int .u8 a2, .int .u8 a3, .int .u8 a4, .int .u8 a5, .int .u8 a6, .int .u8 a7] : Array Value) = (l.map fun c => Value.int .u8 (c.toNat : Int)).toArray := by
    have : l.map (fun c => Value.int .u8 (c.toNat : Int)) = (l.map fun c => (c.toNat : Int)).map (Value.int .u8) := by simp
    rw [this, ← h]; rfl
  rw [e]
  exact buf_str_from (buf_alloc w l t) o n (by omega) c
theorem empty_cat (s : ByteArray) : (⟨#[]⟩ : ByteArray) ++ s = s := by
  apply ByteArray.ext; simp
theorem be_drop4 (n : Int) : (be 8 n).drop 4 = be 4 n := by simp [be]
theorem be_drop6 (n : Int) : (be 8 n).drop 6 = be 2 n := by simp [be]

set_option maxRecDepth 100000 in
set_option maxHeartbeats 4000000 in
theorem put64 (n : Int) (hn : 0 ≤ n ∧ n < 18446744073709551616) (w : World) :
    Calls Try.prog 41 #[.string ⟨#[]⟩, .int .u64 n, .int .i64 8] w fun e w' => e = .returned (.string ⟨(be 8 n).toArray⟩) ∧ Gw w w' := by
  go_enter Try.func41, Try.ntmps41
  go_wp2_with fail
  refine wp_loop_rounds 9 ?_
  iterate 9 (rw [rounds_succ]; go_wp2_with fail)
  rw [conv8 w 66 (be 8 n) 0 8 (be_length _ _) (by omega) _ _ _ _ _ _ _ _ _ (by simp [be, byt_toNat]; omega)]
  have hsz : (⟨((be 8 n).drop 0).toArray⟩ : ByteArray).size ≤ 8 := by show Array.size _ ≤ _; simp [be_length]
  have HD : Hid ((be 8 n).drop 0 = be 8 n) := Lib.hid rfl
  generalize (be 8 n).drop 0 = l at *
  obtain ⟨s, hs⟩ : ∃ s, (⟨l.toArray⟩ : ByteArray) = s := ⟨_, rfl⟩
  rw [hs] at hsz ⊢
  have hc := empty_cat s
  go_wp2_with fail
  go_ret
  refine ⟨?_, (Gw.refl w).alloc _⟩
  show Ending.returned (.string _) = _
  rw [← hs, HD.out]

set_option maxRecDepth 100000 in
set_option maxHeartbeats 4000000 in
theorem put32 (n : Int) (hn : 0 ≤ n ∧ n < 4294967296) (w : World) :
    Calls Try.prog 42 #[.string ⟨#[]⟩, .int .u32 n, .int .i64 4] w fun e w' => e = .returned (.string ⟨(be 4 n).toArray⟩) ∧ Gw w w' := by
  go_enter Try.func42, Try.ntmps42
  go_wp2_with fail
  refine wp_loop_rounds 9 ?_
  iterate 9 (rw [rounds_succ]; go_wp2_with fail)
  rw [conv8 w 66 (be 8 n) 4 4 (be_length _ _) (by omega) _ _ _ _ _ _ _ _ _ (by simp [be, byt_toNat]; omega)]
  have hsz : (⟨((be 8 n).drop 4).toArray⟩ : ByteArray).size ≤ 8 := by show Array.size _ ≤ _; simp [be_length]
  have HD : Hid ((be 8 n).drop 4 = be 4 n) := Lib.hid (be_drop4 n)
  generalize (be 8 n).drop 4 = l at *
  obtain ⟨s, hs⟩ : ∃ s, (⟨l.toArray⟩ : ByteArray) = s := ⟨_, rfl⟩
  rw [hs] at hsz ⊢
  have hc := empty_cat s
  go_wp2_with fail
  go_ret
  refine ⟨?_, (Gw.refl w).alloc _⟩
  show Ending.returned (.string _) = _
  rw [← hs, HD.out]

set_option maxRecDepth 100000 in
set_option maxHeartbeats 4000000 in
theorem put16 (n : Int) (hn : 0 ≤ n ∧ n ≤ 65535) (w : World) :
    Calls Try.prog 43 #[.string ⟨#[]⟩, .int .u16 n, .int .i64 2] w fun e w' => e = .returned (.string ⟨(be 2 n).toArray⟩) ∧ Gw w w' := by
  go_enter Try.func43, Try.ntmps43
  go_wp2_with fail
  refine wp_loop_rounds 9 ?_
  iterate 9 (rw [rounds_succ]; go_wp2_with fail)
  rw [conv8 w 66 (be 8 n) 6 2 (be_length _ _) (by omega) _ _ _ _ _ _ _ _ _ (by simp [be, byt_toNat]; omega)]
  have hsz : (⟨((be 8 n).drop 6).toArray⟩ : ByteArray).size ≤ 8 := by show Array.size _ ≤ _; simp [be_length]
  have HD : Hid ((be 8 n).drop 6 = be 2 n) := Lib.hid (be_drop6 n)
  generalize (be 8 n).drop 6 = l at *
  obtain ⟨s, hs⟩ : ∃ s, (⟨l.toArray⟩ : ByteArray) = s := ⟨_, rfl⟩
  rw [hs] at hsz ⊢
  have hc := empty_cat s
  go_wp2_with fail
  go_ret
  refine ⟨?_, (Gw.refl w).alloc _⟩
  show Ending.returned (.string _) = _
  rw [← hs, HD.out]
end Go.Proofs.Ytidpmlifodpjlaa.Sm
