/- Of and Whole of package sum: the sum of parts that lie in memory; nothing that lay is changed. -/
import Derived.Test.YtidpmlifodpjlaaSumC
namespace Go.Proofs.Ytidpmlifodpjlaa.Sm
open Go.RowKit Go.Shelf
set_option linter.unusedVariables false
attribute [local go_sem] Oper.semAt_some
attribute [local simp] wide_fn

def tot (xs : List U16) : Int := (xs.map (·.1)).sum
theorem tot_snoc (pre : List U16) (x : U16) : tot (pre ++ [x]) = tot pre + x.1 := by simp [tot]
/-- The words' sum. -/
def wsum : List UInt8 → Int
  | [] => 0
  | [a] => (a.toNat : Int) * 256
  | a :: b :: r => (a.toNat : Int) * 256 + b.toNat + wsum r
theorem tot_fin (l : List UInt8) (pre : List U16) (o : Option UInt8) : tot (fin (l.foldl step (pre, o))) = tot pre + wsum (match o with | none => l | some h => h :: l) := by
  induction l generalizing pre o with
  | nil => cases o <;> simp [fin, wsum, tot_snoc, mkw]
  | cons c r ih =>
    cases o with
    | none => simp only [List.foldl_cons, step]; rw [ih]
    | some h => simp only [List.foldl_cons, step]; rw [ih, tot_snoc]; simp only [mkw, wsum]; omega
theorem tot_words (ss : List ByteArray) : tot (wordsOf ss) = wsum (bytesOf ss) := by
  unfold wordsOf; rw [tot_fin]; simp [tot]
/-- What parts sum to. -/
def Sm (l : List UInt8) : Int := Fo (wsum l % 18446744073709551616)
theorem Sm_range (l : List UInt8) : 0 ≤ Sm l ∧ Sm l ≤ 65535 := Fo_range (by omega)

theorem words_in (m : Nat) (v : Value) (w : World) (hv : ∃ a n c, v = .slice a n c) :
    CallsIn Fence.wide m Try.prog 32 #[v] w fun e w' => e = .returned (.func (.func 35) #[] #[.pointer (some ⟨w.heap.size, 0, none⟩)]) ∧ w.alloc (.cells #[v] 22) = w' := by
  obtain ⟨a, n, c, rfl⟩ := hv
  refine callsIn_of_wp Try.func32 rfl trivial ?_ rfl
  simp only [Try.ntmps32, List.size_toArray, List.length_cons, List.length_nil, Nat.reduceAdd, Nat.reduceSub, Array.replicate_succ, Array.replicate_zero, List.push_toArray, List.append_toArray, List.nil_append, List.cons_append]
  gi_wp2
  go_ret
  exact ⟨rfl, rfl⟩

set_option maxRecDepth 100000 in
set_option maxHeartbeats 2000000 in
theorem of_in (a : Option Addr) (n cap : Nat) (ss : List ByteArray) (w : World) (hss : Strs w a n ss) :
    CallsIn Fence.wide 3 Try.prog 16 #[.slice a n cap] w fun e W' => e = .returned (.int .u16 (Sm (bytesOf ss))) ∧ Below w.heap.size w W' := by
  refine callsIn_of_wp_marks Try.func16 rfl trivial ?_ rfl
  simp only [Try.ntmps16, List.size_toArray, List.length_cons, List.length_nil, Nat.reduceAdd, Nat.reduceSub, Array.replicate_succ, Array.replicate_zero, List.push_toArray, List.append_toArray, List.nil_append, List.cons_append]
  have HSS := Lib.hid hss
  have HLT := Lib.hid (strs_lt hss)
  clear hss
  gi_wp2_with (gi_at_call 32; refine (words_in 2 _ _ ⟨_, _, _, rfl⟩).mono ?_; rintro e w' ⟨rfl, rfl⟩)
  have c0 := cell_new_l w (.int .u64 0) 31
  have c1 := cell_new_l (w.alloc (.cells #[.int .u64 0] 31)) (.slice a n cap) 22
  rw [World.size_alloc] at c1
  have hB0 : Below w.heap.size w ((w.alloc (.cells #[.int .u64 0] 31)).alloc (.cells #[.slice a n cap] 22)) := by go_grown
  have hss2 : Strs ((w.alloc (.cells #[.int .u64 0] 31)).alloc (.cells #[.slice a n cap] 22)) a n ss :=
    ⟨HSS.out.1, HSS.out.2.1, HSS.out.2.2.1, HSS.out.2.2.2.imp id (fun ⟨b, off, h, hc⟩ => ⟨b, off, h, fun i hi => hB0.cell_old (hc i hi)⟩)⟩
  have hz : ((w.alloc (.cells #[.int .u64 0] 31)).alloc (.cells #[.slice a n cap] 22)).heap.size = w.heap.size + 1 + 1 := by simp
  refine wpIn_rangeFunc_all rfl (by omega) (gf := 35) (lb := #[.pointer (some ⟨w.heap.size + 1, 0, none⟩)]) rfl trivial (enters_of Try.func35 (by kernel_rfl) rfl)
    (words1 2 w.heap.size (w.heap.size + 1) a n cap ss _ c1.1 hss2 (by rw [hz]; omega) (by omega) (HLT.out.imp id (fun h x hx => by have := h x hx; omega)))
    (fun h k => h.trans k) (fun W l o o' hl ho hc => Kx.putObj o' ho hc) (Below.refl _ _) (fun _ => rfl)
    (fun pre W => (W.cell? ⟨w.heap.size, 0, none⟩ = some (.int .u64 (tot pre % 18446744073709551616)) ∧ W.frozen? ⟨w.heap.size, 0, none⟩ = false) ∧ Below w.heap.size w W)
    (fun s A B hs hb => ⟨⟨(hb.cell (p := ⟨w.heap.size, 0, none⟩) (by rw [hz]; show w.heap.size < _; omega)).trans hs.1.1, (hb.frozen (p := ⟨w.heap.size, 0, none⟩) (by rw [hz]; show w.heap.size < _; omega)).trans hs.1.2⟩, hs.2.trans (hb.mono (by rw [hz]; omega))⟩)
    ⟨⟨cell_alloc_l _ c0.1, frozen_alloc_l _ c0.1 c0.2⟩, hB0⟩
    (fun x => { tmps := #[.slice a n cap, undef, .int .u16 0, .pointer (some ⟨w.heap.size, 0, none⟩), .int .u16 x.1, .slice a n cap, .func (.func 35) #[] #[.pointer (some ⟨w.heap.size + 1, 0, none⟩)], .int .u16 x.1, undef, undef, undef, undef, undef, undef], defers := [] }) ?assign ?body ?done
  case assign =>
    intro l x W K hK
    gi_wp2
    exact hK
  case body =>
    rintro l pre x W ⟨⟨hc, hf⟩, hB⟩
    have hx := x.2
    gi_wp2
    exact ⟨KeepsOthers.setCell _ _ _, (Kx.refl _ _).setCell (a := ⟨w.heap.size, 0, none⟩) (by simp) _, ⟨by rw [tot_snoc]; refine (World.cell?_setCell_same' _ _ _ (by rw [hc]; rfl)).trans (congrArg (fun y => some (Value.int .u64 y)) ?_); first | omega | (rw [IntKind.wrap_u64]; omega), by rw [World.frozen?_setCell]; exact hf⟩, hB.setCell (p := ⟨w.heap.size, 0, none⟩) (Nat.le_refl _) _⟩
  case done =>
    rintro D W hD ⟨⟨hc, _⟩, hB⟩ hK
    rw [hz] at hD
    rw [tot_words] at hc
    gi_wp2_with (gi_at_call 19; refine (callsIn_wide.2 (fold _ _ (by omega))).mono ?_; rintro e w' ⟨rfl, rfl⟩)
    refine ⟨by simp, .inl ⟨_, _, rfl, run_takeDeferred hK, ?_⟩⟩
    exact ⟨_, results_tmp rfl _ _ _, rfl, hB.trans (below_putObj _ _ _ (by omega))⟩

theorem of (a : Option Addr) (n cap : Nat) (ss : List ByteArray) (w : World) (hss : Strs w a n ss) :
    Calls Try.prog 16 #[.slice a n cap] w fun e W' => e = .returned (.int .u16 (Sm (bytesOf ss))) ∧ Gw w W' :=
  (callsIn_wide (n := 3)).1 (of_in a n cap ss w hss)

theorem whole (a : Option Addr) (n cap : Nat) (ss : List ByteArray) (w : World) (hss : Strs w a n ss) :
    Calls Try.prog 17 #[.slice a n cap] w fun e W' => e = .returned (.bool (Sm (bytesOf ss) == 65535)) ∧ Gw w W' := by
  have H := Lib.hid (of a n cap ss w hss)
  clear hss
  go_enter Try.func17, Try.ntmps17
  go_wp2_with (go_at_call 16; refine H.out.mono ?_; rintro e w' ⟨rfl, hb⟩)
  go_ret
  exact ⟨rfl, hb⟩
#print axioms whole
end Go.Proofs.Ytidpmlifodpjlaa.Sm
