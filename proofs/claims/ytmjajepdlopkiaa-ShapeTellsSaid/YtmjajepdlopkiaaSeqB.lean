/- Expand: the iterator that 'around' hands back yields two numbers; the loop over it answers the one that is near. For every number; nothing that lay is changed. -/
import Derived.Test.YtmjajepdlopkiaaSeqA
import Derived.RangeFuncNested
import Derived.RangeFuncBound
import Derived.RangeFuncCalls
import Derived.RangeFuncLeaves
import Derived.Shelf.Abstract
import Derived.Shelf.RegionOpen
import Derived.OwnWalkIn
import Derived.TacticsInMore
import Derived.LoopNIn
import Derived.LoopIn
import Derived.Sort.QuietIn
import Derived.Lib.Hide
namespace Go.Proofs.Ytmjajepdlopkiaa.Sq
open Go.RowKit Go.Shelf
set_option linter.unusedVariables false
attribute [local go_sem] Oper.semAt_some
theorem wide_fn (f : Nat) : Fence.wide.fn f = True := rfl
attribute [local simp] wide_fn

abbrev U64 := { x : Int // 0 ≤ x ∧ x < 18446744073709551616 }
/-- The two numbers that lie about 'near'. -/
def on (low near : Int) : Int := (near + W (near % 4294967296) low) % 18446744073709551616
def ahead (low near : Int) : Int := (on low near - 4294967296) % 18446744073709551616
theorem on_range (low near : Int) : 0 ≤ on low near ∧ on low near < 18446744073709551616 := by unfold on; omega
theorem ahead_range (low near : Int) : 0 ≤ ahead low near ∧ ahead low near < 18446744073709551616 := by unfold ahead; omega
/-- What Expand answers. -/
def Ex (low near : Int) : Int := if W (near % 4294967296) low ≤ 2147483648 then on low near else ahead low near

theorem cell_new_l (W : World) (v : Value) (t : TypeId) : (W.alloc (.cells #[v] t)).cell? ⟨W.heap.size, 0, none⟩ = some v ∧ (W.alloc (.cells #[v] t)).frozen? ⟨W.heap.size, 0, none⟩ = false := by
  constructor <;> simp [go_sem]
theorem cell_alloc_l {W : World} {a : Addr} {v : Value} (o : Obj) (h : W.cell? a = some v) : (W.alloc o).cell? a = some v := cell_kept h (World.grownBy_alloc W o none) (fun r e => by cases e)
theorem frozen_alloc_l {W : World} {a : Addr} {v : Value} (o : Obj) (h : W.cell? a = some v) (hf : W.frozen? a = false) : (W.alloc o).frozen? a = false := (frozen_kept h (World.grownBy_alloc W o none) (fun r e => by cases e)).trans hf
theorem grownBy_drewN (w : World) (n : Nat) : w.grownBy (w.drewN n) none := ⟨rfl, rfl, rfl, Nat.le_refl _, fun _ _ _ => rfl⟩

theorem around_in (n : Nat) (low near : Int) (w : World) :
    CallsIn Fence.wide n Try.prog 43 #[.int .u32 low, .int .u64 near] w fun e w' => e = .returned (.func (.func 52) #[] #[.pointer (some ⟨w.heap.size + 1, 0, none⟩), .pointer (some ⟨w.heap.size, 0, none⟩)]) ∧ (w.alloc (.cells #[.int .u32 low] 22)).alloc (.cells #[.int .u64 near] 33) = w' := by
  refine callsIn_of_wp Try.func43 rfl trivial ?_ rfl
  simp only [Try.ntmps43, List.size_toArray, List.length_cons, List.length_nil, Nat.reduceAdd, Nat.reduceSub, Array.replicate_succ, Array.replicate_zero, List.push_toArray, List.append_toArray, List.nil_append, List.cons_append]
  gi_wp2
  go_ret
  exact ⟨rfl, rfl⟩

theorem way32_in (n : Nat) (a b : Int) (w : World) :
    CallsIn Fence.wide n Try.prog 41 #[.int .u32 a, .int .u32 b] w fun e w' => e = .returned (.int .u32 (W a b)) ∧ w = w' := by
  refine callsIn_of_wp Try.func41 rfl trivial ?_ rfl
  simp only [Try.ntmps41, List.size_toArray, List.length_cons, List.length_nil, Nat.reduceAdd, Nat.reduceSub, Array.replicate_succ, Array.replicate_zero, List.push_toArray, List.append_toArray, List.nil_append, List.cons_append]
  gi_wp2
  go_ret
  exact ⟨rfl, rfl⟩

theorem way64_in (n : Nat) (a b : Int) (w : World) :
    CallsIn Fence.wide n Try.prog 44 #[.int .u64 a, .int .u64 b] w fun e w' => e = .returned (.int .u64 (IntKind.u64.wrap (b - a))) ∧ w = w' := by
  refine callsIn_of_wp Try.func44 rfl trivial ?_ rfl
  simp only [Try.ntmps44, List.size_toArray, List.length_cons, List.length_nil, Nat.reduceAdd, Nat.reduceSub, Array.replicate_succ, Array.replicate_zero, List.push_toArray, List.append_toArray, List.nil_append, List.cons_append]
  gi_wp2
  go_ret
  exact ⟨rfl, rfl⟩

set_option maxRecDepth 100000 in
set_option maxHeartbeats 2000000 in
theorem around1_stops (n : Nat) (hn : 1 ≤ n) (n₀ Bl Bn : Nat) (low near : Int) (w : World)
    (hl : w.cell? ⟨Bl, 0, none⟩ = some (.int .u32 low)) (hnr : w.cell? ⟨Bn, 0, none⟩ = some (.int .u64 near)) (hBl : Bl < w.heap.size) (hBn : Bn < w.heap.size) :
    SeqStopsK Fence.wide n Try.prog 52 #[.pointer (some ⟨Bn, 0, none⟩), .pointer (some ⟨Bl, 0, none⟩)] (fun x : U64 => #[.int .u64 x.1]) (Below n₀)
      (fun xs => xs = [⟨on low near, on_range _ _⟩, ⟨ahead low near, ahead_range _ _⟩]) (fun pre => pre = [⟨on low near, on_range _ _⟩] ∨ pre = [⟨on low near, on_range _ _⟩, ⟨ahead low near, ahead_range _ _⟩]) 2 w := fun l J Jx W0 hW hJ hJx hY h0 => by
  have hl' : W0.cell? ⟨Bl, 0, none⟩ = some (.int .u32 low) := (hW.cell (p := ⟨Bl, 0, none⟩) hBl).trans hl
  have hn' : W0.cell? ⟨Bn, 0, none⟩ = some (.int .u64 near) := (hW.cell (p := ⟨Bn, 0, none⟩) hBn).trans hnr
  refine callsIn_of_wp Try.func52 rfl trivial ?_ rfl
  simp only [Try.ntmps52, List.size_toArray, List.length_cons, List.length_nil, Nat.reduceAdd, Nat.reduceSub, Array.replicate_succ, Array.replicate_zero, List.push_toArray, List.append_toArray, List.nil_append, List.cons_append]
  gi_wp2
  gi_quiet ((gi_at_call 41; exact CallsIn.quiet_of_same ((way32_in (n - 1) _ _ _).mono fun _ _ ⟨he, hw⟩ => ⟨he, hw.symm⟩)))
  gi_wp2
  have e1 : IntKind.u64.wrap (near + IntKind.u64.wrap (W (near % 4294967296) low)) = on low near := by
    unfold on; rw [IntKind.wrap_u64, IntKind.wrap_u64]; omega
  have e2 : IntKind.u64.wrap (on low near - 4294967296) = ahead low near := by unfold ahead; rw [IntKind.wrap_u64]
  rw [e1]
  clear e1
  have E2 := Lib.hid e2
  clear e2
  have hJ0 : J [] (W0.drewN nq) := hJ _ _ _ none h0 (grownBy_drewN W0 nq) (fun r e => by cases e)
  obtain ⟨f1, t1, a1, b1, hy1, hR1⟩ := hY [] ⟨on low near, on_range _ _⟩ (W0.drewN nq) hJ0 (by simp)
  dsimp only at hy1
  rw [hy1]
  gi_wp2
  refine hR1.mono ?_
  rintro e W1 (⟨rfl, hJ1, _⟩ | ⟨rfl, hx1⟩)
  · obtain ⟨f2, t2, a2, b2, hy2, hR2⟩ := hY [⟨on low near, on_range _ _⟩] ⟨ahead low near, ahead_range _ _⟩ W1 hJ1 (by simp)
    dsimp only at hy2
    gi_wp2
    rw [E2.out, hy2]
    gi_wp2
    refine hR2.mono ?_
    rintro e W2 (⟨rfl, hJ2, _⟩ | ⟨rfl, hx2⟩)
    · gi_wp2
      go_end0
      exact ⟨⟨_, rfl⟩, .inl ⟨_, rfl, hJ2⟩⟩
    · gi_wp2
      go_end0
      exact ⟨⟨_, rfl⟩, .inr ⟨_, .inr rfl, hx2⟩⟩
  · gi_wp2
    go_end0
    exact ⟨⟨_, rfl⟩, .inr ⟨_, .inl rfl, hx1⟩⟩

def AllFar (near : Int) (pre : List U64) : Prop := ∀ y ∈ pre, ¬ IntKind.u64.wrap (y.1 - near) ≤ 2147483648
def Left (near : Int) (h : Nat) (c : Code) (pre : List U64) (W : World) : Prop :=
  c = .ret ∧ ∃ (p : List U64) (x : U64), pre = p ++ [x] ∧ AllFar near p ∧ IntKind.u64.wrap (x.1 - near) ≤ 2147483648 ∧ W.cell? ⟨h, 0, none⟩ = some (.int .u64 x.1)
theorem AllFar.snoc {near : Int} {pre : List U64} {x : U64} (h : AllFar near pre) (hx : 2147483648 < IntKind.u64.wrap (x.1 - near)) : AllFar near (pre ++ [x]) := by
  intro y hy
  rcases List.mem_append.1 hy with h' | h'
  · exact h y h'
  · obtain rfl : y = x := by simpa using h'
    omega
/-- What is answered where the loop over both has run out. -/
theorem ex_done (low near : Int) (h : AllFar near [⟨on low near, on_range _ _⟩, ⟨ahead low near, ahead_range _ _⟩]) : IntKind.u64.wrap (IntKind.u64.wrap (near + IntKind.u64.wrap (W (near % 4294967296) low)) - 4294967296) = Ex low near := by
  have h1 := h ⟨on low near, on_range _ _⟩ (by simp)
  have hw := W_range (near % 4294967296) low
  simp only [IntKind.wrap_u64] at h1 ⊢
  unfold Ex
  unfold on at h1
  rw [if_neg (by omega)]
  unfold ahead on
  omega
theorem ex_left (low near : Int) (p : List U64) (x : U64) (hpre : p ++ [x] = [⟨on low near, on_range _ _⟩] ∨ p ++ [x] = [⟨on low near, on_range _ _⟩, ⟨ahead low near, ahead_range _ _⟩]) (hp : AllFar near p) (hx : IntKind.u64.wrap (x.1 - near) ≤ 2147483648) : x.1 = Ex low near := by
  have hw := W_range (near % 4294967296) low
  rcases hpre with h | h
  · have : p ++ [x] = [] ++ [(⟨on low near, on_range _ _⟩ : U64)] := h
    obtain ⟨_, hx'⟩ := List.append_inj' this rfl
    have : x = ⟨on low near, on_range _ _⟩ := by simpa using hx'
    subst this
    simp only [IntKind.wrap_u64] at hx
    unfold Ex
    unfold on at hx
    rw [if_pos (by omega)]
  · have : p ++ [x] = [(⟨on low near, on_range _ _⟩ : U64)] ++ [⟨ahead low near, ahead_range _ _⟩] := h
    obtain ⟨hp', hx'⟩ := List.append_inj' this rfl
    have : x = ⟨ahead low near, ahead_range _ _⟩ := by simpa using hx'
    subst this
    have h1 := hp ⟨on low near, on_range _ _⟩ (by rw [hp']; simp)
    simp only [IntKind.wrap_u64] at hx h1
    unfold ahead on at hx
    unfold on at h1
    omega

set_option maxRecDepth 100000 in
set_option maxHeartbeats 2000000 in
theorem expand_in (low near : Int) (hl : 0 ≤ low ∧ low < 4294967296) (hn : 0 ≤ near ∧ near < 18446744073709551616) (w : World) :
    CallsIn Fence.wide 3 Try.prog 23 #[.int .u32 low, .int .u64 near] w fun e W' => e = .returned (.int .u64 (Ex low near)) ∧ Below w.heap.size w W' := by
  refine callsIn_of_wp_marks Try.func23 rfl trivial ?_ rfl
  simp only [Try.ntmps23, List.size_toArray, List.length_cons, List.length_nil, Nat.reduceAdd, Nat.reduceSub, Array.replicate_succ, Array.replicate_zero, List.push_toArray, List.append_toArray, List.nil_append, List.cons_append]
  gi_wp2_with (gi_at_call 43; refine (around_in 2 _ _ _).mono ?_; rintro e w' ⟨rfl, rfl⟩)
  have c0 := cell_new_l w (.int .u64 near) 33
  have c1 := cell_new_l (w.alloc (.cells #[.int .u64 near] 33)) (.int .u64 0) 33
  have c2 := cell_new_l ((w.alloc (.cells #[.int .u64 near] 33)).alloc (.cells #[.int .u64 0] 33)) (.int .u32 low) 22
  have c3 := cell_new_l (((w.alloc (.cells #[.int .u64 near] 33)).alloc (.cells #[.int .u64 0] 33)).alloc (.cells #[.int .u32 low] 22)) (.int .u64 near) 33
  simp only [World.size_alloc] at c1 c2 c3
  have hB0 : Below w.heap.size w ((((w.alloc (.cells #[.int .u64 near] 33)).alloc (.cells #[.int .u64 0] 33)).alloc (.cells #[.int .u32 low] 22)).alloc (.cells #[.int .u64 near] 33)) := by go_grown
  refine wpIn_rangeFunc_ownF rfl (by omega) (gf := 52) (lb := #[.pointer (some ⟨w.heap.size + 1 + 1 + 1, 0, none⟩), .pointer (some ⟨w.heap.size + 1 + 1, 0, none⟩)]) rfl trivial (enters_of Try.func52 (by kernel_rfl) rfl)
    (around1_stops 2 (by omega) w.heap.size (w.heap.size + 1 + 1) (w.heap.size + 1 + 1 + 1) low near _ (cell_alloc_l _ c2.1) c3.1 (by simp) (by simp)) belowK_t (belowK_b (by simp; omega)) (Below.refl _ _) (fun _ => rfl)
    (fun pre W => (AllFar near pre ∧ W.cell? ⟨w.heap.size, 0, none⟩ = some (.int .u64 near) ∧ W.cell? ⟨w.heap.size + 1, 0, none⟩ = some (.int .u64 0) ∧ W.frozen? ⟨w.heap.size + 1, 0, none⟩ = false) ∧ Below w.heap.size w W)
    (fun c pre W => Left near (w.heap.size + 1) c pre W ∧ Below w.heap.size w W)
    (OwnFrom.and (Own.from (fun s A B row hs hg hr => ⟨hs.1, cell_kept hs.2.1 hg hr, cell_kept hs.2.2.1 hg hr, (frozen_kept hs.2.2.1 hg hr).trans hs.2.2.2⟩) _) (ownFrom_below (Nat.le_refl _) (by simp; omega)))
    (fun c => OwnFrom.and (Own.from (fun s A B row hs hg hr => by obtain ⟨h1, p, x, h2, h3, h4, h5⟩ := hs; exact ⟨h1, p, x, h2, h3, h4, cell_kept h5 hg hr⟩) _) (ownFrom_below (Nat.le_refl _) (by simp; omega)))
    ⟨⟨fun _ h => by simp at h, cell_alloc_l _ (cell_alloc_l _ (cell_alloc_l _ c0.1)), cell_alloc_l _ (cell_alloc_l _ c1.1), frozen_alloc_l _ (cell_alloc_l _ c1.1) (frozen_alloc_l _ c1.1 c1.2)⟩, hB0⟩
    (fun x => { tmps := #[.int .u32 low, .int .u64 near, undef, .pointer (some ⟨w.heap.size, 0, none⟩), .pointer (some ⟨w.heap.size + 1, 0, none⟩), .int .u64 x.1, .int .u32 low, .int .u64 near, .func (.func 52) #[] #[.pointer (some ⟨w.heap.size + 1 + 1 + 1, 0, none⟩), .pointer (some ⟨w.heap.size + 1 + 1, 0, none⟩)], .int .u64 x.1, undef, undef, undef, undef, undef, undef, undef, undef, undef, undef, undef, undef, undef], defers := [] }) ?assign ?body ?done ?stop
  case assign =>
    intro l x W K hK
    gi_wp2
    exact hK
  case body =>
    rintro l pre x W ⟨⟨hp, hcn, hcr, hfr⟩, hB⟩ _
    gi_wp2_with (gi_at_call 44; refine (CallsIn.inRound l (way64_in _ _ _ _)).mono ?_; rintro e w' ⟨rfl, rfl⟩)
    · have hx : IntKind.u64.wrap (x.1 - near) ≤ 2147483648 := by assumption
      exact ⟨KeepsOthers.setCell _ _ _, ⟨rfl, pre, x, rfl, hp, hx, World.cell?_setCell_same' _ _ _ (by rw [hcr]; rfl)⟩, hB.setCell (p := ⟨w.heap.size + 1, 0, none⟩) (by simp) _⟩
    · have hx : 2147483648 < IntKind.u64.wrap (x.1 - near) := by assumption
      exact ⟨KeepsOthers.refl _, Below.refl _ _, ⟨hp.snoc hx, hcn, hcr, hfr⟩, hB⟩
  case done =>
    rintro D ys W hD rfl ⟨⟨hne, hcn, hcr, hfr⟩, hB⟩ hK
    have e0 : IntKind.u32.wrap near = near % 4294967296 := IntKind.wrap_u32 _
    have hmix : Try.prog.follows .mixedOrders = true := by kernel_rfl
    gi_wp2
    first | (gi_region_with_o (gi_at_call 41; refine (way32_in _ _ _ _).mono ?_; rintro e w' ⟨rfl, rfl⟩)) | fail
    all_goals gi_wp2
    all_goals
      rw [ex_done low near hne]
      have hK' := (KeepsOthers.drew _).same D _ ((KeepsOthers.setCell W ⟨w.heap.size + 1, 0, none⟩ (.int .u64 (Ex low near))).same D _ hK rfl) rfl
      refine ⟨by simp, .inl ⟨_, _, rfl, run_takeDeferred hK', ?_⟩⟩
      have hc5 := cell_kept (W := (W.setCell ⟨w.heap.size + 1, 0, none⟩ (.int .u64 (Ex low near))).drew) (World.cell?_setCell_same' W ⟨w.heap.size + 1, 0, none⟩ (.int .u64 (Ex low near)) (by rw [hcr]; rfl)) (grownBy_putObj' _ D (.deferred none)) (fun r e => by cases e; exact ⟨_, hK', rfl⟩)
      refine ⟨.int .u64 (Ex low near), ?_, rfl, ((hB.setCell (p := ⟨w.heap.size + 1, 0, none⟩) (by simp) _).drew).trans (belowK_b (w := w) (Nat.le_refl _) _ D _ _ (by simp at hD; omega) hK' rfl rfl)⟩
      simp [results, Try.f23, go_sem, hc5]
  case stop =>
    rintro D c pre W hD hpre ⟨⟨rfl, p, x, rfl, hp, hx, hcr⟩, hB⟩ hK
    rw [ex_left low near p x hpre hp hx] at hcr
    gi_wp2
    refine ⟨by simp, .inl ⟨_, _, rfl, run_takeDeferred hK, ?_⟩⟩
    have hc5 := cell_kept hcr (grownBy_putObj' _ D (.deferred none)) (fun r e => by cases e; exact ⟨_, hK, rfl⟩)
    refine ⟨.int .u64 (Ex low near), ?_, rfl, hB.trans (belowK_b (w := w) (Nat.le_refl _) W D _ _ (by simp at hD; omega) hK rfl rfl)⟩
    simp [results, Try.f23, go_sem, hc5]

theorem expand (low near : Int) (hl : 0 ≤ low ∧ low < 4294967296) (hn : 0 ≤ near ∧ near < 18446744073709551616) (w : World) :
    Calls Try.prog 23 #[.int .u32 low, .int .u64 near] w fun e W' => e = .returned (.int .u64 (Ex low near)) ∧ Below w.heap.size w W' :=
  (callsIn_wide (n := 3)).1 (expand_in low near hl hn w)
#print axioms expand
end Go.Proofs.Ytmjajepdlopkiaa.Sq
