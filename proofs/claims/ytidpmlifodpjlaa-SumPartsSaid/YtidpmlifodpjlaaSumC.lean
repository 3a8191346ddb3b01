/- The iterator of package sum (words): it hands over the words of parts, one behind the other; its state (a half word that waits) lies in cells of its own. -/
import Derived.Test.YtidpmlifodpjlaaSumB
namespace Go.Proofs.Ytidpmlifodpjlaa.Sm
open Go.RowKit Go.Shelf
set_option linter.unusedVariables false
attribute [local go_sem] Oper.semAt_some
theorem wide_fn (f : Nat) : Fence.wide.fn f = True := rfl
attribute [local simp] wide_fn

theorem YieldAt.any {m : Nat} (m' : Nat) {P : Program} {l : Nat} {args : Array Value} {W : World} {R : Ending → World → Prop} (h : YieldAt Fence.wide m P l args W R) : YieldAt Fence.wide m' P l args W R := by
  obtain ⟨fn, tmps, assign, body, hy, hF, hR⟩ := h
  exact ⟨fn, tmps, assign, body, hy, hF, fun c cs _ => hR c cs (room_wide _)⟩

/-- Whatever blocks of cells but those of X lie as they lay. -/
structure Kx (X : List Nat) (A B : World) : Prop where
  size : A.heap.size ≤ B.heap.size
  same : ∀ (k : Nat) (o : Obj), k ∉ X → A.heap[k]? = some o → o.isCells = true → B.heap[k]? = some o
theorem Kx.refl (X : List Nat) (A : World) : Kx X A A := ⟨Nat.le_refl _, fun _ _ _ h _ => h⟩
theorem Kx.trans {X : List Nat} {A B C : World} (h : Kx X A B) (k : Kx X B C) : Kx X A C :=
  ⟨Nat.le_trans h.size k.size, fun i o hi ho hc => k.same i o hi (h.same i o hi ho hc) hc⟩
theorem Kx.mono {X Y : List Nat} {A B : World} (h : Kx X A B) (hs : ∀ x ∈ X, x ∈ Y) : Kx Y A B :=
  ⟨h.size, fun i o hi ho hc => h.same i o (fun hx => hi (hs i hx)) ho hc⟩
theorem Kx.alloc {X : List Nat} {A B : World} (h : Kx X A B) (o : Obj) : Kx X A (B.alloc o) :=
  h.trans ⟨by simp, fun k o' _ hk _ => (Below.heap_alloc B o k (Array.getElem?_eq_some_iff.1 hk).1).trans hk⟩
theorem Kx.drew {X : List Nat} {A B : World} (h : Kx X A B) : Kx X A B.drew := ⟨h.size, h.same⟩
theorem Kx.setCell {X : List Nat} {A B : World} (h : Kx X A B) {a : Addr} (ha : a.block ∈ X) (v : Value) : Kx X A (B.setCell a v) :=
  h.trans ⟨by simp [World.setCell], fun k o' hk hk' _ => (Below.heap_setCell B a v k (fun e => hk (e ▸ ha))).trans hk'⟩
theorem Kx.putObj {X : List Nat} {W : World} {l : Nat} {o : Obj} (o' : Obj) (hl : W.heap[l]? = some o) (ho : o.isCells = false) : Kx X W (W.putObj l o') :=
  ⟨by simp, fun k o'' _ hk hc => by
    by_cases e : k = l
    · subst e; rw [hl] at hk; cases hk; rw [ho] at hc; cases hc
    · exact (World.putObj_heap_other e).trans hk⟩
theorem Kx.cell {X : List Nat} {A B : World} (h : Kx X A B) {a : Addr} {v : Value} (hx : a.block ∉ X) (hc : A.cell? a = some v) : B.cell? a = some v := by
  obtain ⟨o, ho, hoc⟩ := cells_of_cell hc
  exact (World.cell?_of_block ((h.same _ o hx ho hoc).trans ho.symm)).trans hc
theorem Kx.frozen {X : List Nat} {A B : World} (h : Kx X A B) {a : Addr} {v : Value} (hx : a.block ∉ X) (hc : A.cell? a = some v) : B.frozen? a = A.frozen? a := by
  obtain ⟨o, ho, hoc⟩ := cells_of_cell hc
  exact World.frozen?_of_block ((h.same _ o hx ho hoc).trans ho.symm)

theorem set_other (W : World) (a : Addr) (v : Value) (b : Addr) (h : b.block ≠ a.block) : (W.setCell a v).cell? b = W.cell? b := World.cell?_of_block (Below.heap_setCell W a v b.block h)

theorem _root_.Go.RowKit.Below.cell_old {w W : World} (h : Below w.heap.size w W) {p : Addr} {v : Value} (hc : w.cell? p = some v) : W.cell? p = some v :=
  (World.cell?_of_block (h.block _ (World.block_lt_of_cell? _ _ hc))).trans hc

theorem cell_new_l (W : World) (v : Value) (t : TypeId) : (W.alloc (.cells #[v] t)).cell? ⟨W.heap.size, 0, none⟩ = some v ∧ (W.alloc (.cells #[v] t)).frozen? ⟨W.heap.size, 0, none⟩ = false := by
  constructor <;> simp [go_sem]
theorem cell_alloc_l {W : World} {a : Addr} {v : Value} (o : Obj) (h : W.cell? a = some v) : (W.alloc o).cell? a = some v := cell_kept h (World.grownBy_alloc W o none) (fun r e => by cases e)
theorem frozen_alloc_l {W : World} {a : Addr} {v : Value} (o : Obj) (h : W.cell? a = some v) (hf : W.frozen? a = false) : (W.alloc o).frozen? a = false := (frozen_kept h (World.grownBy_alloc W o none) (fun r e => by cases e)).trans hf

abbrev U16 := { x : Int // 0 ≤ x ∧ x < 65536 }
def mkw (h c : UInt8) : U16 := ⟨(h.toNat : Int) * 256 + c.toNat, by have := h.toNat_lt; have := c.toNat_lt; omega⟩
/-- What has been handed over, and the half word that waits. -/
def step (s : List U16 × Option UInt8) (c : UInt8) : List U16 × Option UInt8 :=
  match s.2 with
  | none => (s.1, some c)
  | some h => (s.1 ++ [mkw h c], none)
/-- All words. -/
def fin (s : List U16 × Option UInt8) : List U16 := match s.2 with | none => s.1 | some h => s.1 ++ [mkw h 0]

/-- The iterator's own cells: waits at c2, half at c1; yield at c0. -/
def St (l c0 c1 c2 : Nat) (J : List U16 → World → Prop) (s : List U16 × Option UInt8) (W : World) : Prop :=
  W.cell? ⟨c0, 0, none⟩ = some (.func (.yield l) #[] #[]) ∧ W.cell? ⟨c2, 0, none⟩ = some (.bool s.2.isSome) ∧ W.frozen? ⟨c2, 0, none⟩ = false ∧ W.frozen? ⟨c1, 0, none⟩ = false ∧
  (∃ hv : Int, W.cell? ⟨c1, 0, none⟩ = some (.int .u16 hv) ∧ ∀ h, s.2 = some h → hv = (h.toNat : Int) * 256) ∧ J s.1 W

set_option maxRecDepth 100000 in
set_option maxHeartbeats 2000000 in
theorem take_none (m : Nat) (l c0 c1 c2 b0 B : Nat) (J : List U16 → World → Prop) (hJ : ∀ s A B', J s A → Below B A B' → J s B') (h1 : B ≤ c1) (h2 : B ≤ c2) (h01 : c0 ≠ c1) (h02 : c0 ≠ c2) (h12 : c1 ≠ c2)
    (pre : List U16) (c : UInt8) (W : World) (hs : St l c0 c1 c2 J (pre, none) W) :
    CallsIn Fence.wide m Try.prog 36 #[.int .u8 c.toNat, .pointer (some ⟨c2, 0, none⟩), .pointer (some ⟨c1, 0, none⟩), .pointer (some ⟨c0, 0, none⟩)] W fun e W' =>
      e = .returned (.bool true) ∧ St l c0 c1 c2 J (pre, some c) W' ∧ Kx [b0, c1, c2] W W' := by
  obtain ⟨hy, hw, hf2, hf1, ⟨hv, hh, _⟩, hj⟩ := hs
  simp only [Option.isSome] at hw
  have hc := c.toNat_lt
  refine callsIn_of_wp Try.func36 rfl trivial ?_ rfl
  simp only [Try.ntmps36, List.size_toArray, List.length_cons, List.length_nil, Nat.reduceAdd, Nat.reduceSub, Array.replicate_succ, Array.replicate_zero, List.push_toArray, List.append_toArray, List.nil_append, List.cons_append]
  gi_wp2
  go_ret
  have q1 : ((W.setCell ⟨c2, 0, none⟩ (.bool true)).setCell ⟨c1, 0, none⟩ (.int .u16 (c.toNat * 256))).cell? ⟨c0, 0, none⟩ = some (.func (.yield l) #[] #[]) :=
    (set_other _ _ _ _ h01).trans ((set_other _ _ _ _ h02).trans hy)
  have q2 : ((W.setCell ⟨c2, 0, none⟩ (.bool true)).setCell ⟨c1, 0, none⟩ (.int .u16 (c.toNat * 256))).cell? ⟨c2, 0, none⟩ = some (.bool true) :=
    (set_other _ _ _ _ (Ne.symm h12)).trans (World.cell?_setCell_same' _ _ _ (by rw [hw]; rfl))
  have q3 : ((W.setCell ⟨c2, 0, none⟩ (.bool true)).setCell ⟨c1, 0, none⟩ (.int .u16 (c.toNat * 256))).cell? ⟨c1, 0, none⟩ = some (.int .u16 (c.toNat * 256)) :=
    World.cell?_setCell_same' _ _ _ (by rw [set_other _ _ _ _ h12, hh]; rfl)
  refine ⟨rfl, ⟨q1, q2, ?_, ?_, ⟨_, q3, fun h e => by cases e; rfl⟩, ?_⟩, ?_⟩
  · rw [World.frozen?_setCell, World.frozen?_setCell]; exact hf2
  · rw [World.frozen?_setCell, World.frozen?_setCell]; exact hf1
  · exact hJ _ _ _ hj (((Below.refl B W).setCell (p := ⟨c2, 0, none⟩) h2 _).setCell (p := ⟨c1, 0, none⟩) h1 _)
  · exact ((Kx.refl _ _).setCell (by simp) _).setCell (by simp) _

set_option maxRecDepth 100000 in
set_option maxHeartbeats 2000000 in
theorem take_some (m : Nat) (l c0 c1 c2 b0 B : Nat) (J : List U16 → World → Prop) (hJ : ∀ s A B', J s A → Below B A B' → J s B') (h1 : B ≤ c1) (h2 : B ≤ c2) (h01 : c0 ≠ c1) (h02 : c0 ≠ c2) (h12 : c1 ≠ c2) (b00 : c0 ≠ b0) (b01 : c1 ≠ b0) (b02 : c2 ≠ b0)
    (hY : ∀ pre x W1, J pre W1 → YieldAt Fence.wide m Try.prog l #[.int .u16 x.1] W1 fun e W' => e = .returned (.bool true) ∧ J (pre ++ [x]) W' ∧ Kx [b0] W1 W')
    (pre : List U16) (h c : UInt8) (W : World) (hs : St l c0 c1 c2 J (pre, some h) W) :
    CallsIn Fence.wide m Try.prog 36 #[.int .u8 c.toNat, .pointer (some ⟨c2, 0, none⟩), .pointer (some ⟨c1, 0, none⟩), .pointer (some ⟨c0, 0, none⟩)] W fun e W' =>
      e = .returned (.bool true) ∧ St l c0 c1 c2 J (pre ++ [mkw h c], none) W' ∧ Kx [b0, c1, c2] W W' := by
  obtain ⟨hy, hw, hf2, hf1, ⟨hv, hh, hv2⟩, hj⟩ := hs
  obtain rfl := hv2 h rfl
  clear hv2
  simp only [Option.isSome] at hw
  have hc := c.toNat_lt
  have hc' := h.toNat_lt
  have ej : bits .or .u16 ((h.toNat : Int) * 256) c.toNat = (mkw h c).1 := or_join _ _ (by omega) (by omega) (by omega) (by omega)
  have q1 : (W.setCell ⟨c2, 0, none⟩ (.bool false)).cell? ⟨c0, 0, none⟩ = some (.func (.yield l) #[] #[]) := (set_other _ _ _ _ h02).trans hy
  have q2 : (W.setCell ⟨c2, 0, none⟩ (.bool false)).cell? ⟨c2, 0, none⟩ = some (.bool false) := World.cell?_setCell_same' _ _ _ (by rw [hw]; rfl)
  have q3 : (W.setCell ⟨c2, 0, none⟩ (.bool false)).cell? ⟨c1, 0, none⟩ = some (.int .u16 (h.toNat * 256)) := (set_other _ _ _ _ h12).trans hh
  have q4 : (W.setCell ⟨c2, 0, none⟩ (.bool false)).frozen? ⟨c2, 0, none⟩ = false := by rw [World.frozen?_setCell]; exact hf2
  have q5 : (W.setCell ⟨c2, 0, none⟩ (.bool false)).frozen? ⟨c1, 0, none⟩ = false := by rw [World.frozen?_setCell]; exact hf1
  obtain ⟨f1, t1, a1, y1, hy1, hR1⟩ := YieldAt.any (m - 1) (hY pre (mkw h c) _ (hJ _ _ _ hj ((Below.refl B W).setCell (p := ⟨c2, 0, none⟩) h2 (.bool false))))
  refine callsIn_of_wp Try.func36 rfl trivial ?_ rfl
  simp only [Try.ntmps36, List.size_toArray, List.length_cons, List.length_nil, Nat.reduceAdd, Nat.reduceSub, Array.replicate_succ, Array.replicate_zero, List.push_toArray, List.append_toArray, List.nil_append, List.cons_append]
  gi_wp2
  refine ⟨fun hd => by simp [Fence.wide] at hd, ?_⟩
  refine hR1.mono ?_
  rintro e W1 ⟨rfl, hj1, hk1⟩
  gi_wp2
  go_ret
  have n0 : c0 ∉ [b0] := by simp [b00]
  have n1 : c1 ∉ [b0] := by simp [b01]
  have n2 : c2 ∉ [b0] := by simp [b02]
  exact ⟨rfl, ⟨hk1.cell (a := ⟨c0, 0, none⟩) n0 q1, hk1.cell (a := ⟨c2, 0, none⟩) n2 q2, (hk1.frozen (a := ⟨c2, 0, none⟩) n2 q2).trans q4, (hk1.frozen (a := ⟨c1, 0, none⟩) n1 q3).trans q5, ⟨_, hk1.cell (a := ⟨c1, 0, none⟩) n1 q3, fun h e => by cases e⟩, hj1⟩,
    ((Kx.refl [b0, c1, c2] W).setCell (a := ⟨c2, 0, none⟩) (by simp) (.bool false)).trans (hk1.mono (by simp))⟩

theorem take (m : Nat) (l c0 c1 c2 b0 B : Nat) (J : List U16 → World → Prop) (hJ : ∀ s A B', J s A → Below B A B' → J s B') (h1 : B ≤ c1) (h2 : B ≤ c2) (h01 : c0 ≠ c1) (h02 : c0 ≠ c2) (h12 : c1 ≠ c2) (b00 : c0 ≠ b0) (b01 : c1 ≠ b0) (b02 : c2 ≠ b0)
    (hY : ∀ pre x W1, J pre W1 → YieldAt Fence.wide m Try.prog l #[.int .u16 x.1] W1 fun e W' => e = .returned (.bool true) ∧ J (pre ++ [x]) W' ∧ Kx [b0] W1 W')
    (s : List U16 × Option UInt8) (c : UInt8) (W : World) (hs : St l c0 c1 c2 J s W) :
    CallsIn Fence.wide m Try.prog 36 #[.int .u8 c.toNat, .pointer (some ⟨c2, 0, none⟩), .pointer (some ⟨c1, 0, none⟩), .pointer (some ⟨c0, 0, none⟩)] W fun e W' =>
      e = .returned (.bool true) ∧ St l c0 c1 c2 J (step s c) W' ∧ Kx [b0, c1, c2] W W' := by
  obtain ⟨pre, o⟩ := s
  cases o with
  | none => exact take_none m l c0 c1 c2 b0 B J hJ h1 h2 h01 h02 h12 pre c W hs
  | some h => exact take_some m l c0 c1 c2 b0 B J hJ h1 h2 h01 h02 h12 b00 b01 b02 hY pre h c W hs

/-- A slice of strings that lies in memory: its elements. -/
def Strs (w : World) (a : Option Addr) (n : Nat) (ss : List ByteArray) : Prop :=
  ss.length = n ∧ n ≤ 9223372036854775807 ∧ (∀ s ∈ ss, s.size ≤ 9223372036854775807) ∧ (ss = [] ∨ ∃ b off, a = some ⟨b, off, none⟩ ∧ ∀ i, (h : i < ss.length) → w.cell? ⟨b, off + i, none⟩ = some (.string ss[i]))

theorem strs_lt {w : World} {A : Option Addr} {n : Nat} {ss : List ByteArray} (h : Strs w A n ss) : ss = [] ∨ ∀ x, A = some x → x.block < w.heap.size := by
  rcases h.2.2.2 with h | ⟨b, off, rfl, hc⟩
  · exact .inl h
  · cases ss with
    | nil => exact .inl rfl
    | cons s r => right; intro x hx; cases hx; exact World.block_lt_of_cell? _ _ (hc 0 (by simp))

/-- All bytes of parts. -/
def bytesOf (ss : List ByteArray) : List UInt8 := ss.flatMap fun s => s.data.toList
def wordsOf (ss : List ByteArray) : List U16 := fin ((bytesOf ss).foldl step ([], none))

set_option maxRecDepth 100000 in
set_option maxHeartbeats 4000000 in
theorem words1 (m b0 Bp : Nat) (a : Option Addr) (n cap : Nat) (ss : List ByteArray) (w : World) (hp : w.cell? ⟨Bp, 0, none⟩ = some (.slice a n cap)) (hss : Strs w a n ss) (hB0 : b0 < w.heap.size) (hBp : Bp ≠ b0) (hBa : ss = [] ∨ ∀ x, a = some x → x.block ≠ b0) :
    SeqAll Fence.wide m Try.prog 35 #[.pointer (some ⟨Bp, 0, none⟩)] (fun x : U16 => #[.int .u16 x.1]) (Kx [b0]) (wordsOf ss) w := fun l J W hW hJ hY h0 => by
  refine callsIn_of_wp Try.func35 rfl trivial ?_ rfl
  simp only [Try.ntmps35, List.size_toArray, List.length_cons, List.length_nil, Nat.reduceAdd, Nat.reduceSub, Array.replicate_succ, Array.replicate_zero, List.push_toArray, List.append_toArray, List.nil_append, List.cons_append]
  have hp' : W.cell? ⟨Bp, 0, none⟩ = some (.slice a n cap) := hW.cell_old hp
  have hlt : Bp < W.heap.size := World.block_lt_of_cell? _ _ hp'
  have hlt1 : Bp < W.heap.size + 1 := by omega
  have hlt2 : Bp < W.heap.size + 1 + 1 := by omega
  gi_wp2
  obtain ⟨hn, hn2, hsz, hsc⟩ := hss
  have f1 : (W.alloc (.cells #[.func (.yield l) #[] #[]] 56)).heap.size = W.heap.size + 1 := by simp
  have f2 : ((W.alloc (.cells #[.func (.yield l) #[] #[]] 56)).alloc (.cells #[.int .u16 0] 24)).heap.size = W.heap.size + 1 + 1 := by simp
  have s0 : St l W.heap.size (W.heap.size + 1) (W.heap.size + 1 + 1) J ([], none) (((W.alloc (.cells #[.func (.yield l) #[] #[]] 56)).alloc (.cells #[.int .u16 0] 24)).alloc (.cells #[.bool false] 4)) := by
    have d0 := cell_new_l W (.func (.yield l) #[] #[]) 56
    have d1 := cell_new_l (W.alloc (.cells #[.func (.yield l) #[] #[]] 56)) (.int .u16 0) 24
    have d2 := cell_new_l ((W.alloc (.cells #[.func (.yield l) #[] #[]] 56)).alloc (.cells #[.int .u16 0] 24)) (.bool false) 4
    rw [f1] at d1
    rw [f2] at d2
    exact ⟨cell_alloc_l _ (cell_alloc_l _ d0.1), d2.1, d2.2, frozen_alloc_l _ d1.1 d1.2, ⟨0, cell_alloc_l _ d1.1, fun h e => by cases e⟩, hJ _ _ _ h0 (by go_grown)⟩
  have k0 : ∀ p v, W.cell? p = some v → (((W.alloc (.cells #[.func (.yield l) #[] #[]] 56)).alloc (.cells #[.int .u16 0] 24)).alloc (.cells #[.bool false] 4)).cell? p = some v := fun p v h => cell_alloc_l _ (cell_alloc_l _ (cell_alloc_l _ h))
  have K0 := Lib.hid k0
  clear k0 f1 f2 hlt1 hlt2
  obtain ⟨W2, hW2⟩ : ∃ W2, (((W.alloc (.cells #[.func (.yield l) #[] #[]] 56)).alloc (.cells #[.int .u16 0] 24)).alloc (.cells #[.bool false] 4)) = W2 := ⟨_, rfl⟩
  rw [hW2] at s0 K0 ⊢
  clear hW2 hp'
  have hB0' : b0 < W.heap.size := Nat.lt_of_lt_of_le hB0 hW.size
  have HJ := Lib.hid hJ
  have HY := Lib.hid hY
  have HN := Lib.hid hn
  have HSC := Lib.hid hsc
  have HSZ := Lib.hid hsz
  have HBA := Lib.hid hBa
  clear hJ hY hn hsc hsz hBa
  gi_loopw [12] (fun i wr => ∃ k : Nat, k ≤ n ∧ i = .int .i64 k ∧ St l W.heap.size (W.heap.size + 1) (W.heap.size + 1 + 1) J ((bytesOf (ss.take k)).foldl step ([], none)) wr ∧ Kx [b0, W.heap.size + 1, W.heap.size + 1 + 1] W2 wr) (fun i _ => n - (intOf i).toNat)
  case atStart => exact ⟨0, by omega, rfl, s0, Kx.refl _ _⟩
  case round =>
    obtain ⟨k, hk, rfl, hs, hkx⟩ := hrel
    have HS := Lib.hid hs
    have HK := Lib.hid hkx
    clear hs hkx s0
    by_cases hlt : k < n
    · have hks : k < ss.length := by rw [HN.out]; exact hlt
      obtain ⟨b, off, hab, hel⟩ := HSC.out.resolve_left (fun h => by rw [h] at hks; simp at hks)
      subst hab
      have hbb : b ≠ b0 := HBA.out.resolve_left (fun h => by rw [h] at hks; simp at hks) ⟨b, off, none⟩ rfl
      have hc0 : w.cell? ⟨b, off + k, none⟩ = some (.string ss[k]) := hel k hks
      have hbw : b < W.heap.size := Nat.lt_of_lt_of_le (World.block_lt_of_cell? _ _ hc0) hW.size
      have hc1 : wr.cell? ⟨b, off + k, none⟩ = some (.string ss[k]) :=
        HK.out.cell (a := ⟨b, off + k, none⟩) (by simp; omega) (K0.out _ _ (hW.cell_old hc0))
      obtain ⟨s, hs'⟩ : ∃ s, ss[k] = s := ⟨_, rfl⟩
      have Hs := Lib.hid hs'
      clear hs'
      rw [Hs.out] at hc1
      have hsz : s.size ≤ 9223372036854775807 := by rw [← Hs.out]; exact HSZ.out _ (List.getElem_mem hks)
      have Htk : Hid (bytesOf (ss.take (k + 1)) = bytesOf (ss.take k) ++ s.data.toList) := by
        show bytesOf (ss.take (k + 1)) = bytesOf (ss.take k) ++ s.data.toList
        rw [List.take_succ_eq_append_getElem hks, Hs.out]; simp [bytesOf]
      clear hel hc0 hbb
      gi_wp2
      obtain ⟨wo, rfl⟩ : ∃ wo : World, wo = wr := ⟨_, rfl⟩
      gi_loopw [18] (fun i wr => ∃ j : Nat, j ≤ s.size ∧ i = .int .i64 j ∧ St l W.heap.size (W.heap.size + 1) (W.heap.size + 1 + 1) J ((bytesOf (ss.take k) ++ s.data.toList.take j).foldl step ([], none)) wr ∧ Kx [b0, W.heap.size + 1, W.heap.size + 1 + 1] W2 wr) (fun i _ => s.size - (intOf i).toNat)
      case atStart => exact ⟨0, by omega, rfl, by simpa using HS.out, HK.out⟩
      case round =>
        obtain ⟨j, hj, rfl, hs2, hkx2⟩ := hrel
        have HS2 := Lib.hid hs2
        have HK2 := Lib.hid hkx2
        clear hs2 hkx2
        by_cases hjl : j < s.size
        · have hjl' : j < s.data.toList.length := by simpa using hjl
          have Hst : Hid ((bytesOf (ss.take k) ++ s.data.toList.take (j + 1)).foldl step ([], none) = step ((bytesOf (ss.take k) ++ s.data.toList.take j).foldl step ([], none)) s[j]) := by
            show _ = _
            rw [List.take_succ_eq_append_getElem hjl', ← List.append_assoc, List.foldl_append]; rfl
          gi_wp2
          refine ⟨fun hd => by simp [Fence.wide] at hd, (take (m - 1) l W.heap.size (W.heap.size + 1) (W.heap.size + 1 + 1) b0 W.heap.size J HJ.out (by omega) (by omega) (by omega) (by omega) (by omega) (by omega) (by omega) (by omega) HY.out _ s[j] wr HS2.out).mono ?_⟩
          rintro e W3 ⟨rfl, hs3, hk3⟩
          gi_wp2
          exact ⟨⟨j + 1, by omega, by go_num, by rw [Hst.out]; exact hs3, HK2.out.trans hk3⟩, by simp [intOf]; omega⟩
        · obtain rfl : j = s.size := by omega
          have HS3 := HS2.out
          rw [List.take_of_length_le (l := s.data.toList) (by simp), ← Htk.out] at HS3
          have HS4 := Lib.hid HS3
          clear HS3
          gi_wp2
          exact ⟨⟨k + 1, by omega, by go_num, HS4.out, HK2.out⟩, by simp [intOf]; omega⟩
    · obtain rfl : k = n := by omega
      have hfull : ss.take k = ss := List.take_of_length_le (by rw [HN.out]; exact Nat.le_refl _)
      rw [hfull] at HS
      clear hfull
      have HF : Hid (wordsOf ss = fin ((bytesOf ss).foldl step ([], none))) := Eq.refl _
      generalize (bytesOf ss).foldl step ([], none) = s at HS HF
      obtain ⟨pre, o⟩ := s
      obtain ⟨g0, g1, g2, g3, ⟨hv, g4, g5⟩, g6⟩ := HS.out
      cases o with
      | none =>
        simp only [Option.isSome] at g1
        gi_wp2
        go_end0
        exact ⟨⟨_, rfl⟩, by rw [HF.out]; exact g6⟩
      | some h =>
        simp only [Option.isSome] at g1
        obtain rfl := g5 h rfl
        clear g5
        have ew : (h.toNat : Int) * 256 = (mkw h 0).1 := by simp [mkw]
        have hh := h.toNat_lt
        obtain ⟨q1, q2, q3, q4, hy1, hR1⟩ := HY.out pre (mkw h 0) wr g6
        rw [ew] at g4
        clear ew
        gi_wp2
        refine ⟨fun hd => by simp [Fence.wide] at hd, hR1.mono ?_⟩
        rintro e W3 ⟨rfl, hj3, _⟩
        gi_wp2
        go_end0
        exact ⟨⟨_, rfl⟩, by rw [HF.out]; exact hj3⟩
end Go.Proofs.Ytidpmlifodpjlaa.Sm
