/- Plain: what parts bring; in pieces; in another order. -/
import Derived.Test.YtmjajepdlopkiaaShK
namespace Go.Proofs.Ytmjajepdlopkiaa.Sh
set_option linter.unusedVariables false
set_option linter.unusedSimpArgs false

/-- What a part of the stream l brings. -/
def Pt.hit (p : Pt) (l : List UInt8) : Nat → Nat → Bool := Sh.hit (p.f l.length) (p.data l)
theorem brings_at (isn : Int) (hi : 0 ≤ isn ∧ isn < 4294967296) (f : Nat) (hf : f ≤ 1000000) (d : ByteArray) : brings isn ((isn + 1 + f) % 4294967296) d = Sh.hit f d.data.toList := by
  unfold brings
  have : Sq.G (Sq.P isn 1) ((isn + 1 + f) % 4294967296) = f := by
    unfold Sq.G Sq.W Sq.P
    have e : ((isn + 1 + ↑f) % 4294967296 - (isn + 1) % 4294967296) % 4294967296 = f := by omega
    rw [e, if_pos (by omega)]
  rw [this]
theorem hit_split (f : Int) (l : List UInt8) (k : Nat) (hk : k ≤ l.length) (off b : Nat) : (Sh.hit (f + k) (l.drop k) off b || Sh.hit f (l.take k) off b) = Sh.hit f l off b := by
  unfold Sh.hit
  by_cases h : f ≤ off
  · obtain ⟨i, hi⟩ : ∃ i : Nat, (off : Int) - f = i := ⟨((off : Int) - f).toNat, by omega⟩
    rw [hi, show ((i : Int)).toNat = i from rfl, decide_eq_true h]
    simp only [Bool.true_and]
    by_cases h2 : i < k
    · rw [decide_eq_false (by omega : ¬ f + k ≤ off), List.getElem?_take_of_lt h2]; simp
    · rw [decide_eq_true (by omega : f + k ≤ off), List.getElem?_take_eq_none (by omega), show ((off : Int) - (f + k)).toNat = i - k by omega, List.getElem?_drop, show k + (i - k) = i by omega]; simp
  · rw [decide_eq_false h, decide_eq_false (by omega : ¬ f + k ≤ off)]; simp
theorem Pt.f_le (p : Pt) (n : Nat) : p.f n ≤ n := by unfold Pt.f; have := Nat.mod_lt p.fr (show n + 1 > 0 by omega); omega
theorem Pt.raw_len (p : Pt) (l : List UInt8) : (p.raw l).length ≤ 40 := by
  unfold Pt.raw
  rw [List.length_take]
  have := Nat.mod_lt p.lg (show 40 > 0 by omega); omega
theorem Pt.data_len (p : Pt) (l : List UInt8) : (p.data l).length = (p.raw l).length := by
  unfold Pt.data; split
  · rename_i h; rw [h]; rfl
  · rw [List.length_set]
/-- What the first k parts bring. -/
def allH (l : List UInt8) (ps : List Pt) (off b : Nat) : Bool := ps.any fun p => p.hit l off b
/-- What k parts bring, turned round by n. -/
def rotH (l : List UInt8) (ps : List Pt) (n k : Nat) (off b : Nat) : Bool := (List.range k).any fun j => (ps[(j + n) % ps.length]?.map fun p => p.hit l off b).getD false
theorem allH_succ (l : List UInt8) (ps : List Pt) (i : Nat) (hi : i < ps.length) (off b : Nat) : allH l (ps.take (i + 1)) off b = (allH l (ps.take i) off b || ps[i].hit l off b) := by
  unfold allH; rw [List.take_succ_eq_append_getElem hi, List.any_append]; simp
theorem rotH_succ (l : List UInt8) (ps : List Pt) (n k j : Nat) (hj : j < ps.length) (hjk : (k + n) % ps.length = j) (off b : Nat) : rotH l ps n (k + 1) off b = (rotH l ps n k off b || ps[j].hit l off b) := by
  unfold rotH; rw [List.range_succ, List.any_append]; simp only [List.any_cons, List.any_nil, Bool.or_false]; rw [hjk, List.getElem?_eq_getElem hj]; rfl
theorem rot_all (l : List UInt8) (ps : List Pt) (n : Nat) (off b : Nat) : rotH l ps n ps.length off b = allH l ps off b := by
  unfold rotH allH
  rw [Bool.eq_iff_iff, List.any_eq_true, List.any_eq_true]
  constructor
  · rintro ⟨j, hj, h⟩
    have hj := List.mem_range.1 hj
    have hlt : (j + n) % ps.length < ps.length := Nat.mod_lt _ (by omega)
    rw [List.getElem?_eq_getElem hlt] at h
    exact ⟨_, List.getElem_mem hlt, h⟩
  · rintro ⟨p, hp, h⟩
    obtain ⟨i, hi, rfl⟩ := List.getElem_of_mem hp
    have hk : ∃ j, j < ps.length ∧ (j + n) % ps.length = i := by
      have hn := Nat.mod_lt n (show ps.length > 0 by omega)
      have hd := Nat.div_add_mod n ps.length
      by_cases h1 : n % ps.length ≤ i
      · refine ⟨i - n % ps.length, by omega, ?_⟩
        rw [show i - n % ps.length + n = i + ps.length * (n / ps.length) by omega, Nat.add_mul_mod_self_left, Nat.mod_eq_of_lt hi]
      · refine ⟨i + ps.length - n % ps.length, by omega, ?_⟩
        rw [show i + ps.length - n % ps.length + n = i + ps.length + ps.length * (n / ps.length) by omega, Nat.add_mul_mod_self_left, Nat.add_mod_right, Nat.mod_eq_of_lt hi]
    obtain ⟨j, hj, hji⟩ := hk
    refine ⟨j, List.mem_range.2 hj, ?_⟩
    rw [hji, List.getElem?_eq_getElem hi]
    exact h
open Go.RowKit in
/-- Three bytes as a string. -/
theorem buf3 (c : UInt8) (W : World) : (convert 53 9 (.slice (some ⟨W.heap.size, 0, none⟩) 3 3)).run Try.prog (W.alloc (.cells #[.int .u8 (c.toNat : Int), .int .u8 (c.toNat : Int), .int .u8 (c.toNat : Int)] 5)) = .ok (.string (bs [c, c, c])) (W.alloc (.cells #[.int .u8 (c.toNat : Int), .int .u8 (c.toNat : Int), .int .u8 (c.toNat : Int)] 5)) := by
  refine buf_str (l := [c, c, c]) ⟨by rw [World.size_alloc]; omega, fun j hj => ⟨?_, free12 (heap_alloc_new W _) j⟩⟩ rfl 3
  rw [World.cell?_alloc_new]
  have hj : j < 3 := hj
  have : j = 0 ∨ j = 1 ∨ j = 2 := by omega
  rcases this with rfl | rfl | rfl <;> rfl
theorem brings3 (isn : Int) (hi : 0 ≤ isn ∧ isn < 4294967296) (c : UInt8) (off : Nat) (ho : off < 3) : brings isn ((isn + 1) % 4294967296) (bs [c, c, c]) off c.toNat = true := by
  have := brings_at isn hi 0 (by omega) (bs [c, c, c])
  rw [show isn + 1 + ((0 : Nat) : Int) = isn + 1 by omega] at this
  rw [this]
  unfold Sh.hit
  have h : off = 0 ∨ off = 1 ∨ off = 2 := by omega
  rcases h with rfl | rfl | rfl <;> simp
open Go.RowKit in
/-- What seg answers: a segment that brings what the part does. -/
theorem seg_any (p : Pt) (hp : p.Ok) (isn : Int) (hi : 0 ≤ isn ∧ isn < 4294967296) (s : ByteArray) (hs : s.size ≤ 1000) :
    ∃ (f : Nat) (d : ByteArray), f ≤ 1000 ∧ d.size ≤ 40 ∧ Hid (f = p.f s.data.toList.length ∧ d.data.toList = p.data s.data.toList) ∧ (∀ a b, p.hit s.data.toList a b = Sh.hit f d.data.toList a b) ∧
      ∀ W, Calls Try.prog 31 #[.agg #[.int .u16 p.fr, .int .u16 p.lg, .int .u8 p.wh, .int .u8 p.by'], .int .u32 isn, .string s] W fun e w' => e = .returned (segV ((isn + 1 + f) % 4294967296) d) ∧ Gw W w' := by
  have hl : s.data.toList.length = s.size := Array.length_toList
  have h1 := Pt.f_le p s.data.toList.length
  have h2 := Pt.raw_len p s.data.toList
  have h3 := Pt.data_len p s.data.toList
  have e : (bs (p.data s.data.toList)).data.toList = p.data s.data.toList := rfl
  exact ⟨p.f s.data.toList.length, bs (p.data s.data.toList), by omega, by show Array.size _ ≤ _; rw [List.size_toArray]; omega, Lib.hid ⟨rfl, e⟩, fun a b => by rw [e]; rfl, fun W => seg_ p hp isn hi s hs W⟩
end Go.Proofs.Ytmjajepdlopkiaa.Sh
