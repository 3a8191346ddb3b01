/- Plain: a stream whose own bytes came. -/
import Derived.Test.YtmjajepdlopkiaaShQ
import Derived.Laws.BitsAllLaws
namespace Go.Proofs.Ytmjajepdlopkiaa.Sh
set_option linter.unusedVariables false
set_option linter.unusedSimpArgs false

/-- What came, of a stream's own bytes, at the places M. -/
def ownC (s : List UInt8) (M : Nat → Bool) (i b : Nat) : Bool := M i && ((s[i]?).map UInt8.toNat == some b)
def more (M : Nat → Bool) (f n : Nat) (i : Nat) : Bool := M i || decide (f ≤ i ∧ i < f + n)
theorem own_data (p : Pt) (h : p.by' = 0) (s : List UInt8) : p.data s = p.raw s := by
  unfold Pt.data
  split
  · rename_i h0; exact (List.eq_nil_of_length_eq_zero h0).symm
  · rename_i h0
    have hk : p.wh % (p.raw s).length < (p.raw s).length := Nat.mod_lt _ (by omega)
    generalize p.wh % (p.raw s).length = k at *
    apply List.ext_getElem?
    intro i
    by_cases e : i = k
    · subst e
      rw [List.getElem?_set_self hk, List.getD_eq_getElem?_getD, List.getElem?_eq_getElem hk, h]; simp
    · rw [List.getElem?_set_ne (by omega)]
theorem own_hit (p : Pt) (h : p.by' = 0) (s : List UInt8) (i b : Nat) : p.hit s i b = (decide (p.f s.length ≤ i ∧ i < p.f s.length + (p.data s).length) && ((s[i]?).map UInt8.toNat == some b)) := by
  have hd := own_data p h s
  unfold Pt.hit Sh.hit
  rw [hd]
  by_cases h1 : p.f s.length ≤ i
  · rw [decide_eq_true (by omega : ((p.f s.length : Nat) : Int) ≤ i), show ((i : Int) - ((p.f s.length : Nat) : Int)).toNat = i - p.f s.length by omega, Bool.true_and]
    by_cases h2 : i < p.f s.length + (p.raw s).length
    · rw [decide_eq_true ⟨h1, h2⟩, Bool.true_and]
      have : (p.raw s)[i - p.f s.length]? = s[i]? := by
        have hl : (p.raw s).length ≤ (min s.length (p.f s.length + p.lg % 40) - p.f s.length) := by unfold Pt.raw; rw [List.length_take]; omega
        unfold Pt.raw
        rw [List.getElem?_take_of_lt (by omega), List.getElem?_drop, show p.f s.length + (i - p.f s.length) = i by omega]
      rw [this]
    · rw [decide_eq_false (by omega : ¬ (p.f s.length ≤ i ∧ i < p.f s.length + (p.raw s).length)), List.getElem?_eq_none (by omega)]; simp
  · rw [decide_eq_false (by omega : ¬ ((p.f s.length : Nat) : Int) ≤ i), decide_eq_false (by omega : ¬ (p.f s.length ≤ i ∧ i < p.f s.length + (p.raw s).length))]; simp
theorem own_more (p : Pt) (h : p.by' = 0) (s : List UInt8) (M : Nat → Bool) (i b : Nat) : und (ownC s M) (p.hit s) i b = ownC s (more M (p.f s.length) (p.data s).length) i b := by
  unfold und ownC more
  rw [own_hit p h]
  cases M i <;> cases decide (p.f s.length ≤ i ∧ i < p.f s.length + (p.data s).length) <;> simp
/-- From a on, up to b, all came. -/
def allF (M : Nat → Bool) (a b : Nat) : Bool := (List.range b).all fun i => decide (i < a) || M i
theorem allF_at (M : Nat → Bool) (a b : Nat) (h : b ≤ a) : allF M a b = true := by
  unfold allF
  rw [List.all_eq_true]
  intro i hi
  have := List.mem_range.1 hi
  rw [decide_eq_true (by omega)]; rfl
theorem allF_succ (M : Nat → Bool) (a b : Nat) (h : a ≤ b) : allF M a (b + 1) = (allF M a b && M b) := by
  unfold allF
  rw [List.range_succ, List.all_append]
  simp only [List.all_cons, List.all_nil, Bool.and_true]
  rw [decide_eq_false (by omega : ¬ b < a), Bool.false_or]
theorem allF_of (M : Nat → Bool) (a b : Nat) : allF M a b = true ↔ ∀ i, a ≤ i → i < b → M i = true := by
  unfold allF
  rw [List.all_eq_true]
  constructor
  · intro h i h1 h2
    have := h i (List.mem_range.2 h2)
    rw [decide_eq_false (by omega), Bool.false_or] at this
    exact this
  · intro h i hi
    have hi := List.mem_range.1 hi
    by_cases e : i < a
    · rw [decide_eq_true e]; rfl
    · rw [h i (by omega) hi, Bool.or_true]
theorem own_at {n : Nat} {s : List UInt8} {M : Nat → Bool} {i : Nat} (hi : i < s.length) (hn : s.length ≤ n) (c : Nat) : row n (ownC s M) i c = (M i && decide (s[i].toNat = c)) := by
  unfold row
  rw [if_pos (by omega)]
  unfold ownC
  rw [show ((i : Int)).toNat = i from rfl, List.getElem?_eq_getElem hi]
  rw [Bool.eq_iff_iff]; simp
theorem own_fits {n L fell : Nat} {s : List UInt8} {M : Nat → Bool} (hL : L ≤ s.length) (hn : s.length ≤ n) : fitsF (fun off b => row n (ownC s M) off b) (s.take L) s fell = allF M fell L := by
  have hl : (s.take L).length = L := by rw [List.length_take]; omega
  by_cases hf : fell ≤ L
  · have hc : cutF (s.take L).length fell = fell := cutF_in (by rw [hl]; exact hf)
    cases ha : allF M fell L with
    | true =>
      rw [fits_yes]
      · rw [hc, List.take_take, Nat.min_eq_left hf]; exact pre_self s fell
      · intro k hk h1
        rw [hl] at hk
        rw [hc] at h1
        have hk2 : k < s.length := by omega
        rw [own_at hk2 hn, (allF_of M fell L).1 ha k h1 hk, Bool.true_and]
        exact decide_eq_true (by rw [List.getElem_take])
    | false =>
      have : ∃ i, fell ≤ i ∧ i < L ∧ M i = false := by
        apply Classical.byContradiction
        intro h
        have : allF M fell L = true := (allF_of M fell L).2 (fun i h1 h2 => by
          cases hm : M i with
          | true => rfl
          | false => exact absurd ⟨i, h1, h2, hm⟩ h)
        rw [ha] at this; cases this
      obtain ⟨i, h1, h2, h3⟩ := this
      refine fits_no (k := i) (by rw [hl]; exact h2) (by rw [hc]; exact h1) ?_
      rw [own_at (by omega) hn, h3]; rfl
  · have hc : cutF (s.take L).length fell = L := by unfold cutF; rw [hl, if_pos (by omega)]
    rw [allF_at M fell L (by omega), fits_yes]
    · rw [hc, List.take_take, Nat.min_eq_left (Nat.le_refl _)]; exact pre_self s L
    · intro k hk h1
      rw [hl] at hk; rw [hc] at h1; omega
theorem own_all {n L : Nat} {s : List UInt8} {M : Nat → Bool} (hL : L ≤ s.length) : fitsF (fun off b => row n (ownC s M) off b) (s.take L) s (-1) = true := by
  have hl : (s.take L).length = L := by rw [List.length_take]; omega
  have hc : cutF (s.take L).length (-1) = L := by unfold cutF; rw [hl, if_pos (by omega)]
  rw [fits_yes]
  · rw [hc, List.take_take, Nat.min_eq_left (Nat.le_refl _)]; exact pre_self s L
  · intro k hk h1
    rw [hl] at hk; rw [hc] at h1; omega
theorem odd_no {n L k : Nat} {s o : List UInt8} {M : Nat → Bool} (hL : L ≤ s.length) (hn : s.length ≤ n) (hk : k < L) (hol : o.length = L) (hne : o[k]? ≠ s[k]?) (fell : Int) (hf : 0 ≤ fell ∨ fell = -1) : fitsF (fun off b => row n (ownC s M) off b) o s fell = false := by
  have hcl := cutF_le o.length fell
  by_cases h : cutF o.length fell ≤ k
  · have hk2 : k < o.length := by omega
    have hk3 : k < s.length := by omega
    refine fits_no (k := k) hk2 h ?_
    rw [own_at hk3 hn]
    rw [List.getElem?_eq_getElem hk2, List.getElem?_eq_getElem hk3] at hne
    rw [decide_eq_false, Bool.and_false]
    intro e
    exact hne (by rw [UInt8.toNat_inj.1 e])
  · exact fits_pre (pre_ne (i := k) (by omega) hcl hne)
end Go.Proofs.Ytmjajepdlopkiaa.Sh
