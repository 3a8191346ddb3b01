/- Plain: what an edit makes of a stream, and what fits. -/
import Derived.Test.YtmjajepdlopkiaaShL
namespace Go.Proofs.Ytmjajepdlopkiaa.Sh
set_option linter.unusedVariables false
set_option linter.unusedSimpArgs false

/-- Bytes laid over others, from o on. -/
def lay (l : List UInt8) (o : Nat) : List UInt8 → List UInt8
  | [] => l
  | c :: r => lay (l.set o c) (o + 1) r
theorem lay_len (d : List UInt8) : ∀ (l : List UInt8) (o : Nat), (lay l o d).length = l.length := by
  induction d with
  | nil => intro l o; rfl
  | cons c r ih => intro l o; rw [lay, ih, List.length_set]
theorem lay_out (d : List UInt8) : ∀ (l : List UInt8) (o i : Nat), (i < o ∨ o + d.length ≤ i) → (lay l o d)[i]? = l[i]? := by
  induction d with
  | nil => intro l o i _; rfl
  | cons c r ih =>
    intro l o i h
    simp only [List.length_cons] at h
    rw [lay, ih _ _ _ (by omega), List.getElem?_set_ne (by omega)]
theorem lay_in (d : List UInt8) : ∀ (l : List UInt8) (o i : Nat), o + d.length ≤ l.length → i < d.length → (lay l o d)[o + i]? = d[i]? := by
  induction d with
  | nil => intro l o i _ h; simp at h
  | cons c r ih =>
    intro l o i h hi
    simp only [List.length_cons] at h hi
    rw [lay]
    cases i with
    | zero => rw [lay_out r _ _ _ (by omega), Nat.add_zero, List.getElem?_set_self (by omega)]; rfl
    | succ i =>
      have := ih (l.set o c) (o + 1) i (by rw [List.length_set]; omega) (by omega)
      rw [show o + (i + 1) = o + 1 + i by omega, this]; simp
theorem add_ne (x : UInt8) (b : Nat) (h : 1 ≤ b ∧ b ≤ 255) : x + UInt8.ofNat b ≠ x := by
  intro e
  have := congrArg UInt8.toNat e
  rw [UInt8.toNat_add] at this
  have hx := UInt8.toNat_lt x
  have e2 : (UInt8.ofNat b).toNat = b := by simp; omega
  rw [e2] at this
  omega
/-- What an edit made of a stream: one byte, at a place, is another one. -/
structure Edit (s : List UInt8) (p : Pt) (e : List UInt8) (k : Nat) : Prop where
  len : e.length = s.length
  lt : k < s.length
  same : ∀ i, i ≠ k → e[i]? = s[i]?
  ne : e[k]? ≠ s[k]?
  came : hit p.fr (p.data s) k = fun b => decide ((e[k]?).map UInt8.toNat = some b)
theorem edit_of (s : List UInt8) (p : Pt) (hfr : p.fr < s.length) (hlg : 1 ≤ p.lg ∧ p.lg ≤ 39) (hby : 1 ≤ p.by' ∧ p.by' ≤ 255) :
    p.f s.length = p.fr ∧ 1 ≤ (p.data s).length ∧ p.fr + (p.data s).length ≤ s.length ∧ Edit s p (lay s p.fr (p.data s)) (p.fr + p.wh % (p.data s).length) := by
  have hf : p.f s.length = p.fr := by unfold Pt.f; exact Nat.mod_eq_of_lt (by omega)
  have hl40 : p.lg % 40 = p.lg := Nat.mod_eq_of_lt (by omega)
  have hraw : p.raw s = (s.drop p.fr).take (min s.length (p.fr + p.lg) - p.fr) := by unfold Pt.raw; rw [hf, hl40]
  have hrl : (p.raw s).length = min s.length (p.fr + p.lg) - p.fr := by rw [hraw, List.length_take, List.length_drop]; omega
  have hdl := Pt.data_len p s
  have hd1 : 1 ≤ (p.data s).length := by omega
  have hd2 : p.fr + (p.data s).length ≤ s.length := by omega
  obtain ⟨k, hk⟩ : ∃ k, p.wh % (p.data s).length = k := ⟨_, rfl⟩
  have hkl : k < (p.data s).length := by rw [← hk]; exact Nat.mod_lt _ (by omega)
  have hrg : ∀ i, i < (p.data s).length → (p.raw s)[i]? = s[p.fr + i]? := fun i hi => by
    rw [hraw, List.getElem?_take_of_lt (by omega), List.getElem?_drop]
  have hdat : p.data s = (p.raw s).set k ((p.raw s).getD k 0 + UInt8.ofNat p.by') := by
    have : p.data s = (p.raw s).set (p.wh % (p.raw s).length) ((p.raw s).getD (p.wh % (p.raw s).length) 0 + UInt8.ofNat p.by') := by
      unfold Pt.data; rw [if_neg (by omega)]
    rw [← hdl, hk] at this
    exact this
  have hdk : (p.data s)[k]? = some ((p.raw s).getD k 0 + UInt8.ofNat p.by') := by
    rw [hdat, List.getElem?_set_self (by omega)]
  have hdi : ∀ i, i < (p.data s).length → i ≠ k → (p.data s)[i]? = s[p.fr + i]? := fun i hi hne => by
    rw [hdat, List.getElem?_set_ne (by omega)]; exact hrg i hi
  rw [hk]
  refine ⟨hf, hd1, hd2, ⟨lay_len _ _ _, by omega, fun i hi => ?_, ?_, ?_⟩⟩
  · by_cases h : i < p.fr ∨ p.fr + (p.data s).length ≤ i
    · exact lay_out _ _ _ _ h
    · have := lay_in (p.data s) s p.fr (i - p.fr) hd2 (by omega)
      rw [show p.fr + (i - p.fr) = i by omega] at this
      rw [this, hdi _ (by omega) (by omega), show p.fr + (i - p.fr) = i by omega]
  · rw [lay_in _ _ _ _ hd2 hkl, hdk, ← hrg k hkl, List.getElem?_eq_getElem (by omega)]
    intro e
    have e := Option.some.inj e
    rw [List.getD_eq_getElem?_getD, List.getElem?_eq_getElem (by omega)] at e
    exact add_ne _ _ hby e
  · funext b
    rw [lay_in _ _ _ _ hd2 hkl]
    unfold hit
    rw [decide_eq_true (by omega : (p.fr : Int) ≤ ((p.fr + k : Nat) : Int)), show (((p.fr + k : Nat) : Int) - (p.fr : Int)).toNat = k by omega, Bool.true_and, Bool.eq_iff_iff]
    simp
theorem fits_pre {P : Nat → Nat → Bool} {r t : List UInt8} {fell : Int} (h : pre (r.take (cutF r.length fell)) t = false) : fitsF P r t fell = false := by
  unfold fitsF; rw [h, Bool.and_false]
theorem cutF_in {n fell : Nat} (h : fell ≤ n) : cutF n fell = fell := by unfold cutF; rw [if_neg (by omega)]; rfl
theorem pre_self (s : List UInt8) (n : Nat) : pre (s.take n) s = true := by
  unfold pre
  rw [decide_eq_true (by rw [List.length_take]; omega), Bool.true_and, List.length_take, beq_iff_eq]
  rcases Nat.le_total n s.length with h | h
  · rw [Nat.min_eq_left h]
  · rw [Nat.min_eq_right h, List.take_of_length_le (Nat.le_refl _), List.take_of_length_le h]
theorem pre_of {r t : List UInt8} {n : Nat} (hn : n ≤ t.length) (hr : n ≤ r.length) (h : ∀ i, i < n → r[i]? = t[i]?) : pre (r.take n) t = true := by
  have e : r.take n = t.take n := by
    apply List.ext_getElem?
    intro i
    by_cases hi : i < n
    · rw [List.getElem?_take_of_lt hi, List.getElem?_take_of_lt hi]; exact h i hi
    · rw [List.getElem?_take_eq_none (by omega), List.getElem?_take_eq_none (by omega)]
  rw [e]; exact pre_self t n
theorem pre_ne {r t : List UInt8} {n i : Nat} (hi : i < n) (hr : n ≤ r.length) (h : r[i]? ≠ t[i]?) : pre (r.take n) t = false := by
  unfold pre
  rw [Bool.and_eq_false_iff]
  by_cases hn : (r.take n).length ≤ t.length
  · right
    rw [beq_eq_false_iff_ne]
    intro e
    have : (t.take (r.take n).length)[i]? = (r.take n)[i]? := by rw [e]
    rw [List.length_take, Nat.min_eq_left hr, List.getElem?_take_of_lt hi, List.getElem?_take_of_lt hi] at this
    exact h this.symm
  · left; exact decide_eq_false hn
/-- A stream that came whole fits. -/
theorem fits_self {n : Nat} {C : Nat → Nat → Bool} {s : List UInt8} (hn : s.length ≤ n) (h : ∀ k b, hit 0 s k b = true → C k b = true) (fell : Int) : fitsF (fun off b => row n C off b) s s fell = true := by
  rw [fits_yes, pre_self]
  intro k hk _
  unfold row
  rw [if_pos (by omega)]
  refine h k _ ?_
  unfold hit
  rw [decide_eq_true (by omega), show ((k : Int) - 0).toNat = k by omega, List.getElem?_eq_getElem hk]; simp
theorem edit_no {n : Nat} {s e : List UInt8} {p : Pt} {k fell : Nat} (E : Edit s p e k) (hf : fell ≤ s.length) : fitsF (fun off b => row n (hit 0 s) off b) e s fell = false := by
  by_cases h : fell ≤ k
  · have hk : k < e.length := by rw [E.len]; exact E.lt
    refine fits_no (k := k) hk (by rw [cutF_in (by rw [E.len]; exact hf)]; exact h) ?_
    unfold row
    split
    · unfold hit
      have e1 := E.ne
      rw [List.getElem?_eq_getElem hk, List.getElem?_eq_getElem E.lt] at e1
      rw [decide_eq_true (by omega), show (((k : Int).toNat : Int) - 0).toNat = k by omega, List.getElem?_eq_getElem E.lt, Bool.true_and]
      simp only [Option.map_some]
      rw [beq_eq_false_iff_ne]
      intro h2
      exact e1 (by rw [UInt8.toNat_inj.1 (Option.some.inj h2)])
    · rfl
  · refine fits_pre ?_
    rw [cutF_in (by rw [E.len]; exact hf)]
    exact pre_ne (i := k) (by omega) (by rw [E.len]; exact hf) E.ne
theorem edit_yes {n : Nat} {s e : List UInt8} {p : Pt} {k fell : Nat} {C : Nat → Nat → Bool} (E : Edit s p e k) (hn : s.length ≤ n) (hf : fell ≤ s.length) (hk : fell ≤ k) (hC : ∀ i b, und (hit 0 s) (hit p.fr (p.data s)) i b = true → C i b = true) :
    fitsF (fun off b => row n C off b) e s fell = true := by
  rw [fits_yes]
  · rw [cutF_in (by rw [E.len]; exact hf)]
    exact pre_of hf (by rw [E.len]; exact hf) (fun i hi => E.same i (by omega))
  · intro i hi _
    have hi2 : i < s.length := by rw [← E.len]; exact hi
    unfold row
    rw [if_pos (by omega)]
    refine hC i _ ?_
    unfold und
    by_cases h : i = k
    · subst h
      rw [E.came, List.getElem?_eq_getElem hi]; simp
    · have := E.same i h
      rw [List.getElem?_eq_getElem hi, List.getElem?_eq_getElem hi2] at this
      unfold hit
      rw [decide_eq_true (by omega : (0 : Int) ≤ i), show ((i : Int) - 0).toNat = i by omega, List.getElem?_eq_getElem hi2, ← this]; simp
theorem edit_after {n : Nat} {s e : List UInt8} {p : Pt} {k fell : Nat} {C : Nat → Nat → Bool} (E : Edit s p e k) (hf : fell ≤ s.length) (hk : ¬ fell ≤ k) : fitsF (fun off b => row n C off b) e s fell = false := by
  refine fits_pre ?_
  rw [cutF_in (by rw [E.len]; exact hf)]
  exact pre_ne (i := k) (by omega) (by rw [E.len]; exact hf) E.ne
end Go.Proofs.Ytmjajepdlopkiaa.Sh
