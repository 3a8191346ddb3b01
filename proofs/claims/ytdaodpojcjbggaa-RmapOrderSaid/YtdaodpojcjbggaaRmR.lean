/- In which order mappings come: plain facts. -/
import Derived.Test.YtdaodpojcjbggaaRmQ
namespace Go.Proofs.Ytdaodpojcjbggaa.Rm
open Go.RowKit Go.Proofs.Ytdaodpojcjbggaa.Ln
set_option linter.unusedVariables false
set_option linter.unusedSimpArgs false

/-- The drafts whose At came first. -/
def frow (d : Nat → Int × Int) : Nat → List M
  | 0 => []
  | k + 1 => if (fs d k (draft d k).at'.toNat) = 0 then frow d k ++ [draft d k] else frow d k
theorem frow_len (d : Nat → Int × Int) : ∀ k, (frow d k).length ≤ k
  | 0 => Nat.le_refl _
  | k + 1 => by
    show (if _ then _ else _ : List M).length ≤ _
    have := frow_len d k
    split
    · simp; omega
    · omega
theorem frow_mem {d : Nat → Int × Int} : ∀ {k : Nat} {x : M}, x ∈ frow d k → ∃ i, i < k ∧ x = draft d i
  | 0, x, h => by cases h
  | k + 1, x, h => by
    have h : x ∈ (if (fs d k (draft d k).at'.toNat) = 0 then frow d k ++ [draft d k] else frow d k) := h
    split at h
    · rcases List.mem_append.1 h with h | h
      · obtain ⟨i, hi, e⟩ := frow_mem h; exact ⟨i, by omega, e⟩
      · simp at h; exact ⟨k, by omega, h⟩
    · obtain ⟨i, hi, e⟩ := frow_mem h; exact ⟨i, by omega, e⟩
theorem fs_seen (d : Nat → Int × Int) : ∀ (k i : Nat), i < k → fs d k (draft d i).at'.toNat ≠ 0
  | 0, i, h => by omega
  | k + 1, i, h => by
    show (if (draft d k).at' = ((draft d i).at'.toNat : Nat) ∧ fs d k (draft d i).at'.toNat = 0 then k + 1 else fs d k (draft d i).at'.toNat) ≠ 0
    have h1 := draft_at d i
    by_cases e : i = k
    · subst e
      split
      · omega
      · rename_i hn; intro h0; exact hn ⟨by omega, h0⟩
    · have := fs_seen d k i (by omega)
      split
      · omega
      · exact this
theorem frow_nodup (d : Nat → Int × Int) : ∀ k, (frow d k).Pairwise (fun x y => x.at' ≠ y.at')
  | 0 => List.Pairwise.nil
  | k + 1 => by
    show (if _ then _ else _ : List M).Pairwise _
    have h := frow_nodup d k
    split
    · rename_i h0
      rw [List.pairwise_append]
      refine ⟨h, by simp, fun x hx y hy => ?_⟩
      simp at hy; subst hy
      obtain ⟨i, hi, rfl⟩ := frow_mem hx
      intro e
      have := fs_seen d k i hi
      rw [e] at this
      exact this h0
    · exact h
/-- A table that begins at B, behind k puts. -/
def put30 (B : Int) (g : Nat → M) : Nat → List M
  | 0 => []
  | k + 1 => putL 30 B (put30 B g k) (g k)
/-- What is put: mappings of unlike At. -/
structure Gd (g : Nat → M) (n : Nat) : Prop where
  one : ∀ i, i < n → ∃ d i', i' ≤ 1000 ∧ g i = draft d i'
  ne : ∀ i j, i < n → j < n → i ≠ j → (g i).at' ≠ (g j).at'
theorem gd_may {g : Nat → M} {n i : Nat} {B : Int} (h : Gd g n) (hi : i < n) (hB : 0 ≤ B) : may 30 B (g i) ↔ B ≤ (g i).at' := by
  obtain ⟨d, i', _, e⟩ := h.one i hi
  rw [e]
  have h1 := draft_may d i'
  have h2 := draft_at d i'
  unfold may at *
  omega
theorem put30_mem {g : Nat → M} {n : Nat} {B : Int} (h : Gd g n) (hB : 0 ≤ B) : ∀ k, k ≤ n → ∀ x, x ∈ put30 B g k ↔ ∃ j, j < k ∧ x = g j ∧ B ≤ (g j).at'
  | 0, _, x => by simp [put30]
  | k + 1, hk, x => by
    have ih := put30_mem h hB k (by omega)
    have hh : has (put30 B g k) (g k).at' = false := by
      cases e : has (put30 B g k) (g k).at' with
      | false => rfl
      | true =>
        obtain ⟨y, hy, ey⟩ := (has_mem _ _).1 e
        obtain ⟨j, hj, rfl, _⟩ := (ih y).1 hy
        exact absurd ey (h.ne j k (by omega) (by omega) (by omega))
    have hb : putB 30 B (put30 B g k) (g k) = decide (B ≤ (g k).at') := by
      unfold putB; rw [hh]
      have := gd_may h (i := k) (by omega) hB
      by_cases e : B ≤ (g k).at' <;> simp [e, this]
    show x ∈ putL 30 B (put30 B g k) (g k) ↔ _
    unfold putL
    rw [hb]
    by_cases e : B ≤ (g k).at'
    · simp only [e, decide_true, if_true]
      rw [mem_ins, ih]
      constructor
      · rintro (rfl | ⟨j, hj, h1, h2⟩)
        · exact ⟨k, by omega, rfl, e⟩
        · exact ⟨j, by omega, h1, h2⟩
      · rintro ⟨j, hj, h1, h2⟩
        by_cases ej : j = k
        · subst ej; exact .inl h1
        · exact .inr ⟨j, by omega, h1, h2⟩
    · simp only [e, decide_false]
      rw [if_neg (by simp), ih]
      constructor
      · rintro ⟨j, hj, h1, h2⟩; exact ⟨j, by omega, h1, h2⟩
      · rintro ⟨j, hj, h1, h2⟩
        by_cases ej : j = k
        · subst ej; exact absurd h2 e
        · exact ⟨j, by omega, h1, h2⟩
theorem put30_b {g : Nat → M} {n : Nat} {B : Int} (h : Gd g n) (hB : 0 ≤ B) {k : Nat} (hk : k < n) : putB 30 B (put30 B g k) (g k) = decide (B ≤ (g k).at') := by
  have hh : has (put30 B g k) (g k).at' = false := by
    cases e : has (put30 B g k) (g k).at' with
    | false => rfl
    | true =>
      obtain ⟨y, hy, ey⟩ := (has_mem _ _).1 e
      obtain ⟨j, hj, rfl, _⟩ := (put30_mem h hB k (by omega) y).1 hy
      exact absurd ey (h.ne j k (by omega) (by omega) (by omega))
  unfold putB; rw [hh]
  have := gd_may h (i := k) (by omega) hB
  by_cases e : B ≤ (g k).at' <;> simp [e, this]
theorem put30_ok {g : Nat → M} {n : Nat} {B : Int} (h : Gd g n) (hB : 0 ≤ B ∧ B ≤ 1000) : ∀ k, k ≤ n → Ok 30 B (put30 B g k)
  | 0, _ => ⟨by omega, by omega, List.Pairwise.nil, by simp [put30], by simp [put30]⟩
  | k + 1, hk => by
    obtain ⟨d, i', hi, e⟩ := h.one k (by omega)
    refine (put30_ok h hB k (by omega)).put (g k) ?_ ?_
    · rw [e]; unfold draft; simp; omega
    · rw [e]; unfold draft; simp
theorem cut_filter {L : List M} (hs : Srt L) {B B' : Int} (h : B ≤ B') : (L.filter (fun x => decide (B ≤ x.at'))).drop (pos (L.filter (fun x => decide (B ≤ x.at'))) B') = L.filter (fun x => decide (B' ≤ x.at')) := by
  have hs2 : Srt (L.filter (fun x => decide (B ≤ x.at'))) := hs.sublist List.filter_sublist
  rw [drop_pos hs2, List.filter_filter]
  apply List.filter_congr
  intro x _
  by_cases e : B' ≤ x.at'
  · have : B ≤ x.at' := by omega
    simp [e, this]
  · simp [e]
/-- Turned round by p. -/
def rot (r : List M) (p i : Nat) : M := r.getD ((i + p) % r.length) ⟨0, 0, 0, 0⟩
theorem rot_zero {r : List M} {i : Nat} (h : i < r.length) : rot r 0 i = r[i] := by
  unfold rot; rw [Nat.add_zero, Nat.mod_eq_of_lt h, List.getD_eq_getElem?_getD, List.getElem?_eq_getElem h]; rfl
theorem rot_get {r : List M} {p i : Nat} (h : (i + p) % r.length < r.length) : rot r p i = r[(i + p) % r.length] := by
  unfold rot; rw [List.getD_eq_getElem?_getD, List.getElem?_eq_getElem h]; rfl
theorem mod_inj {n p i j : Nat} (hi : i < n) (hj : j < n) (h : (i + p) % n = (j + p) % n) : i = j := by
  have e1 := Nat.div_add_mod (i + p) n
  have e2 := Nat.div_add_mod (j + p) n
  rw [h] at e1
  rcases Nat.lt_trichotomy ((i + p) / n) ((j + p) / n) with hd | hd | hd
  · have : n * ((i + p) / n) + n ≤ n * ((j + p) / n) := by rw [← Nat.mul_succ]; exact Nat.mul_le_mul_left _ hd
    omega
  · rw [hd] at e1; omega
  · have : n * ((j + p) / n) + n ≤ n * ((i + p) / n) := by rw [← Nat.mul_succ]; exact Nat.mul_le_mul_left _ hd
    omega
theorem rot_gd {d : Nat → Int × Int} {q p : Nat} (hq : q ≤ 40) : Gd (rot (frow d q) p) (frow d q).length := by
  have hlt : ∀ i, i < (frow d q).length → (i + p) % (frow d q).length < (frow d q).length := fun i hi => Nat.mod_lt _ (by omega)
  refine ⟨fun i hi => ?_, fun i j hi hj hne => ?_⟩
  · rw [rot_get (hlt i hi)]
    obtain ⟨t, ht, e⟩ := frow_mem (List.getElem_mem (hlt i hi))
    exact ⟨d, t, by omega, e⟩
  · rw [rot_get (hlt i hi), rot_get (hlt j hj)]
    have hne2 : (i + p) % (frow d q).length ≠ (j + p) % (frow d q).length := fun e => hne (mod_inj hi hj e)
    have hp := List.pairwise_iff_getElem.1 (frow_nodup d q)
    rcases Nat.lt_or_gt_of_ne hne2 with h | h
    · exact hp _ _ (hlt i hi) (hlt j hj) h
    · exact fun e => hp _ _ (hlt j hj) (hlt i hi) h e.symm
theorem rot_same {d : Nat → Int × Int} {q : Nat} (p : Nat) (hq : q ≤ 40) : put30 0 (rot (frow d q) p) (frow d q).length = put30 0 (rot (frow d q) 0) (frow d q).length := by
  have g1 := rot_gd (d := d) (p := p) hq
  have g0 := rot_gd (d := d) (p := 0) hq
  refine srt_ext (put30_ok g1 (by omega) _ (Nat.le_refl _)).srt (put30_ok g0 (by omega) _ (Nat.le_refl _)).srt (fun x => ?_)
  rw [put30_mem g1 (by omega) _ (Nat.le_refl _), put30_mem g0 (by omega) _ (Nat.le_refl _)]
  generalize hn : (frow d q).length = n at *
  constructor
  · rintro ⟨j, hj, rfl, h⟩
    have hlt : (j + p) % (frow d q).length < (frow d q).length := Nat.mod_lt _ (by omega)
    have e : rot (frow d q) 0 ((j + p) % n) = rot (frow d q) p j := by rw [← hn, rot_zero hlt, rot_get hlt]
    exact ⟨(j + p) % n, by rw [← hn]; exact hlt, e.symm, by rw [e]; exact h⟩
  · rintro ⟨j, hj, rfl, h⟩
    have hlt : (j + (n - p % n) + p) % n = j := by
      have h1 := Nat.div_add_mod p n
      have h2 := Nat.mod_lt p (show n > 0 by omega)
      rw [show j + (n - p % n) + p = j + n * (p / n + 1) by rw [Nat.mul_add]; omega, Nat.add_mul_mod_self_left, Nat.mod_eq_of_lt hj]
    have e1 : ((j + (n - p % n)) % n + p) % n = j := by rw [Nat.mod_add_mod]; exact hlt
    have e : rot (frow d q) p ((j + (n - p % n)) % n) = rot (frow d q) 0 j := by
      have h3 : ((j + (n - p % n)) % n + p) % (frow d q).length < (frow d q).length := by rw [hn, e1]; exact hj
      rw [rot_get h3, rot_zero (by rw [hn]; exact hj)]
      congr 1
      rw [hn]; exact e1
    exact ⟨(j + (n - p % n)) % n, Nat.mod_lt _ (by omega), e.symm, by rw [e]; exact h⟩
theorem fresh_same {d : Nat → Int × Int} {q : Nat} (hq : q ≤ 40) {B : Int} (hB : 0 ≤ B ∧ B ≤ 1000) :
    put30 B (rot (frow d q) 0) (frow d q).length = (put30 0 (rot (frow d q) 0) (frow d q).length).filter (fun x => decide (B ≤ x.at')) := by
  have g0 := rot_gd (d := d) (p := 0) hq
  have hs := (put30_ok g0 (B := 0) (by omega) _ (Nat.le_refl _)).srt
  refine srt_ext (put30_ok g0 hB _ (Nat.le_refl _)).srt (hs.sublist List.filter_sublist) (fun x => ?_)
  rw [List.mem_filter, put30_mem g0 hB.1 _ (Nat.le_refl _), put30_mem g0 (by omega) _ (Nat.le_refl _)]
  constructor
  · rintro ⟨j, hj, rfl, h⟩
    exact ⟨⟨j, hj, rfl, by omega⟩, by simpa using h⟩
  · rintro ⟨⟨j, hj, rfl, _⟩, h⟩
    exact ⟨j, hj, rfl, by simpa using h⟩
end Go.Proofs.Ytdaodpojcjbggaa.Rm
