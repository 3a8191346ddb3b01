/- Tables of mappings: plain facts. -/
import Derived.Lib.Hide
namespace Go.Proofs.Ytdaodpojcjbggaa.Rm
/-- A mapping. -/
structure M where
  at' : Int
  off : Int
  len : Int
  sum : Int
deriving DecidableEq
def Srt (l : List M) : Prop := l.Pairwise (fun x y => x.at' < y.at')
def pos (l : List M) (a : Int) : Nat := l.countP (fun x => decide (x.at' < a))
def has (l : List M) (a : Int) : Bool := l.any (fun x => decide (x.at' = a))
def get (l : List M) (a : Int) : M := (l.find? (fun x => decide (x.at' = a))).getD ⟨0, 0, 0, 0⟩
def ins (l : List M) (m : M) : List M := l.take (pos l m.at') ++ m :: l.drop (pos l m.at')
theorem pos_le (l : List M) (a : Int) : pos l a ≤ l.length := List.countP_le_length
theorem pos_lt {l : List M} (hs : Srt l) (a : Int) (i : Nat) (h : i < l.length) : l[i].at' < a ↔ i < pos l a := by
  induction l generalizing i with
  | nil => simp at h
  | cons x l ih =>
    have hs' := List.pairwise_cons.1 hs
    have zero : ¬ x.at' < a → pos l a = 0 := by
      intro hx
      unfold pos
      rw [List.countP_eq_zero]
      intro y hy
      have := hs'.1 y hy
      simp; omega
    have hp : pos (x :: l) a = pos l a + if x.at' < a then 1 else 0 := by
      unfold pos
      rw [List.countP_cons]
      by_cases h : x.at' < a <;> simp [h]
    rw [hp]
    cases i with
    | zero =>
      simp only [List.getElem_cons_zero]
      by_cases hx : x.at' < a
      · simp [hx]
      · simp [hx, zero hx]
    | succ i =>
      simp only [List.getElem_cons_succ]
      rw [ih hs'.2 i (by simpa using h)]
      by_cases hx : x.at' < a
      · simp [hx]
      · simp [hx, zero hx]
theorem at_ge {l : List M} (hs : Srt l) (a : Int) (i : Nat) (h : i < l.length) (hp : pos l a ≤ i) : a ≤ l[i].at' := by
  have := pos_lt hs a i h
  omega
theorem has_iff {l : List M} (hs : Srt l) (a : Int) : has l a = true ↔ ∃ h : pos l a < l.length, l[pos l a].at' = a := by
  unfold has
  rw [List.any_eq_true]
  constructor
  · rintro ⟨x, hx, e⟩
    have e : x.at' = a := by simpa using e
    obtain ⟨i, hi, rfl⟩ := List.getElem_of_mem hx
    have h1 := pos_lt hs a i hi
    have h2 : pos l a ≤ i := by omega
    have h3 : pos l a < l.length := by omega
    refine ⟨h3, ?_⟩
    by_cases he : pos l a = i
    · subst he; exact e
    · have := (List.pairwise_iff_getElem.1 hs) (pos l a) i h3 hi (by omega)
      have := at_ge hs a (pos l a) h3 (Nat.le_refl _)
      omega
  · rintro ⟨h, e⟩
    exact ⟨_, List.getElem_mem h, by simpa using e⟩
theorem get_of {l : List M} (hs : Srt l) {i : Nat} (h : i < l.length) : get l l[i].at' = l[i] := by
  unfold get
  have : l.find? (fun x => decide (x.at' = l[i].at')) = some l[i] := by
    rw [List.find?_eq_some_iff_getElem]
    refine ⟨by simp, i, h, rfl, fun j hj => ?_⟩
    have := (List.pairwise_iff_getElem.1 hs) j i (by omega) h hj
    simp; omega
  rw [this]; rfl
theorem get_none {l : List M} {a : Int} (h : has l a = false) : get l a = ⟨0, 0, 0, 0⟩ := by
  unfold get
  have : l.find? (fun x => decide (x.at' = a)) = none := by
    rw [List.find?_eq_none]
    intro x hx e
    unfold has at h
    rw [List.any_eq_false] at h
    exact h x hx e
  rw [this]; rfl
theorem srt_ins {l : List M} (hs : Srt l) (m : M) (h : has l m.at' = false) : Srt (ins l m) := by
  unfold ins Srt
  rw [List.pairwise_append]
  have hp := pos_le l m.at'
  refine ⟨hs.sublist (List.take_sublist _ _), List.pairwise_cons.2 ⟨fun y hy => ?_, hs.sublist (List.drop_sublist _ _)⟩, fun x hx y hy => ?_⟩
  · obtain ⟨i, hi, rfl⟩ := List.getElem_of_mem hy
    rw [List.getElem_drop]
    have h1 : pos l m.at' + i < l.length := by simp at hi; omega
    have := at_ge hs m.at' _ h1 (by omega)
    have : l[pos l m.at' + i].at' ≠ m.at' := fun e => by
      unfold has at h
      rw [List.any_eq_false] at h
      exact h _ (List.getElem_mem h1) (by simpa using e)
    omega
  · obtain ⟨i, hi, rfl⟩ := List.getElem_of_mem hx
    have hi' : i < pos l m.at' := by simp at hi; omega
    rw [List.getElem_take]
    have h1 := (pos_lt hs m.at' i (by omega)).2 hi'
    rcases List.mem_cons.1 hy with rfl | hy
    · exact h1
    · obtain ⟨j, hj, rfl⟩ := List.getElem_of_mem hy
      rw [List.getElem_drop]
      have h2 : pos l m.at' + j < l.length := by simp at hj; omega
      have := at_ge hs m.at' _ h2 (by omega)
      omega
theorem mem_ins (l : List M) (m x : M) : x ∈ ins l m ↔ x = m ∨ x ∈ l := by
  unfold ins
  rw [List.mem_append, List.mem_cons]
  constructor
  · rintro (h | h | h)
    · exact .inr (List.mem_of_mem_take h)
    · exact .inl h
    · exact .inr (List.mem_of_mem_drop h)
  · rintro (h | h)
    · exact .inr (.inl h)
    · have : x ∈ l.take (pos l m.at') ++ l.drop (pos l m.at') := by rw [List.take_append_drop]; exact h
      rcases List.mem_append.1 this with h | h
      · exact .inl h
      · exact .inr (.inr h)
theorem length_ins (l : List M) (m : M) : (ins l m).length = l.length + 1 := by
  unfold ins
  have := pos_le l m.at'
  simp; omega
theorem has_mem (l : List M) (a : Int) : has l a = true ↔ ∃ x ∈ l, x.at' = a := by
  unfold has; rw [List.any_eq_true]; simp
/-- Sorted rows with the same things are the same. -/
theorem srt_ext {l k : List M} (hl : Srt l) (hk : Srt k) (h : ∀ x, x ∈ l ↔ x ∈ k) : l = k := by
  induction l generalizing k with
  | nil =>
    cases k with
    | nil => rfl
    | cons y k => exact absurd ((h y).2 List.mem_cons_self) (by simp)
  | cons x l ih =>
    cases k with
    | nil => exact absurd ((h x).1 List.mem_cons_self) (by simp)
    | cons y k =>
      have hl' := List.pairwise_cons.1 hl
      have hk' := List.pairwise_cons.1 hk
      have exy : x = y := by
        rcases List.mem_cons.1 ((h x).1 List.mem_cons_self) with e | e
        · exact e
        · rcases List.mem_cons.1 ((h y).2 List.mem_cons_self) with e2 | e2
          · exact e2.symm
          · have := hk'.1 x e; have := hl'.1 y e2; omega
      subst exy
      congr 1
      refine ih hl'.2 hk'.2 (fun z => ⟨fun hz => ?_, fun hz => ?_⟩)
      · rcases List.mem_cons.1 ((h z).1 (List.mem_cons_of_mem _ hz)) with e | e
        · subst e; have := hl'.1 z hz; omega
        · exact e
      · rcases List.mem_cons.1 ((h z).2 (List.mem_cons_of_mem _ hz)) with e | e
        · subst e; have := hk'.1 z hz; omega
        · exact e
/-- How many fit. -/
theorem srt_len {l : List M} (hs : Srt l) (b : Int) (r : Nat) (h : ∀ x ∈ l, b ≤ x.at' ∧ x.at' < b + r) : l.length ≤ r := by
  induction l generalizing b r with
  | nil => simp
  | cons x l ih =>
    have hs' := List.pairwise_cons.1 hs
    have hx := h x List.mem_cons_self
    have := ih hs'.2 (b + 1) (r - 1) (fun y hy => by
      have h1 := hs'.1 y hy
      have h2 := h y (List.mem_cons_of_mem _ hy)
      omega)
    simp; omega
theorem drop_pos {l : List M} (hs : Srt l) (b : Int) : l.drop (pos l b) = l.filter (fun x => decide (b ≤ x.at')) := by
  induction l with
  | nil => rfl
  | cons x l ih =>
    have hs' := List.pairwise_cons.1 hs
    by_cases hx : x.at' < b
    · have hp : pos (x :: l) b = pos l b + 1 := by unfold pos; rw [List.countP_cons]; simp [hx]
      rw [hp, List.drop_succ_cons, ih hs'.2, List.filter_cons_of_neg]
      simp; omega
    · have hp : pos (x :: l) b = 0 := by
        unfold pos
        rw [List.countP_eq_zero]
        intro y hy
        rcases List.mem_cons.1 hy with rfl | hy
        · simpa using hx
        · have := hs'.1 y hy; simp; omega
      rw [hp, List.drop_zero, List.filter_eq_self.2]
      intro y hy
      rcases List.mem_cons.1 hy with rfl | hy
      · simp; omega
      · have := hs'.1 y hy; simp; omega
def may (room begin : Int) (m : M) : Prop := 1 ≤ m.len ∧ m.len ≤ room ∧ 0 ≤ m.off ∧ begin ≤ m.at' ∧ m.at' < begin + room
instance (r b : Int) (m : M) : Decidable (may r b m) := by unfold may; infer_instance
def putB (room begin : Int) (l : List M) (m : M) : Bool := decide (may room begin m) && !has l m.at'
def putL (room begin : Int) (l : List M) (m : M) : List M := if putB room begin l m then ins l m else l
/-- What a table keeps. -/
structure Ok (room begin : Int) (l : List M) : Prop where
  r : 1 ≤ room ∧ room ≤ 2048
  b : 0 ≤ begin ∧ begin ≤ 2305843009213693952
  srt : Srt l
  within : ∀ x ∈ l, begin ≤ x.at' ∧ x.at' < begin + room
  wf : ∀ x ∈ l, (1 ≤ x.len ∧ x.len ≤ room) ∧ (0 ≤ x.off ∧ x.off < 9223372036854775808) ∧ (0 ≤ x.sum ∧ x.sum < 65536)
theorem Ok.len {r b : Int} {l : List M} (h : Ok r b l) : l.length ≤ 2048 := by
  have h1 := srt_len h.srt b r.toNat (fun x hx => by have := h.within x hx; have := h.r; omega)
  have := h.r
  omega
theorem Ok.put {r b : Int} {l : List M} (h : Ok r b l) (m : M) (ho : m.off < 9223372036854775808) (hs : 0 ≤ m.sum ∧ m.sum < 65536) : Ok r b (putL r b l m) := by
  unfold putL
  split
  · rename_i hp
    unfold putB at hp
    simp at hp
    obtain ⟨⟨h1, h2, h3, h4, h5⟩, h6⟩ := hp
    refine ⟨h.r, h.b, srt_ins h.srt m h6, fun x hx => ?_, fun x hx => ?_⟩
    · rcases (mem_ins l m x).1 hx with rfl | hx
      · exact ⟨h4, h5⟩
      · exact h.within x hx
    · rcases (mem_ins l m x).1 hx with rfl | hx
      · exact ⟨⟨h1, h2⟩, ⟨h3, ho⟩, hs⟩
      · exact h.wf x hx
  · exact h
def cutB (begin n : Int) : Int := max begin (min n 2305843009213693952)
theorem Ok.cut {r b : Int} {l : List M} (h : Ok r b l) (n : Int) : Ok r (cutB b n) (l.drop (pos l (cutB b n))) := by
  have h1 := h.b
  have hb : b ≤ cutB b n ∧ cutB b n ≤ 2305843009213693952 := by unfold cutB; omega
  refine ⟨h.r, by omega, h.srt.sublist (List.drop_sublist _ _), fun x hx => ?_, fun x hx => h.wf x (List.mem_of_mem_drop hx)⟩
  rw [drop_pos h.srt] at hx
  have h2 := List.mem_filter.1 hx
  have h3 := h.within x h2.1
  have : cutB b n ≤ x.at' := by simpa using h2.2
  omega
end Go.Proofs.Ytdaodpojcjbggaa.Rm
