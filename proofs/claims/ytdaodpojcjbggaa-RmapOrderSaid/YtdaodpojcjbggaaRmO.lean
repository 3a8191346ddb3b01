/- What is first, as plain facts. -/
import Derived.Test.YtdaodpojcjbggaaRmN
namespace Go.Proofs.Ytdaodpojcjbggaa.Rm
open Go.RowKit Go.Proofs.Ytdaodpojcjbggaa.Ln
set_option linter.unusedVariables false
set_option linter.unusedSimpArgs false

theorem get_mem {l : List M} (hs : Srt l) {x : M} (h : x ∈ l) : get l x.at' = x := by
  obtain ⟨i, hi, rfl⟩ := List.getElem_of_mem h
  exact get_of hs hi
theorem draft_at (d : Nat → Int × Int) (i : Nat) : 0 ≤ (draft d i).at' ∧ (draft d i).at' < 30 := by unfold draft; simp; omega
theorem draft_may (d : Nat → Int × Int) (i : Nat) : may 30 0 (draft d i) := by unfold may draft; simp; omega
theorem draft_b (d : Nat → Int × Int) (l : List M) (i : Nat) : putB 30 0 l (draft d i) = !has l (draft d i).at' := by
  unfold putB; simp [draft_may d i]
theorem ok_fill (d : Nat → Int × Int) : ∀ k, k ≤ 1000 → Ok 30 0 (fill d k)
  | 0, _ => ⟨by omega, by omega, List.Pairwise.nil, by simp [fill], by simp [fill]⟩
  | k + 1, h => (ok_fill d k (by omega)).put (draft d k) (by unfold draft; simp; omega) (by unfold draft; simp)
/-- Which draft of that At came first, by one more. -/
def fs (d : Nat → Int × Int) : Nat → Nat → Nat
  | 0, _ => 0
  | k + 1, a => if (draft d k).at' = a ∧ fs d k a = 0 then k + 1 else fs d k a
theorem fs_inv (d : Nat → Int × Int) : ∀ k, k ≤ 1000 → ∀ a : Nat, (has (fill d k) a = decide (fs d k a ≠ 0)) ∧ (fs d k a ≠ 0 → fs d k a ≤ k ∧ get (fill d k) a = draft d (fs d k a - 1)) := by
  intro k
  induction k with
  | zero => intro _ a; simp [fill, fs, has]
  | succ k ih =>
    intro hk a
    obtain ⟨i1, i2⟩ := ih (by omega) a
    have hok := ok_fill d k (by omega)
    have hok2 := ok_fill d (k + 1) hk
    by_cases hh : has (fill d k) (draft d k).at' = true
    · have e : fill d (k + 1) = fill d k := by show putL 30 0 (fill d k) (draft d k) = _; unfold putL; rw [draft_b, hh]; rfl
      have e2 : fs d (k + 1) a = fs d k a := by
        show (if _ then _ else _) = _
        rw [if_neg]
        rintro ⟨h1, h2⟩
        rw [h1] at hh
        rw [i1] at hh
        simp [h2] at hh
      rw [e, e2]
      exact ⟨i1, fun h => ⟨by have := (i2 h).1; omega, (i2 h).2⟩⟩
    · have hf : has (fill d k) (draft d k).at' = false := by simpa using hh
      have e : fill d (k + 1) = ins (fill d k) (draft d k) := by show putL 30 0 (fill d k) (draft d k) = _; unfold putL; rw [draft_b, hf]; rfl
      have hmem : ∀ x, x ∈ fill d (k + 1) ↔ x = draft d k ∨ x ∈ fill d k := by rw [e]; exact mem_ins _ _
      by_cases ha : (draft d k).at' = a
      · have h0 : fs d k a = 0 := by
          rw [ha] at hf; rw [i1] at hf; simpa using hf
        have e2 : fs d (k + 1) a = k + 1 := by show (if _ then _ else _) = _; rw [if_pos ⟨ha, h0⟩]
        rw [e2]
        refine ⟨?_, fun _ => ⟨Nat.le_refl _, ?_⟩⟩
        · have : has (fill d (k + 1)) a = true := (has_mem _ _).2 ⟨draft d k, (hmem _).2 (.inl rfl), ha⟩
          rw [this]; simp
        · have := get_mem hok2.srt ((hmem _).2 (.inl rfl))
          rw [ha] at this
          simpa using this
      · have e2 : fs d (k + 1) a = fs d k a := by show (if _ then _ else _) = _; rw [if_neg (fun h => ha h.1)]
        rw [e2]
        have hsame : has (fill d (k + 1)) a = has (fill d k) a := by
          rw [Bool.eq_iff_iff, has_mem, has_mem]
          constructor
          · rintro ⟨x, hx, e⟩
            rcases (hmem x).1 hx with rfl | hx
            · exact absurd e ha
            · exact ⟨x, hx, e⟩
          · rintro ⟨x, hx, e⟩
            exact ⟨x, (hmem x).2 (.inr hx), e⟩
        refine ⟨hsame.trans i1, fun h => ⟨by have := (i2 h).1; omega, ?_⟩⟩
        have hha : has (fill d k) a = true := by rw [i1]; simpa using h
        obtain ⟨x, hx, ex⟩ := (has_mem _ _).1 hha
        have g1 := get_mem hok.srt hx
        have g2 := get_mem hok2.srt ((hmem x).2 (.inr hx))
        rw [ex] at g1 g2
        rw [g2, ← g1]
        exact (i2 h).2
theorem fill_len (d : Nat → Int × Int) (k : Nat) (hk : k ≤ 1000) : (fill d k).length ≤ 30 :=
  srt_len (ok_fill d k hk).srt 0 30 (fun x hx => by have := (ok_fill d k hk).within x hx; omega)
theorem pos_next {l : List M} (hs : Srt l) (a : Int) : pos l (a + 1) = pos l a + if has l a then 1 else 0 := by
  have p1 := pos_le l a
  have p2 := pos_le l (a + 1)
  by_cases hh : has l a = true
  · rw [if_pos hh]
    obtain ⟨h, e⟩ := (has_iff hs a).1 hh
    have h1 := (pos_lt hs (a + 1) (pos l a) h).1 (by omega)
    by_cases h2 : pos l a + 1 < pos l (a + 1)
    · have h3 := (pos_lt hs (a + 1) (pos l a + 1) (by omega)).2 h2
      have h4 := (List.pairwise_iff_getElem.1 hs) (pos l a) (pos l a + 1) h (by omega) (by omega)
      omega
    · omega
  · rw [if_neg hh]
    by_cases h1 : pos l a < pos l (a + 1)
    · have h2 := (pos_lt hs (a + 1) (pos l a) (by omega)).2 h1
      have h3 := at_ge hs a (pos l a) (by omega) (Nat.le_refl _)
      exact absurd ((has_iff hs a).2 ⟨by omega, by omega⟩) hh
    · by_cases h2 : pos l (a + 1) < pos l a
      · have h3 := (pos_lt hs a (pos l (a + 1)) (by omega)).2 h2
        have h4 := at_ge hs (a + 1) (pos l (a + 1)) (by omega) (Nat.le_refl _)
        omega
      · omega
theorem put_v {w0 w H X r b l} (h : TS w0 w H X r b l) (m : M) (hw : Wf m) (v : Bool) (l' : List M) (hv : putB r b l m = v) (hl : putL r b l m = l') :
    Calls Try.prog 31 #[.pointer (some ⟨X, 0, none⟩), agg m] w (TabP w0 w H X r b l' (.returned (.bool v))) := by
  subst hv hl; exact put_ h m hw
/-- The array of what came first. -/
def FA (w : World) (F : Nat) (f : Nat → Nat) : Prop := ∀ a, a < 30 → w.cell? ⟨F, a, none⟩ = some (.int .i64 (f a)) ∧ w.frozen? ⟨F, a, none⟩ = false
theorem FA.blk {w w' : World} {F : Nat} {f : Nat → Nat} (h : FA w F f) (hb : w'.heap[F]? = w.heap[F]?) : FA w' F f :=
  fun a ha => ⟨cell_blk (p := ⟨F, a, none⟩) hb (h a ha).1, (World.frozen?_of_block (a := ⟨F, a, none⟩) hb).trans (h a ha).2⟩
theorem FA.lt {w : World} {F : Nat} {f : Nat → Nat} (h : FA w F f) : F < w.heap.size := World.block_lt_of_cell? _ _ (h 0 (by omega)).1
theorem FA.set {w : World} {F : Nat} {f g : Nat → Nat} (h : FA w F f) (a : Nat) (ha : a < 30) (v : Nat) (hg : ∀ b, b < 30 → g b = if b = a then v else f b) : FA (w.setCell ⟨F, a, none⟩ (.int .i64 v)) F g := by
  intro b hb
  refine ⟨?_, by rw [World.frozen?_setCell]; exact (h b hb).2⟩
  rw [hg b hb]
  by_cases e : b = a
  · subst e; rw [if_pos rfl]; exact setCell_cell_same _ (h b hb).1
  · rw [if_neg e]
    exact (World.cell?_setCell_other w ⟨F, a, none⟩ ⟨F, b, none⟩ _ (by first | (simp; done) | (simp; omega))).trans (h b hb).1
end Go.Proofs.Ytdaodpojcjbggaa.Rm
