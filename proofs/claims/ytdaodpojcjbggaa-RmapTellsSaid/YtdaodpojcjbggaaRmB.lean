/- Tables in memory; find. -/
import Derived.Test.YtdaodpojcjbggaaRmA
import Derived.Deep.RegionWith
import Derived.Deep.QuietTactic
import Derived.BigQuiet
import Derived.Shelf.Abstract
namespace Go.Proofs.Ytdaodpojcjbggaa.Rm
open Go.RowKit Go.Proofs.Ytdaodpojcjbggaa.Ln
set_option linter.unusedVariables false
set_option linter.unusedSimpArgs false

abbrev agg (m : M) : Value := .agg #[.int .i64 m.at', .int .i64 m.off, .int .i64 m.len, .int .u16 m.sum]
def cells (m : M) : List Value := [.int .i64 m.at', .int .i64 m.off, .int .i64 m.len, .int .u16 m.sum]
/-- A mapping at a place. -/
def MapAt (w : World) (g o : Nat) (m : M) : Prop :=
  w.cell? ⟨g, o, none⟩ = some (.int .i64 m.at') ∧ w.cell? ⟨g, o + 1, none⟩ = some (.int .i64 m.off) ∧ w.cell? ⟨g, o + 2, none⟩ = some (.int .i64 m.len) ∧ w.cell? ⟨g, o + 3, none⟩ = some (.int .u16 m.sum)
/-- Mappings that lie in memory. -/
def Maps (w : World) (A : Option Addr) (n C : Nat) (l : List M) : Prop :=
  l.length = n ∧ n ≤ C ∧ C ≤ 9223372036854775807 ∧ ((A = none ∧ n = 0 ∧ C = 0) ∨ ∃ g off, A = some ⟨g, off, none⟩ ∧ g < w.heap.size ∧ ∀ i, (h : i < l.length) → MapAt w g (off + i * 4) l[i])
theorem cell_blk {w w' : World} {p : Addr} {v : Value} (hb : w'.heap[p.block]? = w.heap[p.block]?) (h : w.cell? p = some v) : w'.cell? p = some v := (World.cell?_of_block (a := p) hb).trans h
theorem MapAt.blk {w w' : World} {g o : Nat} {m : M} (hb : w'.heap[g]? = w.heap[g]?) (h : MapAt w g o m) : MapAt w' g o m :=
  ⟨cell_blk (p := ⟨g, o, none⟩) hb h.1, cell_blk (p := ⟨g, o + 1, none⟩) hb h.2.1, cell_blk (p := ⟨g, o + 2, none⟩) hb h.2.2.1, cell_blk (p := ⟨g, o + 3, none⟩) hb h.2.2.2⟩
theorem Maps.keep {w w' : World} {A : Option Addr} {n C : Nat} {l : List M} (h : Maps w A n C l) (hs : w.heap.size ≤ w'.heap.size) (hb : ∀ k, blk A = some k → k < w.heap.size → w'.heap[k]? = w.heap[k]?) : Maps w' A n C l :=
  ⟨h.1, h.2.1, h.2.2.1, h.2.2.2.imp id fun ⟨g, off, e, hg, hc⟩ => ⟨g, off, e, by omega, fun i hi => (hc i hi).blk (hb g (by rw [e]; rfl) hg)⟩⟩
theorem Maps.gw {w w' : World} {A : Option Addr} {n C : Nat} {l : List M} (hg : Gw w w') (h : Maps w A n C l) : Maps w' A n C l := h.keep hg.size (fun k _ hk => hg.block k hk (fun h => h))
theorem Maps.lt {w : World} {A : Option Addr} {n C : Nat} {l : List M} (h : Maps w A n C l) {k : Nat} (hk : blk A = some k) : k < w.heap.size := by
  rcases h.2.2.2 with ⟨e, _⟩ | ⟨g, off, e, hg, _⟩
  · rw [e] at hk; simp [blk] at hk
  · rw [e] at hk; simp [blk] at hk; omega
theorem Maps.at' {w : World} {A : Option Addr} {n C : Nat} {l : List M} (h : Maps w A n C l) {i : Nat} (hi : i < l.length) : ∃ g off, A = some ⟨g, off, none⟩ ∧ MapAt w g (off + i * 4) l[i] := by
  rcases h.2.2.2 with ⟨_, e, _⟩ | ⟨g, off, e, _, hc⟩
  · have := h.1; omega
  · exact ⟨g, off, e, hc i hi⟩

theorem cl53 (m : M) (ba : Nat) (a : Int) (W : World) (h : W.cell? ⟨ba, 0, none⟩ = some (.int .i64 a)) :
    Calls Try.prog 53 #[agg m, .pointer (some ⟨ba, 0, none⟩)] W fun e w' => e = .returned (.bool (decide (m.at' < a))) ∧ Gw W w' := by
  have h2 := cell_gw ((Fr.refl _ W).alloc (.cells #[.int .i64 m.at', .int .i64 m.off, .int .i64 m.len, .int .u16 m.sum] 60)) h
  go_enter Try.func53, Try.ntmps53
  go_wp2
  go_ret
  exact ⟨rfl, (Fr.refl _ W).alloc _⟩

set_option maxRecDepth 100000 in
set_option maxHeartbeats 2000000 in
theorem cl55 (A : Option Addr) (n C i bf bl ba : Nat) (a : Int) (l : List M) (W : World) (hl : Maps W A n C l) (hi : i < n) (hn : n ≤ 1000000)
    (h1 : W.cell? ⟨bf, 0, none⟩ = some (.func (.func 53) #[] #[.pointer (some ⟨ba, 0, none⟩)])) (h2 : W.cell? ⟨bl, 0, none⟩ = some (.slice A n C)) (h3 : W.cell? ⟨ba, 0, none⟩ = some (.int .i64 a)) (p : Bool) (hp : ∀ h : i < l.length, p = !decide (l[i].at' < a)) :
    Calls Try.prog 55 (#[.int .i64 i] ++ #[.pointer (some ⟨bf, 0, none⟩), .pointer (some ⟨bl, 0, none⟩)]) W fun e w' => e = .returned (.bool p) ∧ Gw W w' := by
  have hil : i < l.length := by rw [hl.1]; exact hi
  obtain ⟨g, off, rfl, c0, c1, c2, c3⟩ := hl.at' hil
  have hz : (i : Int) < n := by omega
  have hp2 := hp hil
  clear hp hl
  obtain ⟨m, hm⟩ : ∃ m, l[i] = m := ⟨_, rfl⟩
  rw [hm] at c0 c1 c2 c3 hp2
  clear hm
  subst hp2
  have H3 := Lib.hid h3
  clear h3
  show Calls Try.prog 55 #[.int .i64 i, .pointer (some ⟨bf, 0, none⟩), .pointer (some ⟨bl, 0, none⟩)] W _
  go_enter Try.func55, Try.ntmps55
  go_wp2_with fail
  go_region_with ((go_at_call 53; refine (cl53 m ba a _ (cell_drew H3.out)).mono ?_; rintro e w' ⟨rfl, hg⟩))
  all_goals
    go_wp2_with fail
    go_ret
    exact ⟨rfl, gw_undrew hg⟩

theorem found_pos {l : List M} (hs : Srt l) (a : Int) {k : Nat} (hk : k ≤ l.length) (h1 : ∀ t, t < k → ∀ h : t < l.length, l[t].at' < a) (h2 : ∀ t, k ≤ t → ∀ h : t < l.length, ¬ l[t].at' < a) : k = pos l a := by
  have hp := pos_le l a
  rcases Nat.lt_trichotomy k (pos l a) with h | h | h
  · have := (pos_lt hs a k (by omega)).2 h
    exact absurd this (h2 k (Nat.le_refl _) (by omega))
  · exact h
  · have := h1 (pos l a) h (by omega)
    have := (pos_lt hs a (pos l a) (by omega)).1 this
    omega
def PlaceP (l : List M) (a : Int) (w : World) (e : Ending) (w' : World) : Prop := e = .returned (.int .i64 (pos l a)) ∧ Gw w w'
set_option maxRecDepth 100000 in
set_option maxHeartbeats 2000000 in
theorem place (A : Option Addr) (n C ba : Nat) (a : Int) (l : List M) (w : World) (hl : Maps w A n C l) (hn : n ≤ 1000000) (hs : Srt l) (h3 : w.cell? ⟨ba, 0, none⟩ = some (.int .i64 a)) :
    Calls Try.prog 52 #[.slice A n C, .func (.func 53) #[] #[.pointer (some ⟨ba, 0, none⟩)]] w (PlaceP l a w) := by
  have eg : ∀ args w, (callFunc 55 args).run Try.prog w = .ok (.enter 55 args) w := enters_of Try.func55 (by kernel_rfl) rfl
  obtain ⟨W, hW⟩ : ∃ W, W = (w.alloc (.cells #[.slice A n C] 66)).alloc (.cells #[.func (.func 53) #[] #[.pointer (some ⟨ba, 0, none⟩)]] 69) := ⟨_, rfl⟩
  have hg : Gw w W := by rw [hW]; exact gw_trans (gw_alloc1 _ _) (gw_alloc1 _ _)
  have b1 : W.cell? ⟨w.heap.size + 1, 0, none⟩ = some (.func (.func 53) #[] #[.pointer (some ⟨ba, 0, none⟩)]) := by rw [hW]; exact cell_new_at (World.size_alloc _ _)
  have b2 : W.cell? ⟨w.heap.size, 0, none⟩ = some (.slice A n C) := by rw [hW]; exact cell_alloc_old _ (cell_new_at rfl)
  have b3 := cell_gw hg h3
  have hLW := hl.gw hg
  have hln := hl.1
  have hS := search 55 #[.pointer (some ⟨w.heap.size + 1, 0, none⟩), .pointer (some ⟨w.heap.size, 0, none⟩)] n (fun t => !decide ((l.getD t ⟨0, 0, 0, 0⟩).at' < a)) W eg hn
    (fun W' i hi hg' => cl55 A n C i (w.heap.size + 1) w.heap.size ba a l W' (hLW.gw hg') hi hn (cell_gw hg' b1) (cell_gw hg' b2) (cell_gw hg' b3) _ (fun h => by rw [List.getD_eq_getElem?_getD, List.getElem?_eq_getElem h]; rfl))
    (fun x y hxy hy h => by
      have hx' : x < l.length := by omega
      have hy' : y < l.length := by omega
      rw [List.getD_eq_getElem?_getD, List.getElem?_eq_getElem hx'] at h
      rw [List.getD_eq_getElem?_getD, List.getElem?_eq_getElem hy']
      have h1 := pos_lt hs a x hx'
      have h2 := pos_lt hs a y hy'
      simp at h ⊢
      omega)
  have HS : Hid (Calls Try.prog 54 #[.int .i64 n, .func (.func 55) #[] #[.pointer (some ⟨w.heap.size + 1, 0, none⟩), .pointer (some ⟨w.heap.size, 0, none⟩)]] W (PlaceP l a w)) := by
    refine Lib.hid (hS.mono ?_)
    rintro e w' ⟨k, rfl, hk, h1, h2, hgg⟩
    have := found_pos hs a (k := k) (by omega) (fun t ht h => by
      have : (!decide ((l.getD t ⟨0, 0, 0, 0⟩).at' < a)) = false := h1 t ht
      rw [List.getD_eq_getElem?_getD, List.getElem?_eq_getElem h] at this
      simpa using this) (fun t ht h => by
      have : (!decide ((l.getD t ⟨0, 0, 0, 0⟩).at' < a)) = true := h2 t ht (by omega)
      rw [List.getD_eq_getElem?_getD, List.getElem?_eq_getElem h] at this
      simpa using this)
    subst this
    exact ⟨rfl, gw_trans hg hgg⟩
  clear hS b1 b2 b3 hLW hl h3 hs hg
  have HW := Lib.hid hW
  clear hW
  go_enter Try.func52, Try.ntmps52
  go_wp2_with ((go_at_call 54; rw [← HW.out]; refine HS.out.mono ?_; rintro e w' ⟨rfl, hg⟩))
  go_ret
  exact ⟨rfl, hg⟩

/-- The table at X. -/
structure TabAt (w : World) (X : Nat) (room begin : Int) (A : Option Addr) (C : Nat) (l : List M) : Prop where
  c0 : w.cell? ⟨X, 0, none⟩ = some (.int .i64 room)
  c1 : w.cell? ⟨X, 1, none⟩ = some (.int .i64 begin)
  c2 : w.cell? ⟨X, 2, none⟩ = some (.slice A l.length C)
  f1 : w.frozen? ⟨X, 1, none⟩ = false
  f2 : w.frozen? ⟨X, 2, none⟩ = false
  maps : Maps w A l.length C l
  na : blk A ≠ some X
  ok : Ok room begin l
theorem TabAt.ltX {w X r b A C l} (h : TabAt w X r b A C l) : X < w.heap.size := World.block_lt_of_cell? _ _ h.c0
theorem TabAt.keep {w w' X r b A C l} (h : TabAt w X r b A C l) (hs : w.heap.size ≤ w'.heap.size) (hX : w'.heap[X]? = w.heap[X]?) (hA : ∀ k, blk A = some k → k < w.heap.size → w'.heap[k]? = w.heap[k]?) : TabAt w' X r b A C l :=
  ⟨cell_blk (p := ⟨X, 0, none⟩) hX h.c0, cell_blk (p := ⟨X, 1, none⟩) hX h.c1, cell_blk (p := ⟨X, 2, none⟩) hX h.c2, (World.frozen?_of_block (a := ⟨X, 1, none⟩) hX).trans h.f1, (World.frozen?_of_block (a := ⟨X, 2, none⟩) hX).trans h.f2, h.maps.keep hs hA, h.na, h.ok⟩
theorem TabAt.gw {w w' X r b A C l} (h : TabAt w X r b A C l) (hg : Gw w w') : TabAt w' X r b A C l := h.keep hg.size (hg.block X h.ltX (fun h => h)) (fun k _ hk => hg.block k hk (fun h => h))
def FindP (l : List M) (a : Int) (w : World) (e : Ending) (w' : World) : Prop := e = .returned (.tuple #[.int .i64 (pos l a), .bool (has l a)]) ∧ Gw w w'
set_option maxRecDepth 100000 in
set_option maxHeartbeats 2000000 in
theorem findC {w X A C l} (k2 : w.cell? ⟨X, 2, none⟩ = some (.slice A l.length C)) (hm : Maps w A l.length C l) (hs : Srt l) (hlen : l.length ≤ 2048) (a : Int) : Calls Try.prog 50 #[.pointer (some ⟨X, 0, none⟩), .int .i64 a] w (FindP l a w) := by
  have c2 := cell_alloc_old (.cells #[.int .i64 a] 3) k2
  have hX := World.block_lt_of_cell? _ _ k2
  have HP := Lib.hid (place A l.length C w.heap.size a l (w.alloc (.cells #[.int .i64 a] 3)) (hm.gw (gw_alloc1 _ _)) (by omega) hs (cell_new_at rfl))
  have HM := Lib.hid hm
  have HS := Lib.hid hs
  clear hm hs k2
  obtain ⟨n, hn⟩ : ∃ n, l.length = n := ⟨_, rfl⟩
  have HN := Lib.hid hn
  rw [hn] at c2 hlen HP
  clear hn
  go_enter Try.func50, Try.ntmps50
  go_wp2_with ((go_at_call 52; refine HP.out.mono ?_; rintro e w' ⟨rfl, hg⟩; have HG := Lib.hid hg; clear hg))
  have hpl := pos_le l a
  rw [HN.out] at hpl
  have d2 := cell_gw HG.out c2
  have d3 : w'.cell? ⟨w.heap.size, 0, none⟩ = some (.int .i64 a) := cell_gw HG.out (cell_new_at rfl)
  by_cases hp : pos l a < n
  · have hpl2 : pos l a < l.length := by rw [HN.out]; exact hp
    obtain ⟨g, off, rfl, m0, _, _, _⟩ := HM.out.at' hpl2
    have k0 := cell_gw HG.out (cell_alloc_old (.cells #[.int .i64 a] 3) m0)
    have hhas : has l a = decide (l[pos l a].at' = a) := by
      rw [Bool.eq_iff_iff, has_iff HS.out]
      simp [hpl2]
    have HH := Lib.hid hhas
    clear hhas m0
    generalize l[pos l a].at' = v at *
    generalize hi : pos l a = i at *
    have HI := Lib.hid hi
    clear hi
    have hz : (i : Int) < n := by omega
    go_quiet (fail)
    go_wp2_with fail
    go_ret2
    refine ⟨?_, gw_drewN (gw_trans (gw_alloc1 _ _) HG.out) _⟩
    show _ = Ending.returned (.tuple #[.int .i64 (pos l a : Nat), .bool (has l a)])
    rw [HI.out, HH.out]
    rfl
  · have hhas : has l a = false := by
      cases hh : has l a with
      | false => rfl
      | true =>
        obtain ⟨h, _⟩ := (has_iff HS.out a).1 hh
        rw [HN.out] at h; exact absurd h hp
    have HH := Lib.hid hhas
    clear hhas
    have hd : decide (pos l a < n) = false := decide_eq_false hp
    have hz : ¬ ((pos l a : Int) < n) := by omega
    have hzd : decide ((pos l a : Int) < n) = false := decide_eq_false hz
    generalize hi : pos l a = i at *
    have HI := Lib.hid hi
    clear hi
    go_quiet (fail)
    go_wp2_with fail
    go_ret2
    refine ⟨?_, gw_drewN (gw_trans (gw_alloc1 _ _) HG.out) _⟩
    show _ = Ending.returned (.tuple #[.int .i64 (pos l a : Nat), .bool (has l a)])
    rw [HI.out, HH.out]
    rfl
theorem find {w X r b A C l} (T : TabAt w X r b A C l) (a : Int) : Calls Try.prog 50 #[.pointer (some ⟨X, 0, none⟩), .int .i64 a] w (FindP l a w) := findC T.c2 T.maps T.ok.srt T.ok.len a
end Go.Proofs.Ytdaodpojcjbggaa.Rm
