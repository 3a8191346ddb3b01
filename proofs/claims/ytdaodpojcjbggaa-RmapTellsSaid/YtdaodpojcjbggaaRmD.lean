/- New, Len, Begin, All, At, Cut; tables that are none. -/
import Derived.Test.YtdaodpojcjbggaaRmC
namespace Go.Proofs.Ytdaodpojcjbggaa.Rm
open Go.RowKit Go.Proofs.Ytdaodpojcjbggaa.Ln
set_option linter.unusedVariables false
set_option linter.unusedSimpArgs false

theorem newBad (r : Int) (h : r < 1 ∨ 2048 < r) (w : World) : Calls Try.prog 26 #[.int .i64 r] w fun e w' => e = .returned (.tuple #[.pointer none, .int .i64 2]) ∧ w = w' := by
  by_cases h1 : r < 1
  · go_enter Try.func26, Try.ntmps26
    go_wp2
    go_ret2
    exact ⟨rfl, rfl⟩
  · have h2 : 2048 < r := by omega
    clear h
    go_enter Try.func26, Try.ntmps26
    go_wp2
    go_ret2
    exact ⟨rfl, rfl⟩
theorem tab_new (w : World) (r : Int) (hr : 1 ≤ r ∧ r ≤ 2048) (t : TypeId) : TabAt (w.alloc (.cells #[.int .i64 r, .int .i64 0, .slice none 0 0] t)) w.heap.size r 0 none 0 [] := by
  have hb : (w.alloc (.cells #[.int .i64 r, .int .i64 0, .slice none 0 0] t)).heap[w.heap.size]? = some (.cells #[.int .i64 r, .int .i64 0, .slice none 0 0] t) := heap_alloc_new w _
  refine ⟨by rw [World.cell?_alloc_new]; rfl, by rw [World.cell?_alloc_new]; rfl, by rw [World.cell?_alloc_new]; rfl, ?_, ?_, ⟨rfl, Nat.le_refl _, by omega, .inl ⟨rfl, rfl, rfl⟩⟩, by simp [blk], ⟨hr, by omega, List.Pairwise.nil, by simp, by simp⟩⟩
  · unfold World.frozen?; simp only [hb]; simp
  · unfold World.frozen?; simp only [hb]; simp
def NewP (w0 w : World) (H : List Nat) (r : Int) (e : Ending) (w' : World) : Prop := ∃ X, e = .returned (.tuple #[.pointer (some ⟨X, 0, none⟩), .int .i64 0]) ∧ w.heap.size ≤ X ∧ X < w'.heap.size ∧ Gw w w' ∧ TS w0 w' (X :: H) X r 0 []
theorem new_ {w0 w : World} {H : List Nat} (hg : Gw w0 w) (hH : ∀ k ∈ H, k < w.heap.size) (r : Int) (hr : 1 ≤ r ∧ r ≤ 2048) : Calls Try.prog 26 #[.int .i64 r] w (NewP w0 w H r) := by
  have h1 : ¬ r < 1 := by omega
  have h2 : ¬ 2048 < r := by omega
  have HH := Lib.hid hH
  clear hH
  go_enter Try.func26, Try.ntmps26
  go_wp2
  go_ret2
  refine ⟨w.heap.size, rfl, Nat.le_refl _, by rw [World.size_alloc]; omega, gw_alloc1 _ _, List.mem_cons_self, hg.size, fun k hk => ?_, none, 0, tab_new w r hr _, by simp [blk]⟩
  rw [World.size_alloc]
  rcases List.mem_cons.1 hk with rfl | hk
  · omega
  · have := HH.out k hk; omega

theorem lenNil (w : World) : Calls Try.prog 33 #[.pointer none] w fun e w' => e = .returned (.int .i64 0) ∧ w = w' := by
  go_enter Try.func33, Try.ntmps33
  go_wp2
  go_ret
  exact ⟨rfl, rfl⟩
theorem beginNil (w : World) : Calls Try.prog 37 #[.pointer none] w fun e w' => e = .returned (.int .i64 0) ∧ w = w' := by
  go_enter Try.func37, Try.ntmps37
  go_wp2
  go_ret
  exact ⟨rfl, rfl⟩
theorem allNil (w : World) : Calls Try.prog 32 #[.pointer none] w fun e w' => e = .returned (.slice none 0 0) ∧ w = w' := by
  go_enter Try.func32, Try.ntmps32
  go_wp2
  go_ret
  exact ⟨rfl, rfl⟩
theorem cutNil (n : Int) (w : World) : Calls Try.prog 36 #[.pointer none, .int .i64 n] w fun e w' => e = .returned (.tuple #[]) ∧ w = w' := by
  go_enter Try.func36, Try.ntmps36
  go_wp2
  first | go_ret | skip
  exact bodyPost_ret (v := .tuple #[]) (by simp [results, Try.results36, go_sem]) rfl ⟨rfl, rfl⟩
theorem len_ {w0 w H X r b l} (h : TS w0 w H X r b l) : Calls Try.prog 33 #[.pointer (some ⟨X, 0, none⟩)] w fun e w' => e = .returned (.int .i64 (l.length : Int)) ∧ w = w' := by
  obtain ⟨_, _, _, A, C, T, _⟩ := h
  have c2 := T.c2
  have hl := T.ok.len
  clear T
  go_enter Try.func33, Try.ntmps33
  go_wp2
  go_ret
  exact ⟨rfl, rfl⟩
theorem begin_ {w0 w H X r b l} (h : TS w0 w H X r b l) : Calls Try.prog 37 #[.pointer (some ⟨X, 0, none⟩)] w fun e w' => e = .returned (.int .i64 b) ∧ w = w' := by
  obtain ⟨_, _, _, A, C, T, _⟩ := h
  have c1 := T.c1
  clear T
  go_enter Try.func37, Try.ntmps37
  go_wp2
  go_ret
  exact ⟨rfl, rfl⟩
/-- A row of mappings of the caller's own. -/
def Row (w : World) (P : Option Addr) (n C : Nat) (l : List M) : Prop := Own w 60 4 (.slice P n C) n (flat l) ∧ l.length = n
theorem Row.maps {w : World} {P : Option Addr} {n C : Nat} {l : List M} (h : Row w P n C l) : Maps w P n C l := own_maps h.1 h.2
def CloneP (w : World) (l : List M) (e : Ending) (w' : World) : Prop := ∃ P n C, e = .returned (.slice P n C) ∧ Row w' P n C l ∧ Gw w w' ∧ (∀ k, blk P = some k → w.heap.size ≤ k)
theorem nilSome66 (g o n c : Nat) (w : World) : (binOp .eql 66 (.slice (some ⟨g, o, none⟩) n c) (.slice none 0 0)).run Try.prog w = .ok (.bool false) w := by kernel_rfl
theorem nilNone66 (w : World) : (binOp .eql 66 (.slice none 0 0) (.slice none 0 0)).run Try.prog w = .ok (.bool true) w := by kernel_rfl
attribute [local go_sem] nilSome66 nilNone66
theorem clone {w : World} {A : Option Addr} {n C : Nat} {l : List M} (h : Maps w A n C l) (hn : n ≤ 100000) : Calls Try.prog 51 #[.slice A n C] w (CloneP w l) := by
  rcases h.2.2.2 with ⟨rfl, rfl, rfl⟩ | ⟨g, off, rfl, _⟩
  · have : l = [] := List.eq_nil_of_length_eq_zero h.1
    subst this
    clear h
    go_enter Try.func51, Try.ntmps51
    go_wp2
    go_ret
    exact ⟨none, 0, 0, rfl, ⟨World.ownsRow_nil _ _ _ _, rfl⟩, Fr.refl _ w, fun k hk => by simp [blk] at hk⟩
  · have H := Lib.hid h
    clear h
    have HW : Hid (Gw w (w.alloc (.cells #[] 60))) := Lib.hid (gw_alloc1 _ _)
    have HO : Hid (Own (w.alloc (.cells #[] 60)) 60 4 (.slice (some ⟨w.heap.size, 0, none⟩) 0 0) 0 (flat [])) := Lib.hid (World.ownsRow_made w #[] 0 (Nat.zero_le _) (by simp [maxLen]) rfl)
    go_enter Try.func51, Try.ntmps51
    go_wp2_with (at_builtin; refine wpList_app rfl (.tmp 5) (.tmp 6) rfl (.slice (some ⟨w.heap.size, 0, none⟩) 0 0) _ rfl rfl (fun v' w' => ∃ P cap, v' = .slice P n cap ∧ Own w' 60 4 v' n (flat l) ∧ (w.alloc (.cells #[] 60)).grownBy w' (some w.heap.size) ∧ (v'.ownBlock = some w.heap.size ∨ v'.ownBlock = some (w.alloc (.cells #[] 60)).heap.size)) (by obtain ⟨P, cap, w', h1, h2, h3, h4⟩ := app_more HO.out 66 (.slice (some ⟨g, off, none⟩) n C) n (src_maps (H.out.gw HW.out)) (by omega); rw [Nat.zero_add] at h1 h2 h4; exact ⟨_, w', h1, P, cap, rfl, h2, h3, h4⟩) ?_; rintro v1 w1 ⟨P, cap, rfl, ho, hgr, hat⟩)
    go_ret
    refine ⟨P, n, cap, rfl, ⟨ho, H.out.1⟩, Fr.trans HW.out (Fr.of_grown hgr) (fun x hx e => by have e : w.heap.size = x := Option.some.inj e; show False; omega), fun k hk => ?_⟩
    rw [ownBlock_blk, hk] at hat
    rcases hat with e | e
    · have e := Option.some.inj e; omega
    · have e := Option.some.inj e; rw [World.size_alloc] at e; omega
theorem all_ {w0 w H X r b l} (h : TS w0 w H X r b l) : Calls Try.prog 32 #[.pointer (some ⟨X, 0, none⟩)] w (CloneP w l) := by
  obtain ⟨_, _, _, A, C, T, _⟩ := h
  have c2 := T.c2
  have HC := Lib.hid (clone T.maps (by have := T.ok.len; omega))
  clear T
  go_enter Try.func32, Try.ntmps32
  go_wp2_with (go_at_call 51; refine HC.out.mono ?_; rintro e w' ⟨P, n, C', rfl, h1, h2, h3⟩)
  go_ret
  exact ⟨P, n, C', rfl, h1, h2, h3⟩
end Go.Proofs.Ytdaodpojcjbggaa.Rm
