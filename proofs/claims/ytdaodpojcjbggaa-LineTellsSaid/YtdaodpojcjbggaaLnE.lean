/- New, Clone, All, Same. -/
import Derived.Test.YtdaodpojcjbggaaLnD
namespace Go.Proofs.Ytdaodpojcjbggaa.Ln
open Go.RowKit
set_option linter.unusedVariables false

theorem putNil (to : Int) (s : ByteArray) (w : World) : Calls Try.prog 15 #[.pointer none, .int .i64 to, .string s] w fun e w' => e = .returned (.int .i64 1) ∧ w = w' := by
  go_enter Try.func15, Try.ntmps15
  go_wp2_with (go_at_call 41; refine (rightNil _ _).mono ?_; rintro e w' ⟨rfl, rfl⟩)
  go_ret
  exact ⟨rfl, rfl⟩
theorem putBad (X : Nat) (to : Int) (h : to < 0 ∨ 2 ≤ to) (s : ByteArray) (w : World) : Calls Try.prog 15 #[.pointer (some ⟨X, 0, none⟩), .int .i64 to, .string s] w fun e w' => e = .returned (.int .i64 2) ∧ w = w' := by
  have H := Lib.hid h
  clear h
  go_enter Try.func15, Try.ntmps15
  go_wp2_with (go_at_call 41; refine (rightBad _ _ H.out _).mono ?_; rintro e w' ⟨rfl, rfl⟩)
  go_ret
  exact ⟨rfl, rfl⟩

theorem line_new (w : World) (t : TypeId) : LineAt (w.alloc (.cells #[.slice none 0 0, .slice none 0 0] t)) w.heap.size none 0 none 0 [] [] := by
  have hb : (w.alloc (.cells #[.slice none 0 0, .slice none 0 0] t)).heap[w.heap.size]? = some (.cells #[.slice none 0 0, .slice none 0 0] t) := heap_alloc_new w _
  refine ⟨by rw [World.cell?_alloc_new]; rfl, by rw [World.cell?_alloc_new]; rfl, ?_, ?_, ⟨World.ownsRow_nil _ _ _ _, by simp, by simp⟩, ⟨World.ownsRow_nil _ _ _ _, by simp, by simp⟩, by simp [blk], by simp [blk], by simp [blk]⟩
  · unfold World.frozen?; simp only [hb]; simp
  · unfold World.frozen?; simp only [hb]; simp
theorem new_ (w : World) : Calls Try.prog 12 #[] w fun e w' => e = .returned (.pointer (some ⟨w.heap.size, 0, none⟩)) ∧ Gw w w' ∧ LineAt w' w.heap.size none 0 none 0 [] [] := by
  go_enter Try.func12, Try.ntmps12
  go_wp2
  go_ret
  exact ⟨rfl, (Fr.refl _ w).alloc _, line_new w _⟩

theorem src_rw {w : World} {A : Option Addr} {C : Nat} {xs : List ByteArray} (h : Rw w A C xs) {W : World} (hW : Gw w W) : Src Try.prog 1 26 (.slice A xs.length C) xs.length (xs.map Value.string) W := by
  refine src_any (e' := 9) Try.underlying26 A xs.length C _ (by simp) (fun e => ?_) (fun a ha j u hu => ?_) (fun u hu => ?_)
  · rcases h.at with ⟨_, rfl, _⟩ | ⟨g, rfl, _⟩
    · rfl
    · cases e
  · rcases h.at with ⟨rfl, _⟩ | ⟨g, rfl, _, _, _, hc⟩
    · cases ha
    · cases ha
      have e : (⟨g, 0, none⟩ : Addr).add j = ⟨g, j, none⟩ := by unfold Addr.add; split <;> simp_all
      rw [e]
      have hj : j < xs.length := by
        have := (List.getElem?_eq_some_iff.1 hu).1; simpa using this
      have e2 : u = .string xs[j] := by
        rw [List.getElem?_map, List.getElem?_eq_getElem hj] at hu; simpa using hu.symm
      rw [e2]
      exact cell_gw hW (hc j hj)
  · obtain ⟨s, _, rfl⟩ := List.mem_map.1 hu
    rfl

/-- A row as a value of its own: nothing that lay is its block. -/
def Fresh (w : World) (A : Option Addr) : Prop := ∀ k, blk A = some k → w.heap.size ≤ k

theorem wpList_row {ops : Array Oper} {rest : List Oper} {o : Oper} {a : Act} {Q : Exit → Act → World → Prop} {w : World} (hgd : o.guard = none) (s x : Operand)
    (ho : o.op = .call { callee := .builtin .append, args := #[s, x], argTypes := #[26, 26] }) (v : Value) (n : Nat) (xs : List Value) (hs : a.eval s = v) (hown : Own w 9 1 v n xs)
    (y : Value) (m : Nat) (news : List Value) (hx : a.eval x = y) (hsrc : Src Try.prog 1 26 y m news w) (hn : n + m ≤ 2000000)
    (h : ∀ v' w', (∃ A C, v' = .slice A (n + m) C) → Own w' 9 1 v' (n + m) (xs ++ news) → w.grownBy w' v.ownBlock → (v'.ownBlock = v.ownBlock ∨ v'.ownBlock = some w.heap.size) → wpList Try.prog ops Q rest (a.put o.dst v') w') : wpList Try.prog ops Q (o :: rest) a w := by
  obtain ⟨i, hi, hz, hsz, hb⟩ := strInfo
  obtain ⟨v', w', hr, h1, h2, h3⟩ := row_append (P := Try.prog) w 26 26 o.type 9 i (.string ⟨#[]⟩) 1 16 Try.underlying26 hi hz hsz hb rfl v n xs hown y m news hsrc (by simp [maxLen]; omega) (by omega)
  have hform : ∃ A C, v' = .slice A (n + m) C := by
    rcases h1.2 with ⟨e, e0⟩ | ⟨g, cap, cur, e, _⟩
    · exact ⟨none, 0, by rw [e, e0]⟩
    · exact ⟨_, _, e⟩
  refine wpList_plain hgd fun K hK => ?_
  unfold Oper.wp execOp
  simp only [ho, resolve, invoke, builtin, Sem.run_bind, Sem.run_pure, Result.andThen_ok, List.map_toArray, List.map_cons, List.map_nil, hs, hx, hr]
  exact hK _ _ (h v' w' hform h1 h2 h3)

set_option maxHeartbeats 1000000 in
theorem nilSome (g o n c : Nat) (w : World) : (binOp .eql 26 (.slice (some ⟨g, o, none⟩) n c) (.slice none 0 0)).run Try.prog w = .ok (.bool false) w := by kernel_rfl
theorem nilNone (w : World) : (binOp .eql 26 (.slice none 0 0) (.slice none 0 0)).run Try.prog w = .ok (.bool true) w := by kernel_rfl
attribute [local go_sem] nilSome nilNone
set_option maxRecDepth 100000 in
theorem clone {w : World} {A : Option Addr} {C : Nat} {xs : List ByteArray} (h : Rw w A C xs) : Calls Try.prog 44 #[.slice A xs.length C] w fun e w' => ∃ A' C', e = .returned (.slice A' xs.length C') ∧ Rw w' A' C' xs ∧ Gw w w' ∧ Fresh w A' := by
  have H := Lib.hid h
  rcases h.at with ⟨rfl, rfl, rfl⟩ | ⟨g, rfl, hc, hm, hg, hcell⟩
  · clear h
    go_enter Try.func44, Try.ntmps44
    go_wp2
    go_ret
    exact ⟨none, 0, rfl, H.out, Fr.refl _ w, fun k hk => by simp [blk] at hk⟩
  · have hl := h.len
    clear h hcell
    go_enter Try.func44, Try.ntmps44
    have hW : Gw w (w.alloc (.cells #[] 9)) := (Fr.refl _ w).alloc _
    have HW := Lib.hid hW
    have HO : Hid (Own (w.alloc (.cells #[] 9)) 9 1 (.slice (some ⟨w.heap.size, 0, none⟩) 0 0) 0 []) := Lib.hid (World.ownsRow_made w #[] 0 (Nat.zero_le _) (by simp [maxLen]) rfl)
    clear hW
    go_wp2_with (at_builtin; refine wpList_row rfl (.tmp 5) (.tmp 6) rfl (.slice (some ⟨w.heap.size, 0, none⟩) 0 0) 0 [] rfl HO.out _ xs.length (xs.map Value.string) rfl (src_rw H.out HW.out) (by omega) ?_; rw [Nat.zero_add]; rintro v' w1 ⟨A', C', rfl⟩ hown hgr hat)
    go_ret
    have hf : Fresh w A' := by
      intro k hk
      rw [ownBlock_blk, hk] at hat
      rcases hat with e | e
      · have e : k = w.heap.size := Option.some.inj e
        omega
      · have e := Option.some.inj e
        rw [World.size_alloc] at e; omega
    refine ⟨A', C', rfl, ⟨by simpa using hown, H.out.len, H.out.sz⟩, ?_, hf⟩
    refine Fr.trans HW.out (Fr.of_grown hgr) (fun x hx h => ?_)
    have e := Option.some.inj h
    show False
    have : x = w.heap.size := e.symm
    omega
end Go.Proofs.Ytdaodpojcjbggaa.Ln
