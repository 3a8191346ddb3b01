/- Copy; the chapter's examples. -/
import Derived.Test.YtmjajepdlopkiaaShG
import Derived.Deep.Upon
namespace Go.Proofs.Ytmjajepdlopkiaa.Sh
open Go.RowKit
set_option linter.unusedVariables false
set_option linter.unusedSimpArgs false

/-- The cells of the first n sets. -/
def flatS (C : Nat → Nat → Bool) : Nat → List Value
  | 0 => []
  | n + 1 => flatS C n ++ [.int .u64 (wd (C n) 0 : Nat), .int .u64 (wd (C n) 1 : Nat), .int .u64 (wd (C n) 2 : Nat), .int .u64 (wd (C n) 3 : Nat)]
theorem flatS_len (C : Nat → Nat → Bool) (n : Nat) : (flatS C n).length = n * 4 := by
  induction n with
  | zero => rfl
  | succ n ih => simp only [flatS, List.length_append, ih, List.length_cons, List.length_nil]; omega
theorem flatS_get (C : Nat → Nat → Bool) (n i j : Nat) (hi : i < n) (hj : j < 4) : (flatS C n)[i * 4 + j]? = some (.int .u64 (wd (C i) j : Nat)) := by
  induction n with
  | zero => omega
  | succ n ih =>
    simp only [flatS]
    by_cases h : i < n
    · rw [List.getElem?_append_left (by rw [flatS_len]; omega)]; exact ih h
    · obtain rfl : i = n := by omega
      rw [List.getElem?_append_right (by rw [flatS_len]; omega), flatS_len, show i * 4 + j - i * 4 = j by omega]
      have h4 : j = 0 ∨ j = 1 ∨ j = 2 ∨ j = 3 := by omega
      rcases h4 with rfl | rfl | rfl | rfl <;> rfl
theorem flatS_one {C : Nat → Nat → Bool} {n : Nat} {u : Value} (h : u ∈ flatS C n) : u.oneCell' = true := by
  induction n with
  | zero => cases h
  | succ n ih =>
    simp only [flatS, List.mem_append] at h
    rcases h with h | h
    · exact ih h
    · simp at h; rcases h with rfl | rfl | rfl | rfl <;> rfl
theorem came_lies {w X g cp isn n C} (h : CameAt w X g cp isn n C) : ∀ j u, (flatS C n)[j]? = some u → w.cell? ((⟨g, 0, none⟩ : Addr).add j) = some u := by
  intro j u hu
  have hj : j < n * 4 := by have := (List.getElem?_eq_some_iff.1 hu).1; rw [flatS_len] at this; exact this
  obtain ⟨a, b, rfl, ha, hb⟩ : ∃ a b, j = a * 4 + b ∧ a < n ∧ b < 4 := ⟨j / 4, j % 4, by omega, by omega, by omega⟩
  rw [flatS_get _ _ _ _ ha hb] at hu
  rw [add_at, Nat.zero_add, ← hu]
  exact h.cells a b ha hb
theorem came_src {w W X g cp isn n C} (h : CameAt w X g cp isn n C) (hg : Gw w W) : Src Try.prog 4 80 (.slice (some ⟨g, 0, none⟩) n cp) n (flatS C n) W := by
  have h2 := h.gw hg
  exact src_any (e' := 84) Try.underlying80 _ n cp _ (flatS_len _ _) (fun e => by cases e) (fun a ha j u hu => by cases ha; exact came_lies h2 j u hu) (fun u hu => flatS_one hu)
theorem app_sets {W : World} {v : Value} (h : Own W 84 4 v 0 []) (t : TypeId) (x : Value) (m : Nat) (l : List Value) (hs : Src Try.prog 4 80 x m l W) (hn : m ≤ 100000) :
    ∃ P cap w', (Builtin.append_ #[80, 80] t #[v, x]).run Try.prog W = .ok (.slice P m cap) w' ∧ Own w' 84 4 (.slice P m cap) m l ∧ W.grownBy w' v.ownBlock ∧ ((Value.slice P m cap).ownBlock = v.ownBlock ∨ (Value.slice P m cap).ownBlock = some W.heap.size) := by
  obtain ⟨inf, z, hi0, hz, hzs, hsz, hb⟩ := setInfo
  have hzs2 : z.cells.size = 4 := by rw [hzs]; rfl
  obtain ⟨v', w', hr, h1, h2, h3⟩ := row_append (P := Try.prog) W 80 80 t 84 inf z 4 32 Try.underlying80 hi0 hz hsz hb hzs2 v 0 [] h x m l hs (by simp [maxLen]; omega) (by omega)
  rw [Nat.zero_add, List.nil_append] at h1
  have hform : ∃ A C, v' = .slice A m C := by
    rcases h1.2 with ⟨e, e0⟩ | ⟨g, cap, cur, e, _⟩
    · exact ⟨none, 0, by rw [e, e0]⟩
    · exact ⟨_, _, e⟩
  obtain ⟨P, C, rfl⟩ := hform
  exact ⟨P, C, w', hr, h1, h2, h3⟩
/-- An append of sets, in a plain region. -/
theorem wpList_app {ops : Array Oper} {rest : List Oper} {o : Oper} {a : Act} {Q : Exit → Act → World → Prop} {w : World} (hgd : o.guard = none) (s x : Operand)
    (ho : o.op = .call { callee := .builtin .append, args := #[s, x], argTypes := #[80, 80] }) (v y : Value) (hs : a.eval s = v) (hx : a.eval x = y) (R : Value → World → Prop)
    (hr : ∃ v' w', (Builtin.append_ #[80, 80] o.type #[v, y]).run Try.prog w = .ok v' w' ∧ R v' w') (h : ∀ v' w', R v' w' → wpList Try.prog ops Q rest (a.put o.dst v') w') : wpList Try.prog ops Q (o :: rest) a w := by
  obtain ⟨v', w', hr, hR⟩ := hr
  refine wpList_plain hgd fun K hK => ?_
  unfold Oper.wp execOp
  simp only [ho, resolve, invoke, builtin, Sem.run_bind, Sem.run_pure, Result.andThen_ok, List.map_toArray, List.map_cons, List.map_nil, hs, hx, hr]
  exact hK _ _ (h v' w' hR)
theorem nilSome80 (g o n c : Nat) (w : World) : (binOp .eql 80 (.slice (some ⟨g, o, none⟩) n c) (.slice none 0 0)).run Try.prog w = .ok (.bool false) w := by kernel_rfl
attribute [local go_sem] nilSome80
def CloneP (w : World) (n : Nat) (C : Nat → Nat → Bool) (e : Ending) (w' : World) : Prop :=
  ∃ g cp, e = .returned (.slice (some ⟨g, 0, none⟩) n cp) ∧ (n ≤ cp ∧ cp ≤ 9223372036854775807) ∧ w.heap.size ≤ g ∧ Gw w w' ∧ ∃ cur : Array Value, w'.heap[g]? = some (.cells cur 84 (0, 0)) ∧ cur.toList.take (n * 4) = flatS C n
theorem own_clone {w : World} {P : Option Addr} {n cap : Nat} {C : Nat → Nat → Bool} (hn : 1 ≤ n) (h : Own w 84 4 (.slice P n cap) n (flatS C n)) : ∃ g, P = some ⟨g, 0, none⟩ ∧ (n ≤ cap ∧ cap ≤ 9223372036854775807) ∧ ∃ cur : Array Value, w.heap[g]? = some (.cells cur 84 (0, 0)) ∧ cur.toList.take (n * 4) = flatS C n := by
  rcases h.2 with ⟨e, e0⟩ | ⟨g, c2, cur, e, _, hg, hnc, hcm, hcs, htake⟩
  · omega
  · injection e with e1 e2 e3
    subst e1 e3
    exact ⟨g, rfl, ⟨hnc, hcm⟩, cur, hg, htake⟩
set_option maxHeartbeats 1000000 in
theorem clone {w X g cp isn n C} (h : CameAt w X g cp isn n C) : Calls Try.prog 45 #[.slice (some ⟨g, 0, none⟩) n cp] w (CloneP w n C) := by
  have hn := h.hn
  have HS := Lib.hid (came_src h (gw_alloc1 w (.cells #[] 84)))
  have HW : Hid (Gw w (w.alloc (.cells #[] 84))) := Lib.hid (gw_alloc1 _ _)
  have HO : Hid (Own (w.alloc (.cells #[] 84)) 84 4 (.slice (some ⟨w.heap.size, 0, none⟩) 0 0) 0 []) := Lib.hid (World.ownsRow_made w #[] 0 (Nat.zero_le _) (by simp [maxLen]) rfl)
  clear h
  go_enter Try.func45, Try.ntmps45
  go_wp2_with (at_builtin; refine wpList_app rfl (.tmp 5) (.tmp 6) rfl (.slice (some ⟨w.heap.size, 0, none⟩) 0 0) _ rfl rfl (fun v' w' => ∃ P cap, v' = .slice P n cap ∧ Own w' 84 4 v' n (flatS C n) ∧ (w.alloc (.cells #[] 84)).grownBy w' (some w.heap.size) ∧ (v'.ownBlock = some w.heap.size ∨ v'.ownBlock = some (w.alloc (.cells #[] 84)).heap.size)) (by obtain ⟨P, cap, w', h1, h2, h3, h4⟩ := app_sets HO.out 80 (.slice (some ⟨g, 0, none⟩) n cp) n (flatS C n) HS.out (by omega); exact ⟨_, w', h1, P, cap, rfl, h2, h3, h4⟩) ?_; rintro v' w' ⟨P, cap, rfl, ho, hgr, hat⟩; have HOO := Lib.hid ho; have HGR := Lib.hid hgr; have HAT := Lib.hid hat; clear ho hgr hat)
  go_ret
  obtain ⟨g', rfl, hc, cur, h1, h2⟩ := own_clone hn.1 HOO.out
  refine ⟨g', cap, rfl, hc, ?_, Fr.trans HW.out (Fr.of_grown HGR.out) (fun x hx e => by have e : w.heap.size = x := Option.some.inj e; show False; omega), cur, h1, h2⟩
  rcases HAT.out with e | e
  · have e : some g' = some w.heap.size := e
    have e := Option.some.inj e; omega
  · have e : some g' = some (w.alloc (.cells #[] 84)).heap.size := e
    have e := Option.some.inj e; rw [World.size_alloc] at e; omega
theorem came_copy {W : World} {g cp n : Nat} {C : Nat → Nat → Bool} {isn : Int} (hn : 1 ≤ n ∧ n ≤ 65536) (hi : 0 ≤ isn ∧ isn < 4294967296) (hc : n ≤ cp ∧ cp ≤ 9223372036854775807) {cur : Array Value} (h1 : W.heap[g]? = some (.cells cur 84 (0, 0))) (h2 : cur.toList.take (n * 4) = flatS C n) (t : TypeId) :
    CameAt (W.alloc (.cells #[.int .u32 isn, .slice (some ⟨g, 0, none⟩) n cp] t)) W.heap.size g cp isn n C := by
  have hg : g < W.heap.size := (Array.getElem?_eq_some_iff.1 h1).1
  have hX : (W.alloc (.cells #[.int .u32 isn, .slice (some ⟨g, 0, none⟩) n cp] t)).heap[g]? = some (.cells cur 84 (0, 0)) := (heap_alloc_old W _ hg).trans h1
  refine ⟨?_, ?_, fun i j hi hj => ?_, fun i j hi hj => ?_, by omega, hn, hc, hi⟩
  · rw [World.cell?_alloc_new]; rfl
  · rw [World.cell?_alloc_new]; rfl
  · rw [cell_of_row _ g (i * 4 + j) cur 84 (0, 0) hX]
    have := flatS_get C n i j hi hj
    rw [← h2, List.getElem?_take_of_lt (by omega)] at this
    simpa using this
  · unfold World.frozen?; simp only [hX]; simp
def CopyP (isn : Int) (n : Nat) (C : Nat → Nat → Bool) (w : World) (e : Ending) (w' : World) : Prop :=
  ∃ X g cp, e = .returned (.pointer (some ⟨X, 0, none⟩)) ∧ CameAt w' X g cp isn n C ∧ w.heap.size ≤ X ∧ w.heap.size ≤ g ∧ Gw w w'
theorem copyNil (w : World) : Calls Try.prog 32 #[.pointer none] w fun e w' => e = .returned (.pointer none) ∧ w = w' := by
  go_enter Try.func32, Try.ntmps32
  go_wp2
  go_ret
  exact ⟨rfl, rfl⟩
set_option maxRecDepth 100000 in
set_option maxHeartbeats 2000000 in
theorem copy_ {w X g cp isn n C} (h : CameAt w X g cp isn n C) : Calls Try.prog 32 #[.pointer (some ⟨X, 0, none⟩)] w (CopyP isn n C w) := by
  have c0 := h.c0
  have c1 := h.c1
  have hn := h.hn
  have hi := h.hisn
  have HC := Lib.hid (clone (h.gw (gw_drew w)))
  have H := Lib.hid h
  clear h
  go_enter Try.func32, Try.ntmps32
  go_wp2_with fail
  go_region_held3 (fun v => v.cell? ⟨X, 0, none⟩ = some (.int .u32 isn) ∧ v.cell? ⟨X, 1, none⟩ = some (.slice (some ⟨g, 0, none⟩) n cp)) (first | exact ⟨cell_gw (gw_undrew HG.out) c0, cell_gw (gw_undrew HG.out) c1⟩ | go_keep)
    ((go_at_call 45; refine HC.out.mono ?_; rintro e w' ⟨g', cp', rfl, hcp, hge, hg, cur, h1, h2⟩; have HG := Lib.hid hg; have HCP := Lib.hid hcp; have HGE := Lib.hid hge; have H1 := Lib.hid h1; have H2 := Lib.hid h2; clear hg hcp hge h1 h2))
  all_goals
    go_wp2_with fail
    go_ret
    exact ⟨w'.heap.size, g', cp', rfl, came_copy hn hi HCP.out H1.out H2.out _, HG.out.size, HGE.out, gw_trans (gw_undrew HG.out) (gw_alloc1 _ _)⟩
end Go.Proofs.Ytmjajepdlopkiaa.Sh
