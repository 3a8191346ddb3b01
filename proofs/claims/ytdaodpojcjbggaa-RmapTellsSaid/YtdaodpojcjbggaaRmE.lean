/- At, Cut. -/
import Derived.Test.YtdaodpojcjbggaaRmD
namespace Go.Proofs.Ytdaodpojcjbggaa.Rm
open Go.RowKit Go.Proofs.Ytdaodpojcjbggaa.Ln
set_option linter.unusedVariables false
set_option linter.unusedSimpArgs false

theorem gw_set {w W : World} (h : Gw w W) (p : Addr) (hp : w.heap.size ≤ p.block) (v : Value) : Gw w (W.setCell p v) := Fr.trans h (Fr.setCell (S := fun k => k = p.block) (Fr.refl _ _) p v rfl) (fun x hx e => by show False; omega)
/-- Four cells stored anew. -/
theorem read4 {W : World} {Z : Nat} {u0 u1 u2 u3 : Value} (h0 : W.cell? ⟨Z, 0, none⟩ = some u0) (h1 : W.cell? ⟨Z, 1, none⟩ = some u1) (h2 : W.cell? ⟨Z, 2, none⟩ = some u2) (h3 : W.cell? ⟨Z, 3, none⟩ = some u3) (v0 v1 v2 v3 : Value) :
    ((((W.setCell ⟨Z, 0, none⟩ v0).setCell ⟨Z, 1, none⟩ v1).setCell ⟨Z, 2, none⟩ v2).setCell ⟨Z, 3, none⟩ v3).cell? ⟨Z, 0, none⟩ = some v0 ∧
    ((((W.setCell ⟨Z, 0, none⟩ v0).setCell ⟨Z, 1, none⟩ v1).setCell ⟨Z, 2, none⟩ v2).setCell ⟨Z, 3, none⟩ v3).cell? ⟨Z, 1, none⟩ = some v1 ∧
    ((((W.setCell ⟨Z, 0, none⟩ v0).setCell ⟨Z, 1, none⟩ v1).setCell ⟨Z, 2, none⟩ v2).setCell ⟨Z, 3, none⟩ v3).cell? ⟨Z, 2, none⟩ = some v2 ∧
    ((((W.setCell ⟨Z, 0, none⟩ v0).setCell ⟨Z, 1, none⟩ v1).setCell ⟨Z, 2, none⟩ v2).setCell ⟨Z, 3, none⟩ v3).cell? ⟨Z, 3, none⟩ = some v3 := by
  have oth : ∀ (V : World) (i j : Nat) (v : Value), i ≠ j → (V.setCell ⟨Z, i, none⟩ v).cell? ⟨Z, j, none⟩ = V.cell? ⟨Z, j, none⟩ := fun V i j v h => World.cell?_setCell_other V ⟨Z, i, none⟩ ⟨Z, j, none⟩ v (by first | (simp; done) | (simp; omega))
  refine ⟨?_, ?_, ?_, ?_⟩
  · rw [oth _ 3 0 _ (by omega), oth _ 2 0 _ (by omega), oth _ 1 0 _ (by omega)]; exact setCell_cell_same _ h0
  · rw [oth _ 3 1 _ (by omega), oth _ 2 1 _ (by omega)]; exact setCell_cell_same _ ((oth _ 0 1 _ (by omega)).trans h1)
  · rw [oth _ 3 2 _ (by omega)]; exact setCell_cell_same _ ((oth _ 1 2 _ (by omega)).trans ((oth _ 0 2 _ (by omega)).trans h2))
  · exact setCell_cell_same _ ((oth _ 2 3 _ (by omega)).trans ((oth _ 1 3 _ (by omega)).trans ((oth _ 0 3 _ (by omega)).trans h3)))
def AtP (m : M) (is : Bool) (w : World) (e : Ending) (w' : World) : Prop := e = .returned (.tuple #[agg m, .bool is]) ∧ Gw w w'
theorem atNil (a : Int) (w : World) : Calls Try.prog 34 #[.pointer none, .int .i64 a] w (AtP ⟨0, 0, 0, 0⟩ false w) := by
  go_enter Try.func34, Try.ntmps34
  go_wp2
  exact bodyPost_ret (v := .tuple #[.agg #[.int .i64 0, .int .i64 0, .int .i64 0, .int .u16 0], .bool false]) (by simp [results, Try.results34, go_sem]) rfl ⟨rfl, gw_alloc1 _ _⟩
set_option maxRecDepth 100000 in
set_option maxHeartbeats 2000000 in
theorem at_ {w0 w H X r b l} (h : TS w0 w H X r b l) (a : Int) : Calls Try.prog 34 #[.pointer (some ⟨X, 0, none⟩), .int .i64 a] w (AtP (get l a) (has l a) w) := by
  obtain ⟨_, _, _, A, C, T, _⟩ := h
  have hlen := T.ok.len
  obtain ⟨W, hW⟩ : ∃ W, w.alloc (.cells #[.int .i64 0, .int .i64 0, .int .i64 0, .int .u16 0] 60) = W := ⟨_, rfl⟩
  have hg : Gw w W := by rw [← hW]; exact gw_alloc1 _ _
  have hz : w.heap.size < W.heap.size := by rw [← hW, World.size_alloc]; omega
  have z0 : W.cell? ⟨w.heap.size, 0, none⟩ = some (.int .i64 0) := by rw [← hW, World.cell?_alloc_new]; rfl
  have z1 : W.cell? ⟨w.heap.size, 1, none⟩ = some (.int .i64 0) := by rw [← hW, World.cell?_alloc_new]; rfl
  have z2 : W.cell? ⟨w.heap.size, 2, none⟩ = some (.int .i64 0) := by rw [← hW, World.cell?_alloc_new]; rfl
  have z3 : W.cell? ⟨w.heap.size, 3, none⟩ = some (.int .u16 0) := by rw [← hW, World.cell?_alloc_new]; rfl
  have TW := T.gw hg
  have HF := Lib.hid (find TW a)
  have HT := Lib.hid TW
  have hb : W.heap[w.heap.size]? = some (.cells #[.int .i64 0, .int .i64 0, .int .i64 0, .int .u16 0] 60) := by rw [← hW]; exact heap_alloc_new w _
  have HB := Lib.hid hb
  have HG := Lib.hid hg
  have HZ := Lib.hid hz
  have HWW := Lib.hid hW
  cases hh : has l a with
  | false =>
    have hget := get_none hh
    rw [hget]
    have HH := Lib.hid hh
    clear hh hget T TW hb hg hz hW
    go_enter Try.func34, Try.ntmps34
    go_wp2_with ((go_at_call 50; rw [HWW.out]; refine HF.out.mono ?_; rw [show FindP l a W = fun e w' => e = .returned (.tuple #[.int .i64 (pos l a), .bool (has l a)]) ∧ Gw W w' from rfl, HH.out]; rintro e w' ⟨rfl, hg2⟩; have e0 := cell_gw hg2 z0; have e1 := cell_gw hg2 z1; have e2 := cell_gw hg2 z2; have e3 := cell_gw hg2 z3; have HG2 := Lib.hid hg2; have hf2 : ∀ j, w'.frozen? ⟨w.heap.size, j, none⟩ = false := (fun j => (World.frozen?_of_block (a := ⟨w.heap.size, j, none⟩) (hg2.block _ HZ.out (fun h => h))).trans (by unfold World.frozen?; simp only [HB.out]; simp)); have f0 := hf2 0; have f1 := hf2 1; have f2 := hf2 2; have f3 := hf2 3; clear hg2 hf2))
    obtain ⟨x0, x1, x2, x3⟩ := read4 e0 e1 e2 e3 (.int .i64 0) (.int .i64 0) (.int .i64 0) (.int .u16 0)
    exact bodyPost_ret (v := .tuple #[agg ⟨0, 0, 0, 0⟩, .bool false]) (by simp [results, Try.results34, go_sem, x0, x1, x2, x3]) rfl ⟨rfl, gw_set (gw_set (gw_set (gw_set (gw_trans HG.out HG2.out) ⟨w.heap.size, 0, none⟩ (Nat.le_refl _) _) ⟨w.heap.size, 1, none⟩ (Nat.le_refl _) _) ⟨w.heap.size, 2, none⟩ (Nat.le_refl _) _) ⟨w.heap.size, 3, none⟩ (Nat.le_refl _) _⟩
  | true =>
    obtain ⟨hp, hpa⟩ := (has_iff T.ok.srt a).1 hh
    have hget : get l a = l[pos l a] := by
      have h1 := get_of T.ok.srt hp
      rw [hpa] at h1
      exact h1
    rw [hget]
    obtain ⟨g, off, rfl, m0, m1, m2, m3⟩ := TW.maps.at' hp
    have c2 := TW.c2
    obtain ⟨n, hn⟩ : ∃ n, l.length = n := ⟨_, rfl⟩
    have hpn : pos l a < n := by omega
    rw [hn] at c2 hlen
    have HH := Lib.hid hh
    obtain ⟨m, hm⟩ : ∃ m, l[pos l a] = m := ⟨_, rfl⟩
    rw [hm] at m0 m1 m2 m3 ⊢
    obtain ⟨i, hi⟩ : ∃ i, pos l a = i := ⟨_, rfl⟩
    have HI := Lib.hid hi
    rw [hi] at m0 m1 m2 m3 hpn
    have hz5 : (i : Int) < n := by omega
    clear hh hget T TW hb hg hz hW hp hpa hm hn hi
    go_enter Try.func34, Try.ntmps34
    go_wp2_with ((go_at_call 50; rw [HWW.out]; refine HF.out.mono ?_; rw [show FindP l a W = fun e w' => e = .returned (.tuple #[.int .i64 (pos l a), .bool (has l a)]) ∧ Gw W w' from rfl, HH.out, HI.out]; rintro e w' ⟨rfl, hg2⟩; have e0 := cell_gw hg2 z0; have e1 := cell_gw hg2 z1; have e2 := cell_gw hg2 z2; have e3 := cell_gw hg2 z3; have HG2 := Lib.hid hg2; have hf2 : ∀ j, w'.frozen? ⟨w.heap.size, j, none⟩ = false := (fun j => (World.frozen?_of_block (a := ⟨w.heap.size, j, none⟩) (hg2.block _ HZ.out (fun h => h))).trans (by unfold World.frozen?; simp only [HB.out]; simp)); have f0 := hf2 0; have f1 := hf2 1; have f2 := hf2 2; have f3 := hf2 3; have q0 := cell_gw hg2 m0; have q1 := cell_gw hg2 m1; have q2 := cell_gw hg2 m2; have q3 := cell_gw hg2 m3; have d2 := cell_gw hg2 c2; clear hg2 hf2 c2 m0 m1 m2 m3 z0 z1 z2 z3))
    have hgw : Gw w w' := gw_trans HG.out HG2.out
    have s4 : ∀ W', Gw w W' → ∀ v0 v1 v2 v3, Gw w ((((W'.setCell ⟨w.heap.size, 0, none⟩ v0).setCell ⟨w.heap.size, 1, none⟩ v1).setCell ⟨w.heap.size, 2, none⟩ v2).setCell ⟨w.heap.size, 3, none⟩ v3) := fun W' h v0 v1 v2 v3 =>
      gw_set (gw_set (gw_set (gw_set h ⟨w.heap.size, 0, none⟩ (Nat.le_refl _) _) ⟨w.heap.size, 1, none⟩ (Nat.le_refl _) _) ⟨w.heap.size, 2, none⟩ (Nat.le_refl _) _) ⟨w.heap.size, 3, none⟩ (Nat.le_refl _) _
    obtain ⟨x0, x1, x2, x3⟩ := read4 e0 e1 e2 e3 (.int .i64 m.at') (.int .i64 m.off) (.int .i64 m.len) (.int .u16 m.sum)
    obtain ⟨y0, y1, y2, y3⟩ := read4 x0 x1 x2 x3 (.int .i64 m.at') (.int .i64 m.off) (.int .i64 m.len) (.int .u16 m.sum)
    exact bodyPost_ret (v := .tuple #[agg m, .bool true]) (by simp [results, Try.results34, go_sem, y0, y1, y2, y3]) rfl ⟨rfl, s4 _ (s4 _ hgw _ _ _ _) _ _ _ _⟩

/-- What Put and Cut leave: the table behind it; nothing else that lay has turned. -/
def TabP (w0 w : World) (H : List Nat) (X : Nat) (r b : Int) (l : List M) (ret : Ending) (e : Ending) (w' : World) : Prop := e = ret ∧ TS w0 w' H X r b l ∧ Fx X w w'
theorem heap_setCell_other (w : World) (p : Addr) (v : Value) (k : Nat) (hk : k ≠ p.block) : (w.setCell p v).heap[k]? = w.heap[k]? := Below.heap_setCell w p v k hk
/-- A table whose begin and row have been stored anew. -/
theorem lay_tab {w0 w W : World} {H : List Nat} {X : Nat} {r b : Int} {A : Option Addr} {C : Nat} {l : List M} (hin : X ∈ H) (h0 : w0.heap.size ≤ X) (hH : ∀ k ∈ H, k < w.heap.size) (T : TabAt w X r b A C l) (hf : Fx X w W)
    {b' : Int} {P : Option Addr} {n C' : Nat} {k : List M} (hn : k.length = n) (c0 : W.cell? ⟨X, 0, none⟩ = some (.int .i64 r)) (c1 : W.cell? ⟨X, 1, none⟩ = some (.int .i64 b')) {u : Value} (c2 : W.cell? ⟨X, 2, none⟩ = some u) (f1 : W.frozen? ⟨X, 1, none⟩ = false) (f2 : W.frozen? ⟨X, 2, none⟩ = false)
    (hm : Maps W P n C' k) (hP : ∀ j, blk P = some j → j ∉ H ∧ w0.heap.size ≤ j) (ok : Ok r b' k) : TS w0 (W.setCell ⟨X, 2, none⟩ (.slice P n C')) H X r b' k ∧ Fx X w (W.setCell ⟨X, 2, none⟩ (.slice P n C')) := by
  subst hn
  have hb : blk P ≠ some X := fun e => (hP X e).1 hin
  refine ⟨⟨hin, h0, fun j hj => ?_, P, C', ⟨(World.cell?_setCell_other W ⟨X, 2, none⟩ ⟨X, 0, none⟩ _ (by simp)).trans c0, (World.cell?_setCell_other W ⟨X, 2, none⟩ ⟨X, 1, none⟩ _ (by simp)).trans c1, setCell_cell_same _ c2, by rw [World.frozen?_setCell]; exact f1, by rw [World.frozen?_setCell]; exact f2, ?_, hb, ok⟩, hP⟩, Fr.setCell hf _ _ rfl⟩
  · have := hH j hj; have := hf.size; simp [World.setCell]; omega
  · exact hm.keep (by simp [World.setCell]) (fun j hj _ => heap_setCell_other _ _ _ _ (fun e => hb (by rw [hj]; exact congrArg some e)))

set_option maxRecDepth 100000 in
set_option maxHeartbeats 2000000 in
theorem cut_ {w0 w H X r b l} (h : TS w0 w H X r b l) (n : Int) (hn : -9223372036854775808 ≤ n ∧ n < 9223372036854775808) : Calls Try.prog 36 #[.pointer (some ⟨X, 0, none⟩), .int .i64 n] w (TabP w0 w H X r (cutB b n) (l.drop (pos l (cutB b n))) (.returned (.tuple #[]))) := by
  obtain ⟨hin, h0, hH, A, C, T, hA⟩ := h
  have hlen := T.ok.len
  have hX := T.ltX
  have c0 := T.c0
  have c1 := T.c1
  have c2 := T.c2
  have f1 := T.f1
  have f2 := T.f2
  have hb := T.ok.b
  have hok := T.ok.cut n
  obtain ⟨B, hB⟩ : ∃ B, cutB b n = B := ⟨_, rfl⟩
  rw [hB] at hok ⊢
  have hBb := hok.b
  have HOK := Lib.hid hok
  have HT := Lib.hid T
  have HH := Lib.hid hH
  have HA := Lib.hid hA
  clear T hH hA hok
  -- behind the first store
  obtain ⟨W, hW⟩ : ∃ W, w.setCell ⟨X, 1, none⟩ (.int .i64 B) = W := ⟨_, rfl⟩
  have hfW : Fx X w W := by rw [← hW]; exact Fr.setCell (Fr.refl _ _) _ _ rfl
  have d0 : W.cell? ⟨X, 0, none⟩ = some (.int .i64 r) := by rw [← hW]; exact (World.cell?_setCell_other w ⟨X, 1, none⟩ ⟨X, 0, none⟩ _ (by simp)).trans c0
  have d1 : W.cell? ⟨X, 1, none⟩ = some (.int .i64 B) := by rw [← hW]; exact setCell_cell_same _ c1
  have d2 : W.cell? ⟨X, 2, none⟩ = some (.slice A l.length C) := by rw [← hW]; exact (World.cell?_setCell_other w ⟨X, 1, none⟩ ⟨X, 2, none⟩ _ (by simp)).trans c2
  have e1 : W.frozen? ⟨X, 1, none⟩ = false := by rw [← hW, World.frozen?_setCell]; exact f1
  have e2 : W.frozen? ⟨X, 2, none⟩ = false := by rw [← hW, World.frozen?_setCell]; exact f2
  have hmW : Maps W A l.length C l := HT.out.maps.fx hfW HT.out.na
  have HFD := Lib.hid (findC d2 hmW HT.out.ok.srt hlen B)
  obtain ⟨q, hq⟩ : ∃ q : Int, (if 2305843009213693952 < n then (2305843009213693952 : Int) else n) = q := ⟨_, rfl⟩
  have hB2 : (if b < q then q else b) = B := by
    rw [← hB]; unfold cutB; rw [← hq]; split <;> split <;> omega
  have HW := Lib.hid hW
  obtain ⟨m, hm⟩ : ∃ m, l.length = m := ⟨_, rfl⟩
  obtain ⟨i, hi⟩ : ∃ i, pos l B = i := ⟨_, rfl⟩
  have him : i ≤ m := by rw [← hi, ← hm]; exact pos_le _ _
  have hnC : m ≤ C := by rw [← hm]; exact HT.out.maps.2.1
  have hCm := hmW.2.2.1
  have HI := Lib.hid hi
  have HM := Lib.hid hm
  have HMW := Lib.hid hmW
  have HFW := Lib.hid hfW
  rw [hm] at c2 d2 hlen
  clear hB hW hm hi hmW hfW hn
  have hrest : ∃ (P : Option Addr) (C' : Nat), (∀ V : World, (Instr.slice 66 (.slice A m C) (some (.int .i64 i)) none none).run Try.prog V = .ok (.slice P (m - i) C') V) ∧ (∀ V, Gw W V → Maps V P (m - i) C' (l.drop i)) ∧ (∀ k, blk P = some k → blk A = some k) := by
    have hm4 := HMW.out
    rw [HM.out] at hm4
    rcases hm4.2.2.2 with ⟨rfl, rfl, rfl⟩ | ⟨g, off, rfl, _⟩
    · obtain rfl : i = 0 := by omega
      exact ⟨none, 0, fun V => by kernel_rfl, fun V hV => ⟨by rw [List.length_drop, HM.out], by omega, by omega, .inl ⟨rfl, by omega, rfl⟩⟩, fun k h => h⟩
    · by_cases hCi : C = i
      · refine ⟨some ⟨g, off, none⟩, 0, fun V => ?_, fun V hV => ⟨by rw [List.length_drop, HM.out], by omega, by omega, ?_⟩, fun k h => h⟩
        · obtain rfl : m = i := by omega
          subst hCi
          clear HMW HM HI HFD HT HW HH HA HFW HOK hm4 c0 c1 c2 d0 d1 d2
          have g1 : (0 : Int) ≤ (C : Int) := by omega
          go_simp
        · rcases (hm4.gw hV).2.2.2 with ⟨e, _⟩ | ⟨g', off', e, hg, _⟩
          · cases e
          · cases e
            exact .inr ⟨g, off, rfl, hg, fun j hj => by rw [List.length_drop, HM.out] at hj; omega⟩
      · refine ⟨some ⟨g, off + i * 4, none⟩, C - i, fun V => ?_, fun V hV => (hm4.gw hV).rest i him, fun k h => h⟩
        clear HMW HM HI HFD HT HW HH HA HFW HOK hm4 c0 c1 c2 d0 d1 d2
        have g1 : (0 : Int) ≤ (i : Int) := by omega
        have g2 : (i : Int) ≤ m := by omega
        have g3 : ¬ (m : Int) < i := by omega
        have g4 : (m : Int) ≤ C := by omega
        have g5 : ¬ (C : Int) < m := by omega
        go_simp
  obtain ⟨P, C', hsl, hmp, hPA⟩ := hrest
  have HMP := Lib.hid hmp
  have HPA := Lib.hid hPA
  clear hmp hPA
  go_enter Try.func36, Try.ntmps36
  go_wp2_with ((go_at_call 50; rw [HW.out]; refine HFD.out.mono ?_; rintro e w' ⟨rfl, hg2⟩; rw [HI.out]; have x2 := cell_gw hg2 d2; have z2 : w'.frozen? ⟨X, 2, none⟩ = false := (World.frozen?_of_block (a := ⟨X, 2, none⟩) (hg2.block _ (World.block_lt_of_cell? _ _ d2) (fun h => h))).trans e2; have HG2 := Lib.hid hg2; clear hg2))
  go_end0
  have hfx : Fx X w w' := Fr.trans HFW.out HG2.out (fun _ _ h => h.elim)
  obtain ⟨t1, t2⟩ := lay_tab (P := P) (n := m - i) (C' := C') (k := l.drop (pos l B)) hin h0 HH.out HT.out hfx (by rw [List.length_drop, HM.out, HI.out]) (cell_gw HG2.out d0) (cell_gw HG2.out d1) x2
    ((World.frozen?_of_block (a := ⟨X, 1, none⟩) (HG2.out.block _ (World.block_lt_of_cell? _ _ d1) (fun h => h))).trans e1) z2 (by rw [HI.out]; exact HMP.out _ HG2.out) (fun k hk => HA.out k (HPA.out k hk)) HOK.out
  exact ⟨rfl, t1, t2⟩
end Go.Proofs.Ytdaodpojcjbggaa.Rm
