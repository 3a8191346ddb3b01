/- Rows of drafts. -/
import Derived.Test.YtdaodpojcjbggaaRmJ
namespace Go.Proofs.Ytdaodpojcjbggaa.Rm
open Go.RowKit Go.Proofs.Ytdaodpojcjbggaa.Ln
set_option linter.unusedVariables false
set_option linter.unusedSimpArgs false

/-- Drafts that lie in memory. -/
def Drafts (w : World) (P : Option Addr) (n : Nat) (d : Nat → Int × Int) : Prop := n ≤ 9223372036854775807 ∧ (∀ i, i < n → (0 ≤ (d i).1 ∧ (d i).1 < 256) ∧ (0 ≤ (d i).2 ∧ (d i).2 < 256)) ∧
  (n = 0 ∨ ∃ b o, P = some ⟨b, o, none⟩ ∧ ∀ i, i < n → w.cell? ⟨b, o + i * 2, none⟩ = some (.int .u8 (d i).1) ∧ w.cell? ⟨b, o + i * 2 + 1, none⟩ = some (.int .u8 (d i).2))
def draft (d : Nat → Int × Int) (i : Nat) : M := ⟨(d i).1 % 30, 100 * (i : Int), 1 + (d i).2 % 30, 0⟩
def row (d : Nat → Int × Int) (k : Nat) : List M := (List.range k).map (draft d)
theorem row_len (d : Nat → Int × Int) (k : Nat) : (row d k).length = k := by simp [row]
theorem row_succ (d : Nat → Int × Int) (k : Nat) : row d (k + 1) = row d k ++ [draft d k] := by simp [row, List.range_succ]
theorem row_get (d : Nat → Int × Int) {k i : Nat} (h : i < (row d k).length) : (row d k)[i] = draft d i := by simp [row]
/-- Its block, if it has one, has been made since. -/
def Sn (w : World) (P : Option Addr) : Prop := ∀ k, blk P = some k → w.heap.size ≤ k
theorem app_sn {w W W1 : World} {P : Option Addr} {n C : Nat} {k l : List M} (hg : Gw w W) (hs : Sn w P) (hW : Gw W W1) (h : Own W1 60 4 (.slice P n C) n (flat k)) (t : TypeId) (x : Value) (m : Nat) (hx : Src Try.prog 4 66 x m (flat l) W1) (hn : n + m ≤ 100000) :
    ∃ v' w', (Builtin.append_ #[66, 66] t #[.slice P n C, x]).run Try.prog W1 = .ok v' w' ∧ ∃ P' C', v' = .slice P' (n + m) C' ∧ Own w' 60 4 (.slice P' (n + m) C') (n + m) (flat (k ++ l)) ∧ Sn w P' ∧ Gw w w' := by
  obtain ⟨P', cap', w', h1, h2, h3, h4⟩ := app_more h t x m hx hn
  rw [ownBlock_blk] at h3
  have hfr := Fr.of_grown h3
  have hg1 := gw_trans hg hW
  refine ⟨_, w', h1, P', cap', rfl, h2, fun j hj => ?_, Fr.trans hg1 hfr (fun x hx e => by have := hs x e; show False; omega)⟩
  rw [ownBlock_blk, ownBlock_blk, hj] at h4
  rcases h4 with e | e
  · exact hs j e.symm
  · have e := Option.some.inj e
    have := hg1.size; omega
theorem own_gw {w w' : World} {P : Option Addr} {n C : Nat} {xs : List Value} (h : Own w 60 4 (.slice P n C) n xs) (hg : Gw w w') : Own w' 60 4 (.slice P n C) n xs :=
  ⟨h.1, h.2.imp id fun ⟨g, cap, cur, hv, h1, h2, h3⟩ => ⟨g, cap, cur, hv, h1, (hg.block g (Array.getElem?_eq_some_iff.1 h2).1 (fun h => h)).trans h2, h3⟩⟩
theorem src_one' {W : World} {b c : Nat} {m : M} (h : MapAt W b 0 m) (hb : b < W.heap.size) (hc : 1 ≤ c ∧ c ≤ 9223372036854775807) : Src Try.prog 4 66 (.slice (some ⟨b, 0, none⟩) 1 c) 1 (flat [m]) W := by
  rw [flat_one]; exact src_one h hb hc
def MapsP (d : Nat → Int × Int) (k : Nat) (w : World) (e : Ending) (w' : World) : Prop := ∃ P C, e = .returned (.slice P k C) ∧ Row w' P k C (row d k) ∧ Sn w P ∧ Gw w w'
set_option maxRecDepth 100000 in
set_option maxHeartbeats 4000000 in
theorem maps_ {w : World} {P : Option Addr} {n C : Nat} {d : Nat → Int × Int} (h : Drafts w P n d) (q : Nat) (hq : q ≤ 40 ∧ q ≤ n ∧ (q = 40 ∨ q = n)) : Calls Try.prog 30 #[.slice P n C] w (MapsP d q w) := by
  have H := Lib.hid h
  have hnm := h.1
  clear h
  go_enter Try.func30, Try.ntmps30
  go_wp2_with fail
  go_loopw [3, 4] (fun v3 v4 wr => ∃ (k : Nat) (R : Option Addr) (E : Nat), k ≤ q ∧ v3 = .slice R k E ∧ v4 = .int .i64 k ∧ Hid (Own wr 60 4 (.slice R k E) k (flat (row d k)) ∧ Sn w R ∧ Gw w wr)) (fun _ v4 _ => 40 - (intOf v4).toNat)
  case atStart => exact ⟨0, none, 0, by omega, rfl, rfl, Lib.hid ⟨World.ownsRow_nil _ _ _ _, (fun k hk => by simp [blk] at hk), Fr.refl _ _⟩⟩
  case round =>
    obtain ⟨k, R, E, hk, rfl, rfl, HO⟩ := hrel
    by_cases hkq : k < q
    · have z0 : (k : Int) < n := by omega
      have z5 : (k : Int) < 40 := by omega
      obtain ⟨bb, o, rfl, hcell⟩ := H.out.2.2.resolve_left (by omega)
      obtain ⟨hd1, hd2⟩ := H.out.2.1 k (by omega)
      obtain ⟨c0, c1⟩ := hcell k (by omega)
      have HX0 := Lib.hid c0
      have HX1 := Lib.hid c1
      have c0 := cell_gw HO.out.2.2 c0
      have c1 := cell_gw HO.out.2.2 c1
      have HD : Hid (draft d k = ⟨(d k).1 % 30, 100 * (k : Int), 1 + (d k).2 % 30, 0⟩) := Lib.hid rfl
      generalize (d k).1 = a at *
      generalize (d k).2 = b at *
      obtain ⟨x, hx⟩ : ∃ x, a.tmod 30 = x := ⟨_, rfl⟩
      obtain ⟨y, hy⟩ : ∃ y, b.tmod 30 = y := ⟨_, rfl⟩
      have hx2 : a % 30 = x := by rw [← hx, Int.tmod_eq_emod_of_nonneg (by omega)]
      have hy2 : b % 30 = y := by rw [← hy, Int.tmod_eq_emod_of_nonneg (by omega)]
      have hxb : 0 ≤ x ∧ x < 30 := by omega
      have hyb : 0 ≤ y ∧ y < 30 := by omega
      have HD2 : Hid (draft d k = ⟨x, 100 * (k : Int), 1 + y, 0⟩) := by rw [← hx2, ← hy2]; exact HD
      clear hcell HD hx2 hy2
      have w1 : IntKind.i64.wrap x = x := IntWalk.i64_in _ (by omega)
      have w2 : IntKind.i64.wrap y = y := IntWalk.i64_in _ (by omega)
      have w3 : IntKind.i64.wrap (100 * (k : Int)) = 100 * (k : Int) := IntWalk.i64_in _ (by omega)
      have w4 : IntKind.i64.wrap (1 + y) = 1 + y := IntWalk.i64_in _ (by omega)
      go_wp2_with fail
      go_region_held3 (fun v => v.cell? ⟨bb, o + k * 2, none⟩ = some (.int .u8 a) ∧ v.cell? ⟨bb, o + k * 2 + 1, none⟩ = some (.int .u8 b))
        (first | exact ⟨cell_gw HG2.out HX0.out, cell_gw HG2.out HX1.out⟩ | exact ⟨cell_gw HGA.out c0, cell_gw HGA.out c1⟩ | go_keep)
        (first | (go_at_call 38; refine (m_ _ _ _ _).mono ?_; rintro e w5 ⟨rfl, hg5⟩; have HGA := Lib.hid (gw_undrew hg5); have HG5 := Lib.hid (gw_trans (gw_undrew hg5) (gw_alloc1 w5 (.cells #[.int .i64 x, .int .i64 (100 * (k : Int)), .int .i64 (1 + y), .int .u16 0] 60))); clear hg5) | (refine step_app (by rfl) (.tmp 15) (.tmp 34) (by rfl) (.slice R k E) _ (by rfl) (by rfl) _ (app_sn HO.out.2.2 HO.out.2.1 HG5.out (own_gw HO.out.1 HG5.out) 66 _ 1 (src_one' (m := ⟨x, 100 * (k : Int), 1 + y, 0⟩) (c := 1) (map_new w5 ⟨x, 100 * (k : Int), 1 + y, 0⟩ w5.heap.size rfl 60) (by rw [World.size_alloc]; omega) (by omega)) (by omega)) ?_; rintro v2 w6 ⟨R2, E2, rfl, ho2, hs2, hg2⟩; have HO2 := Lib.hid ho2; have HS2 := Lib.hid hs2; have HG2 := Lib.hid hg2; clear ho2 hs2 hg2))
      all_goals
        go_wp2_with fail
        go_roundw
        case rel => exact ⟨k + 1, R2, E2, by omega, rfl, by go_num, Lib.hid ⟨by rw [row_succ, HD2.out]; exact HO2.out, HS2.out, HG2.out⟩⟩
        case measure => simp [intOf]; omega
    · obtain rfl : k = q := by omega
      rcases hq.2.2 with e | e
      · have z5 : ¬ (k : Int) < 40 := by omega
        clear e hq
        go_wp2_with fail
        all_goals first | (go_ret; exact ⟨R, E, rfl, ⟨HO.out.1, row_len d k⟩, HO.out.2.1, HO.out.2.2⟩) | (exfalso; omega)
      · have z0 : ¬ (k : Int) < n := by omega
        clear e hq
        go_wp2_with fail
        all_goals first | (go_ret; exact ⟨R, E, rfl, ⟨HO.out.1, row_len d k⟩, HO.out.2.1, HO.out.2.2⟩) | (exfalso; omega)
end Go.Proofs.Ytdaodpojcjbggaa.Rm
