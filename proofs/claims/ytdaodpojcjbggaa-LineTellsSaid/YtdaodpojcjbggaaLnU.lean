/- The walk of LineTells. -/
import Derived.Test.YtdaodpojcjbggaaLnT
import Derived.Deep.RegionWith
import Derived.Deep.RegionHeld3
import Derived.Deep.DeepCutAuto
import Derived.Deep.LoopGhost
namespace Go.Proofs.Ytdaodpojcjbggaa.Ln
open Go.RowKit
set_option linter.unusedVariables false
set_option linter.unusedSimpArgs false

/-- An act that lies in memory. -/
def ActAt (w : World) (b o : Nat) : Prop := ∃ (wh tw i m : Int) (S : Option Addr) (n c : Nat) (l : List ByteArray),
  (w.cell? ⟨b, o, none⟩ = some (.int .u8 wh) ∧ w.cell? ⟨b, o + 1, none⟩ = some (.int .u8 tw) ∧ w.cell? ⟨b, o + 2, none⟩ = some (.int .i8 i) ∧ w.cell? ⟨b, o + 3, none⟩ = some (.int .i8 m) ∧ w.cell? ⟨b, o + 4, none⟩ = some (.slice S n c)) ∧
  (0 ≤ wh ∧ wh < 256) ∧ (0 ≤ tw ∧ tw < 256) ∧ (-128 ≤ i ∧ i < 128) ∧ (-128 ≤ m ∧ m < 128) ∧ Strs w S n l
def Acts (w : World) (P : Option Addr) (n : Nat) : Prop := n ≤ 9223372036854775807 ∧ (n = 0 ∨ ∃ b o, P = some ⟨b, o, none⟩ ∧ ∀ i, i < n → ActAt w b (o + i * 5))
theorem turnL_len (l : List ByteArray) (i m : Int) (ys : List ByteArray) : (turnL l i m ys).length ≤ l.length + ys.length := by
  unfold turnL; split
  · simp; omega
  · omega
theorem onA_len {tw : Int} {a a' : List ByteArray} {n : Nat} (h : a.length ≤ n) (h' : a'.length ≤ n) : (onA tw a a').length ≤ n := by unfold onA; split <;> assumption
theorem onB_len {tw : Int} {a a' : List ByteArray} {n : Nat} (h : a.length ≤ n) (h' : a'.length ≤ n) : (onB tw a a').length ≤ n := by unfold onB; split <;> assumption
theorem ll_alike {w0 : World} {N : Nat → Prop} {w : World} {X a b Y} (h : LL w0 N w X a b Y a b) : Calls Try.prog 13 #[.pointer (some ⟨X, 0, none⟩), .pointer (some ⟨Y, 0, none⟩)] w fun e w' => e = .returned (.bool true) ∧ LL w0 N w' X a b Y a b := by
  have h0 := h
  obtain ⟨A, C, B, D, A', C', B', D', L, M, _⟩ := h
  exact (alike L M).mono fun e w' ⟨he, hg⟩ => ⟨he, h0.gw hg⟩
theorem cell_aside {w0 : World} {N : Nat → Prop} {w w' : World} {p : Addr} {v : Value} (hf : Fr (Out w0 N) w w') (hn : N p.block) (h : w.cell? p = some v) : w'.cell? p = some v := cell_fr hf (fun e => e.2 hn) h

theorem strs_aside {w0 : World} {N : Nat → Prop} {w w' : World} {A : Option Addr} {n : Nat} {xs : List ByteArray} (hf : Fr (Out w0 N) w w') (hn : ∀ k, blk A = some k → N k) (h : Strs w A n xs) : Strs w' A n xs :=
  ⟨h.1, h.2.1, h.2.2.1, h.2.2.2.imp id fun ⟨b, off, e, hc⟩ => ⟨b, off, e, fun i hi => cell_aside hf (hn b (by rw [e]; rfl)) (hc i hi)⟩⟩
theorem aside_trans {w0 : World} {N : Nat → Prop} {a b c : World} (h : Fr (Out w0 N) a b) (k : Fr (Out w0 N) b c) : Fr (Out w0 N) a c := Fr.trans h k (fun _ _ h => h)
theorem aside_gw {w0 : World} {N : Nat → Prop} {a b : World} (h : Gw a b) : Fr (Out w0 N) a b := h.mono (fun _ h => h.elim)

set_option maxRecDepth 100000 in
set_option maxHeartbeats 8000000 in
theorem lineTells (P : Option Addr) (n c : Nat) (w : World) (h : Acts w P n) : Calls Try.prog 3 #[.slice P n c] w fun e w' => e = .returned (.bool true) ∧ Gw w w' := by
  have hnm := h.1
  have H := Lib.hid h
  clear h
  go_enter Try.func3, Try.ntmps3
  go_wp2_with (first | (go_at_call 12; refine (st_new _ (Fr.refl _ _)).mono ?_; rintro e w1 ⟨X, rfl, hst⟩; have HLL := Lib.hid (LL.start hst 29); clear hst) | (go_at_call 13; refine (ll_alike HLL.out).mono ?_; rintro e w2 ⟨rfl, hll⟩; clear HLL; have HLL := Lib.hid hll; clear hll))
  generalize w1.heap.size = Y at *
  go_loopg [5] 50 (fun kx v5 wr => ∃ (k : Nat) (a b : List ByteArray), k ≤ n ∧ k ≤ 50 ∧ 50 - k ≤ kx ∧ v5 = .int .i64 k ∧ Hid (a.length ≤ 5 * k ∧ b.length ≤ 5 * k ∧ LL w (fun _ => False) wr X a b Y a b))
  case atStart => exact ⟨0, [], [], by omega, by omega, by omega, rfl, Lib.hid ⟨by simp, by simp, HLL.out⟩⟩
  case round =>
    obtain ⟨k, a, b, hk, hk5, hkx, rfl, HO⟩ := hrel
    clear HLL
    by_cases hkn : k < n
    · have z0 : (k : Int) < n := by omega
      by_cases h5 : k < 50
      · have z5 : (k : Int) < 50 := by omega
        obtain ⟨bb, o, rfl, hact⟩ := H.out.2.resolve_left (by omega)
        obtain ⟨wh, tw, i, m, S, ns, cs, l, ⟨c0, c1, c2, c3, c4⟩, hwh, hto, hi, hm, hS⟩ := hact k hkn
        have c0 := cell_gw HO.out.2.2.g c0
        have c1 := cell_gw HO.out.2.2.g c1
        have c2 := cell_gw HO.out.2.2.g c2
        have c3 := cell_gw HO.out.2.2.g c3
        have c4 := cell_gw HO.out.2.2.g c4
        have HS := Lib.hid hS
        clear hact hS
        obtain ⟨t, ht⟩ : ∃ t : Int, tw.tmod 4 = t := ⟨_, rfl⟩
        have ht4 : 0 ≤ t ∧ t < 4 := by rw [← ht, Int.tmod_eq_emod_of_nonneg (by omega)]; omega
        have htw : IntKind.i64.wrap t = t := IntWalk.i64_in _ (by omega)
        have htv : IntKind.i64.wrap (t - 1) = t - 1 := IntWalk.i64_in _ (by omega)
        have d0 : (wr.alloc (.cells #[.int .u8 wh, .int .u8 tw, .int .i8 i, .int .i8 m, .slice S ns cs] 33)).cell? ⟨wr.heap.size, 0, none⟩ = some (.int .u8 wh) := by rw [World.cell?_alloc_new]; rfl
        have d1 : (wr.alloc (.cells #[.int .u8 wh, .int .u8 tw, .int .i8 i, .int .i8 m, .slice S ns cs] 33)).cell? ⟨wr.heap.size, 1, none⟩ = some (.int .u8 tw) := by rw [World.cell?_alloc_new]; rfl
        have d2 : (wr.alloc (.cells #[.int .u8 wh, .int .u8 tw, .int .i8 i, .int .i8 m, .slice S ns cs] 33)).cell? ⟨wr.heap.size, 2, none⟩ = some (.int .i8 i) := by rw [World.cell?_alloc_new]; rfl
        have d3 : (wr.alloc (.cells #[.int .u8 wh, .int .u8 tw, .int .i8 i, .int .i8 m, .slice S ns cs] 33)).cell? ⟨wr.heap.size, 3, none⟩ = some (.int .i8 m) := by rw [World.cell?_alloc_new]; rfl
        have d4 : (wr.alloc (.cells #[.int .u8 wh, .int .u8 tw, .int .i8 i, .int .i8 m, .slice S ns cs] 33)).cell? ⟨wr.heap.size, 4, none⟩ = some (.slice S ns cs) := by rw [World.cell?_alloc_new]; rfl
        have hg1 := Lib.hid (gw_alloc1 wr (.cells #[.int .u8 wh, .int .u8 tw, .int .i8 i, .int .i8 m, .slice S ns cs] 33))
        have hz1 : wr.heap.size < (wr.alloc (.cells #[.int .u8 wh, .int .u8 tw, .int .i8 i, .int .i8 m, .slice S ns cs] 33)).heap.size := by rw [World.size_alloc]; omega
        have HZ1 := Lib.hid hz1
        clear hz1
        go_upto_region 8 with fail
        clear c0 c1 c2 c3 c4
        generalize wr.alloc (.cells #[.int .u8 wh, .int .u8 tw, .int .i8 i, .int .i8 m, .slice S ns cs] 33) = W1 at *
        obtain ⟨Z, hZ⟩ : ∃ Z, wr.heap.size = Z := ⟨_, rfl⟩
        rw [hZ] at d0 d1 d2 d3 d4 HZ1
        rw [hZ]
        have HZ := Lib.hid hZ
        clear hZ
        go_cut [7, 8] (fun v7 v8 wx => v7 = .int .i64 (t - 1) ∧ ∃ (S3 : Option Addr) (m3 E3 : Nat), v8 = .slice S3 m3 E3 ∧ Hid (Strs wx S3 m3 (shortL l) ∧ m3 ≤ 5 ∧ (S3 = none → shortL l = []) ∧ Gw W1 wx ∧ (∀ k, blk S3 = some k → W1.heap.size ≤ k ∧ k < wx.heap.size)))
        case first =>
          go_region_with ((go_at_call 14; refine (short_ (HS.out.gw ((gw_trans HO.out.2.2.g hg1.out).drew))).mono ?_; rintro e w3 ⟨S3, m3, E3, rfl, hs3, hm3, hn3, hg3d, hb3⟩; have hg3 := gw_undrew hg3d; clear hg3d; have HS3 := Lib.hid hs3; have HN3 := Lib.hid hn3; have HG3 := Lib.hid hg3; have HB3 := Lib.hid hb3; have e0 := cell_gw hg3 d0; have e1 := cell_gw hg3 d1; have e2 := cell_gw hg3 d2; have e3 := cell_gw hg3 d3; clear hs3 hn3 hg3 hb3))
          all_goals (go_wp2_with fail; go_meet; exact ⟨rfl, S3, m3, E3, rfl, Lib.hid ⟨HS3.out, hm3, HN3.out, HG3.out, HB3.out⟩⟩)
        case rest =>
          obtain ⟨rfl, S3, m3, E3, rfl, HCUT⟩ := hcut
          obtain ⟨hs3, hm3, hn3, hg3, hb3⟩ := HCUT.out
          have HS3 := Lib.hid hs3
          have HN3 := Lib.hid hn3
          have HG3 := Lib.hid hg3
          have HB3 := Lib.hid hb3
          clear hs3 hn3 hb3 HCUT
          obtain ⟨ha5, hb5, hll⟩ := HO.out
          have hLL := hll.aside (gw_trans hg1.out HG3.out)
          have hNZ : wr.heap.size ≤ Z ∧ Z < wc.heap.size := ⟨by rw [HZ.out]; omega, by have := HZ1.out; have := HG3.out.size; omega⟩
          have hNS : ∀ k, blk S3 = some k → wr.heap.size ≤ k ∧ k < wc.heap.size := fun k hk => ⟨Nat.le_trans hg1.out.size (HB3.out k hk).1, (HB3.out k hk).2⟩
          have HNS := Lib.hid hNS
          have HSZ : Hid (∀ s ∈ shortL l, s.size ≤ 9223372036854775807) := Lib.hid (fun s h => by have := shortL_size h; omega)
          have HL5 : Hid ((shortL l).length ≤ 5) := Lib.hid (shortL_len l)
          generalize shortL l = ys at *
          have HLL := Lib.hid hLL
          have ha6 : a.length ≤ 250 := by omega
          have hb6 : b.length ≤ 250 := by omega
          have HAB : Hid (a.length ≤ 5 * k ∧ b.length ≤ 5 * k) := Lib.hid ⟨ha5, hb5⟩
          have e0 := cell_gw hg3 d0
          have e1 := cell_gw hg3 d1
          have e2 := cell_gw hg3 d2
          have e3 := cell_gw hg3 d3
          clear ha5 hb5 hll hLL hNS HB3 HZ1 HZ hg1 d0 d1 d2 d3 d4 hg3
          obtain ⟨N, hN⟩ : ∃ N : Nat → Prop, N = fun k => wr.heap.size ≤ k ∧ k < wc.heap.size := ⟨_, rfl⟩
          have HNZ : Hid (N Z) := Lib.hid (by rw [hN]; exact hNZ)
          have HNS2 : Hid (∀ k, blk S3 = some k → N k) := Lib.hid (fun k hk => by rw [hN]; exact HNS.out k hk)
          rw [← hN] at HLL
          clear hN hNZ HNS
          have hq6 : wh.tmod 6 = 0 ∨ wh.tmod 6 = 1 ∨ wh.tmod 6 = 2 ∨ wh.tmod 6 = 3 ∨ wh.tmod 6 = 4 ∨ wh.tmod 6 = 5 := by rw [Int.tmod_eq_emod_of_nonneg (by omega)]; omega
          rcases hq6 with hq | hq | hq | hq | hq | hq
          · obtain ⟨wo, hwo⟩ : ∃ wo : World, wo = wr := ⟨_, rfl⟩
            subst hwo
            go_wp2_with fail
            go_loopw [9] (fun v9 wx => ∃ (j : Nat) (a' b' : List ByteArray), j ≤ m3 ∧ v9 = .int .i64 j ∧ Hid (a'.length ≤ a.length + j ∧ b'.length ≤ b.length + j ∧ LL w N wx X a' b' Y a' b' ∧ Fr (Out w N) wc wx)) (fun v9 _ => m3 - (intOf v9).toNat)
            case atStart => exact ⟨0, a, b, by omega, rfl, Lib.hid ⟨by omega, by omega, HLL.out, Fr.refl _ _⟩⟩
            case round =>
              obtain ⟨j, a', b', hj, rfl, HI⟩ := hrel
              have hla : a'.length ≤ 260 := by have := HI.out.1; omega
              have hlb : b'.length ≤ 260 := by have := HI.out.2.1; omega
              by_cases hjm : j < m3
              · have z9 : (j : Int) < m3 := by omega
                have hjl : j < ys.length := by have := HS3.out.1; omega
                obtain ⟨sb, so, rfl, hcell⟩ := HS3.out.2.2.2.resolve_left (by intro e; rw [e] at hjl; simp at hjl)
                have q0 := cell_aside HI.out.2.2.2 (HNS2.out sb rfl) (hcell j hjl)
                have hy9 := HSZ.out _ (List.getElem_mem hjl)
                generalize ys[j] = y at *
                clear hcell
                go_wp2_with fail
                go_region_with (first | (go_at_call 15; refine ((HI.out.2.2.1.gw ((Fr.refl _ _).drew)).liftX (fun A C B D L => put_any L (t - 1) y hy9 (by omega) (by omega))).mono ?_; rintro e w4 ⟨rfl, hll4, hf4⟩; have q1 := cell_aside hf4 (HNS2.out sb rfl) q0; have HLL4 := Lib.hid hll4; have HF4 := Lib.hid hf4; clear hll4 hf4) | (go_at_call 16; refine (HLL4.out.liftY (fun A C B D L => rput_any L (t - 1) y hy9 (by omega) (by omega))).mono ?_; rintro e w5 ⟨rfl, hll5, hf5⟩; have HLL5 := Lib.hid hll5; have HF5 := Lib.hid hf5; clear hll5 hf5))
                all_goals
                  go_wp2_with fail
                  go_roundw
                  case rel => exact ⟨j + 1, _, _, by omega, by go_num, Lib.hid ⟨onA_len (by have := HI.out.1; omega) (by have := HI.out.1; simp; omega), onB_len (by have := HI.out.2.1; omega) (by have := HI.out.2.1; simp; omega), HLL5.out, aside_trans (aside_trans HI.out.2.2.2 (aside_gw ((Fr.refl _ _).drew))) (aside_trans HF4.out HF5.out)⟩⟩
                  case measure => simp [intOf]; omega
              · obtain rfl : j = m3 := by omega
                have HLLX := Lib.hid HI.out.2.2.1
                have hla2 : a'.length ≤ a.length + 5 := by have := HI.out.1; omega
                have hlb2 : b'.length ≤ b.length + 5 := by have := HI.out.2.1; omega

                go_wp2_with (go_at_call 13; refine (ll_alike HLLX.out).mono ?_; rintro e wz ⟨rfl, hllz⟩)
                go_roundg (50 - (k + 1))
                case measure => omega
                case rel => exact ⟨k + 1, a', b', by omega, by omega, by omega, by go_num, Lib.hid ⟨by have := HAB.out; omega, by have := HAB.out; omega, hllz.free⟩⟩
          · obtain ⟨wo, hwo⟩ : ∃ wo : World, wo = wr := ⟨_, rfl⟩
            subst hwo
            go_wp2_with fail
            go_loopw [9] (fun v9 wx => ∃ (j : Nat) (a' b' : List ByteArray), j ≤ m3 ∧ v9 = .int .i64 j ∧ Hid (a'.length ≤ a.length + j ∧ b'.length ≤ b.length + j ∧ LL w N wx X a' b' Y a' b' ∧ Fr (Out w N) wc wx)) (fun v9 _ => m3 - (intOf v9).toNat)
            case atStart => exact ⟨0, a, b, by omega, rfl, Lib.hid ⟨by omega, by omega, HLL.out, Fr.refl _ _⟩⟩
            case round =>
              obtain ⟨j, a', b', hj, rfl, HI⟩ := hrel
              have hla : a'.length ≤ 260 := by have := HI.out.1; omega
              have hlb : b'.length ≤ 260 := by have := HI.out.2.1; omega
              by_cases hjm : j < m3
              · have z9 : (j : Int) < m3 := by omega
                have hjl : j < ys.length := by have := HS3.out.1; omega
                obtain ⟨sb, so, rfl, hcell⟩ := HS3.out.2.2.2.resolve_left (by intro e; rw [e] at hjl; simp at hjl)
                have q0 := cell_aside HI.out.2.2.2 (HNS2.out sb rfl) (hcell j hjl)
                have hy9 := HSZ.out _ (List.getElem_mem hjl)
                generalize ys[j] = y at *
                clear hcell
                go_wp2_with fail
                go_region_with (first | (go_at_call 15; refine ((HI.out.2.2.1.gw ((Fr.refl _ _).drew)).liftX (fun A C B D L => put_any L (t - 1) y hy9 (by omega) (by omega))).mono ?_; rintro e w4 ⟨rfl, hll4, hf4⟩; have q1 := cell_aside hf4 (HNS2.out sb rfl) q0; have HLL4 := Lib.hid hll4; have HF4 := Lib.hid hf4; clear hll4 hf4) | (go_at_call 16; refine (HLL4.out.liftY (fun A C B D L => rput_any L (t - 1) y hy9 (by omega) (by omega))).mono ?_; rintro e w5 ⟨rfl, hll5, hf5⟩; have HLL5 := Lib.hid hll5; have HF5 := Lib.hid hf5; clear hll5 hf5))
                all_goals
                  go_wp2_with fail
                  go_roundw
                  case rel => exact ⟨j + 1, _, _, by omega, by go_num, Lib.hid ⟨onA_len (by have := HI.out.1; omega) (by have := HI.out.1; simp; omega), onB_len (by have := HI.out.2.1; omega) (by have := HI.out.2.1; simp; omega), HLL5.out, aside_trans (aside_trans HI.out.2.2.2 (aside_gw ((Fr.refl _ _).drew))) (aside_trans HF4.out HF5.out)⟩⟩
                  case measure => simp [intOf]; omega
              · obtain rfl : j = m3 := by omega
                have HLLX := Lib.hid HI.out.2.2.1
                have hla2 : a'.length ≤ a.length + 5 := by have := HI.out.1; omega
                have hlb2 : b'.length ≤ b.length + 5 := by have := HI.out.2.1; omega

                go_wp2_with (go_at_call 13; refine (ll_alike HLLX.out).mono ?_; rintro e wz ⟨rfl, hllz⟩)
                go_roundg (50 - (k + 1))
                case measure => omega
                case rel => exact ⟨k + 1, a', b', by omega, by omega, by omega, by go_num, Lib.hid ⟨by have := HAB.out; omega, by have := HAB.out; omega, hllz.free⟩⟩
          · go_wp2_with (first | (go_at_call 17; refine (HLL.out.liftX (fun A C B D L => take_any L (t - 1) i (by omega) (by omega) (by omega))).mono ?_; rintro e w4 ⟨rfl, hll4, hf4⟩; have f2 := cell_aside hf4 HNZ.out e2; have HLL4 := Lib.hid hll4; clear hll4 hf4) | (go_at_call 18; refine (HLL4.out.liftY (fun A C B D L => rtake_any L (t - 1) i (by omega) (by omega) (by omega))).mono ?_; rintro e w5 ⟨rfl, hll5, hf5⟩; have HLLX := Lib.hid hll5; clear hll5 hf5; have hla2 := turnL_len a i 1 []; have hlb2 := turnL_len b i 1 []; have hla3 := onA_len (tw := t - 1) (n := a.length) (Nat.le_refl _) (by simpa using hla2); have hlb3 := onB_len (tw := t - 1) (n := b.length) (Nat.le_refl _) (by simpa using hlb2); clear hla2 hlb2) | (go_at_call 13; refine (ll_alike HLLX.out).mono ?_; rintro e wz ⟨rfl, hllz⟩))
            go_roundg (50 - (k + 1))
            case measure => omega
            case rel => exact ⟨k + 1, _, _, by omega, by omega, by omega, by go_num, Lib.hid ⟨by have := HAB.out; omega, by have := HAB.out; omega, hllz.free⟩⟩
          · go_wp2_with (first | (go_at_call 17; refine (HLL.out.liftX (fun A C B D L => take_any L (t - 1) i (by omega) (by omega) (by omega))).mono ?_; rintro e w4 ⟨rfl, hll4, hf4⟩; have f2 := cell_aside hf4 HNZ.out e2; have HLL4 := Lib.hid hll4; clear hll4 hf4) | (go_at_call 18; refine (HLL4.out.liftY (fun A C B D L => rtake_any L (t - 1) i (by omega) (by omega) (by omega))).mono ?_; rintro e w5 ⟨rfl, hll5, hf5⟩; have HLLX := Lib.hid hll5; clear hll5 hf5; have hla2 := turnL_len a i 1 []; have hlb2 := turnL_len b i 1 []; have hla3 := onA_len (tw := t - 1) (n := a.length) (Nat.le_refl _) (by simpa using hla2); have hlb3 := onB_len (tw := t - 1) (n := b.length) (Nat.le_refl _) (by simpa using hlb2); clear hla2 hlb2) | (go_at_call 13; refine (ll_alike HLLX.out).mono ?_; rintro e wz ⟨rfl, hllz⟩))
            go_roundg (50 - (k + 1))
            case measure => omega
            case rel => exact ⟨k + 1, _, _, by omega, by omega, by omega, by go_num, Lib.hid ⟨by have := HAB.out; omega, by have := HAB.out; omega, hllz.free⟩⟩
          · go_wp2_with fail
            have hiw : IntKind.i64.wrap i = i := IntWalk.i64_in _ (by omega)
            have hmw : IntKind.i64.wrap m = m := IntWalk.i64_in _ (by omega)
            go_region_held3 (fun w' => w'.cell? ⟨Z, 2, none⟩ = some (.int .i8 i) ∧ w'.cell? ⟨Z, 3, none⟩ = some (.int .i8 m)) (first | exact ⟨cell_aside HF5.out HNZ.out (cell_aside HF4.out HNZ.out e2), cell_aside HF5.out HNZ.out (cell_aside HF4.out HNZ.out e3)⟩ | exact ⟨cell_aside HF4.out HNZ.out e2, cell_aside HF4.out HNZ.out e3⟩ | go_keep)
              (first | (go_at_call 19; refine ((HLL.out.gw ((Fr.refl _ _).drew)).liftX (fun A C B D L => turn_any L (t - 1) i m (by omega) (by omega) S3 m3 E3 ys (by omega) (HS3.out.gw ((Fr.refl _ _).drew)) HN3.out)).mono ?_; rintro e w4 ⟨rfl, hll4, hf4⟩; have HLL4 := Lib.hid hll4; have HS4 := Lib.hid (strs_aside hf4 HNS2.out (HS3.out.gw ((Fr.refl _ _).drew))); have HF4 := Lib.hid hf4; clear hll4 hf4) | (go_at_call 20; refine (HLL4.out.liftY (fun A C B D L => rturn_any L (t - 1) i m (by omega) (by omega) S3 m3 E3 ys (by omega) HS4.out HN3.out)).mono ?_; rintro e w5 ⟨rfl, hll5, hf5⟩; have HLLX := Lib.hid hll5; have HF5 := Lib.hid hf5; clear hll5 hf5; have hla2 := turnL_len a i m ys; have hlb2 := turnL_len b i m ys; have hla3 := onA_len (tw := t - 1) (n := a.length + 5) (a := a) (by omega) (Nat.le_trans hla2 (by have := HL5.out; omega)); have hlb3 := onB_len (tw := t - 1) (n := b.length + 5) (a := b) (by omega) (Nat.le_trans hlb2 (by have := HL5.out; omega)); clear hla2 hlb2))
            all_goals
              go_wp2_with (go_at_call 13; refine (ll_alike HLLX.out).mono ?_; rintro e wz ⟨rfl, hllz⟩)
              go_roundg (50 - (k + 1))
              case measure => omega
              case rel => exact ⟨k + 1, _, _, by omega, by omega, by omega, by go_num, Lib.hid ⟨by have := HAB.out; omega, by have := HAB.out; omega, hllz.free⟩⟩
          · go_wp2_with fail
            have hiw : IntKind.i64.wrap i = i := IntWalk.i64_in _ (by omega)
            have hmw : IntKind.i64.wrap m = m := IntWalk.i64_in _ (by omega)
            go_region_held3 (fun w' => w'.cell? ⟨Z, 2, none⟩ = some (.int .i8 i) ∧ w'.cell? ⟨Z, 3, none⟩ = some (.int .i8 m)) (first | exact ⟨cell_aside HF5.out HNZ.out (cell_aside HF4.out HNZ.out e2), cell_aside HF5.out HNZ.out (cell_aside HF4.out HNZ.out e3)⟩ | exact ⟨cell_aside HF4.out HNZ.out e2, cell_aside HF4.out HNZ.out e3⟩ | go_keep)
              (first | (go_at_call 19; refine ((HLL.out.gw ((Fr.refl _ _).drew)).liftX (fun A C B D L => turn_any L (t - 1) i m (by omega) (by omega) S3 m3 E3 ys (by omega) (HS3.out.gw ((Fr.refl _ _).drew)) HN3.out)).mono ?_; rintro e w4 ⟨rfl, hll4, hf4⟩; have HLL4 := Lib.hid hll4; have HS4 := Lib.hid (strs_aside hf4 HNS2.out (HS3.out.gw ((Fr.refl _ _).drew))); have HF4 := Lib.hid hf4; clear hll4 hf4) | (go_at_call 20; refine (HLL4.out.liftY (fun A C B D L => rturn_any L (t - 1) i m (by omega) (by omega) S3 m3 E3 ys (by omega) HS4.out HN3.out)).mono ?_; rintro e w5 ⟨rfl, hll5, hf5⟩; have HLLX := Lib.hid hll5; have HF5 := Lib.hid hf5; clear hll5 hf5; have hla2 := turnL_len a i m ys; have hlb2 := turnL_len b i m ys; have hla3 := onA_len (tw := t - 1) (n := a.length + 5) (a := a) (by omega) (Nat.le_trans hla2 (by have := HL5.out; omega)); have hlb3 := onB_len (tw := t - 1) (n := b.length + 5) (a := b) (by omega) (Nat.le_trans hlb2 (by have := HL5.out; omega)); clear hla2 hlb2))
            all_goals
              go_wp2_with (go_at_call 13; refine (ll_alike HLLX.out).mono ?_; rintro e wz ⟨rfl, hllz⟩)
              go_roundg (50 - (k + 1))
              case measure => omega
              case rel => exact ⟨k + 1, _, _, by omega, by omega, by omega, by go_num, Lib.hid ⟨by have := HAB.out; omega, by have := HAB.out; omega, hllz.free⟩⟩
      · have z5 : ¬ (k : Int) < 50 := by omega
        go_wp2_with (go_at_call 21; refine (works _).mono ?_; rintro e w2 ⟨rfl, hgw⟩)
        go_ret
        exact ⟨rfl, gw_trans HO.out.2.2.g hgw⟩
    · go_wp2_with (go_at_call 21; refine (works _).mono ?_; rintro e w2 ⟨rfl, hgw⟩)
      go_ret
      exact ⟨rfl, gw_trans HO.out.2.2.g hgw⟩
end Go.Proofs.Ytdaodpojcjbggaa.Ln
