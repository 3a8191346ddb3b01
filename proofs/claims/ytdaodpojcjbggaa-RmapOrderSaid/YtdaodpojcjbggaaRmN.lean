/- The walk of RmapOwn. -/
import Derived.Test.YtdaodpojcjbggaaRmM
namespace Go.Proofs.Ytdaodpojcjbggaa.Rm
open Go.RowKit Go.Proofs.Ytdaodpojcjbggaa.Ln
set_option linter.unusedVariables false
set_option linter.unusedSimpArgs false

theorem Drafts.gw {w w' : World} {P : Option Addr} {n : Nat} {d : Nat → Int × Int} (h : Drafts w P n d) (hg : Gw w w') : Drafts w' P n d :=
  ⟨h.1, h.2.1, h.2.2.imp id fun ⟨b, o, e, hc⟩ => ⟨b, o, e, fun i hi => ⟨cell_gw hg (hc i hi).1, cell_gw hg (hc i hi).2⟩⟩⟩
theorem wf_draft {d : Nat → Int × Int} {i : Nat} (hi : i ≤ 100) : Wf (draft d i) := by unfold Wf draft; simp; omega
theorem Row.fx {X : Nat} {w w' : World} {P : Option Addr} {n C : Nat} {l : List M} (h : Row w P n C l) (hf : Fx X w w') (hn : blk P ≠ some X) : Row w' P n C l := by
  refine ⟨⟨h.1.1, h.1.2.imp id fun ⟨g, cap, cur, hv, h1, h2, h3⟩ => ⟨g, cap, cur, hv, h1, (hf.block g (Array.getElem?_eq_some_iff.1 h2).1 (fun e => hn ?_)).trans h2, h3⟩⟩, h.2⟩
  injection hv with e1 _ _
  rw [e1, e]; rfl
theorem Row.gw {w w' : World} {P : Option Addr} {n C : Nat} {l : List M} (h : Row w P n C l) (hg : Gw w w') : Row w' P n C l := ⟨own_gw h.1 hg, h.2⟩
theorem len_n {w0 w H X r b l} (h : TS w0 w H X r b l) (n : Int) (hn : (l.length : Int) = n) : Calls Try.prog 33 #[.pointer (some ⟨X, 0, none⟩)] w fun e w' => e = .returned (.int .i64 n) ∧ w = w' := by
  subst hn; exact len_ h
theorem own_made0 (w : World) : Own (w.alloc (.cells #[] 60)) 60 4 (.slice (some ⟨w.heap.size, 0, none⟩) 0 0) 0 (flat []) := World.ownsRow_made w #[] 0 (Nat.zero_le _) (by simp [maxLen]) rfl
theorem gw_of {w w' w'' : World} {P : Option Addr} (hg : Gw w w') (hs : Sn w P) (hf : Fr (fun k => blk P = some k) w' w'') : Gw w w'' := Fr.trans hg hf (fun x hx e => by have := hs x e; show False; omega)
/-- The row appended to an empty one. -/
theorem app_copy {w : World} {P : Option Addr} {n C : Nat} {l : List M} (h : Maps w P n C l) (hn : n ≤ 100000) (t : TypeId) :
    ∃ v' w', (Builtin.append_ #[66, 66] t #[.slice (some ⟨w.heap.size, 0, none⟩) 0 0, .slice P n C]).run Try.prog (w.alloc (.cells #[] 60)) = .ok v' w' ∧ ∃ P' C', v' = .slice P' n C' ∧ Row w' P' n C' l ∧ Sn w P' ∧ Gw w w' := by
  have h0 := app_sn (w := w) (W := w) (Fr.refl _ _) (P := some ⟨w.heap.size, 0, none⟩) (fun k hk => by simp [blk] at hk; omega) (gw_alloc1 w (.cells #[] 60)) (own_made0 w) t (.slice P n C) n (src_maps (h.gw (gw_alloc1 _ _))) (by omega)
  simp only [Nat.zero_add, List.nil_append] at h0
  obtain ⟨v', w', h1, P', C', h2, h3, h4, h5⟩ := h0
  exact ⟨v', w', h1, P', C', h2, ⟨h3, h.1⟩, h4, h5⟩

theorem set4 {w6 wr : World} {g : Nat} (h : Fr (fun k => blk (some ⟨g, 0, none⟩) = some k) w6 wr) (i : Nat) (v0 v1 v2 v3 : Value) :
    Fr (fun k => blk (some ⟨g, 0, none⟩) = some k) w6 ((((wr.setCell ⟨g, i * 4, none⟩ v0).setCell ⟨g, i * 4 + 1, none⟩ v1).setCell ⟨g, i * 4 + 2, none⟩ v2).setCell ⟨g, i * 4 + 3, none⟩ v3) := by
  have key : ∀ (W : World) (j : Nat) (v : Value), Fr (fun k => blk (some ⟨g, 0, none⟩) = some k) w6 W → Fr (fun k => blk (some ⟨g, 0, none⟩) = some k) w6 (W.setCell ⟨g, j, none⟩ v) := fun W j v h => Fr.setCell (S := fun k => blk (some ⟨g, 0, none⟩) = some k) h ⟨g, j, none⟩ v rfl
  exact key _ _ _ (key _ _ _ (key _ _ _ (key _ _ _ h)))
theorem room4 {wr : World} {g n : Nat} (h : Room wr g n) (i : Nat) (v0 v1 v2 v3 : Value) :
    Room ((((wr.setCell ⟨g, i * 4, none⟩ v0).setCell ⟨g, i * 4 + 1, none⟩ v1).setCell ⟨g, i * 4 + 2, none⟩ v2).setCell ⟨g, i * 4 + 3, none⟩ v3) g n :=
  room_set (room_set (room_set (room_set h _ _) _ _) _ _) _ _

set_option maxRecDepth 100000 in
set_option maxHeartbeats 8000000 in
theorem rmapOwn (P : Option Addr) (n c : Nat) (d : Nat → Int × Int) (v : Int) (hv : 0 ≤ v ∧ v ≤ 65535) (w : World) (h : Drafts w P n d) : Calls Try.prog 10 #[.slice P n c, .int .u16 v] w fun e w' => e = .returned (.bool true) ∧ Gw w w' := by
  obtain ⟨q, hq⟩ : ∃ q, q ≤ 40 ∧ q ≤ n ∧ (q = 40 ∨ q = n) := by
    by_cases h : 40 ≤ n
    · exact ⟨40, by omega, h, .inl rfl⟩
    · exact ⟨n, by omega, by omega, .inr rfl⟩
  have H := Lib.hid h
  have HQ := Lib.hid hq
  have hq40 : q ≤ 40 := hq.1
  clear h hq
  go_enter Try.func10, Try.ntmps10
  go_wp2_with fail
  refine (new_ (w0 := w) (H := []) (Fr.refl _ _) (by simp) 30 (by omega)).mono ?_
  rintro e w1 ⟨X, rfl, hx1, hx2, hg, ht⟩
  have HT := Lib.hid ht
  have HG := Lib.hid hg
  clear ht hg
  go_wp2_with fail
  refine (works _).mono ?_
  rintro e w2 ⟨rfl, hg⟩
  have HN := Lib.hid (HT.out.gw hg); clear HT; have HT := HN; clear HN
  have HN := Lib.hid (gw_trans HG.out hg); clear HG hg; have HG := HN; clear HN
  go_wp2_with fail
  refine (maps_ (H.out.gw HG.out) q HQ.out).mono ?_
  rintro e w3 ⟨R, E, rfl, hrow, hsn, hg⟩
  have HN := Lib.hid (HT.out.gw hg)
  have hRX : blk R ≠ some X := fun e => by have := hsn X e; have := HT.out.2.2.1 X HT.out.1; omega
  clear HT; have HT := HN; clear HN
  have HN := Lib.hid (gw_trans HG.out hg); clear HG hg; have HG := HN; clear HN
  have HR := Lib.hid hrow
  have HRX := Lib.hid hRX
  clear hrow hsn hRX H
  go_wp2_with fail
  go_loopw [8] (fun v8 wr => ∃ k : Nat, k ≤ q ∧ v8 = .int .i64 k ∧ Hid (TS w wr [X] X 30 0 (fill d k) ∧ Fx X w3 wr)) (fun v8 _ => q - (intOf v8).toNat)
  case atStart => exact ⟨0, by omega, rfl, Lib.hid ⟨HT.out, Fr.refl _ _⟩⟩
  case round =>
    obtain ⟨k, hk, rfl, HO⟩ := hrel
    by_cases hkq : k < q
    · have z0 : (k : Int) < q := by omega
      have hkl : k < (row d q).length := by rw [row_len]; exact hkq
      obtain ⟨g, o, rfl, m0, m1, m2, m3⟩ := (HR.out.maps.fx HO.out.2 HRX.out).at' hkl
      rw [row_get] at m0 m1 m2 m3
      have HF : Hid (fill d (k + 1) = putL 30 0 (fill d k) (draft d k)) := Lib.hid rfl
      have HW := Lib.hid (wf_draft (d := d) (i := k) (by omega))
      generalize draft d k = m at *
      go_wp2_with fail
      refine (put_ HO.out.1 m HW.out).mono ?_
      rintro e w4 ⟨rfl, ht, hf⟩
      have HT4 := Lib.hid ht
      have HF4 := Lib.hid hf
      clear ht hf
      go_wp2_with fail
      go_roundw
      case rel => exact ⟨k + 1, by omega, by go_num, Lib.hid ⟨by rw [HF.out]; exact HT4.out, Fr.trans HO.out.2 HF4.out (fun _ _ h => h)⟩⟩
      case measure => simp [intOf]; omega
    · obtain rfl : k = q := by omega
      have HTK := Lib.hid HO.out.1
      have HGK := Lib.hid (gw_fx HG.out HTK.out.2.1 HO.out.2)
      have hok := HTK.out.ok
      have hlen := hok.len
      have HOK := Lib.hid hok
      clear hok HT HG HR HRX HO
      generalize fill d k = l at *
      go_wp2_with fail
      refine (all_ HTK.out).mono ?_
      rintro e w5 ⟨P1, n1, C1, rfl, hr1, hg, hs1⟩
      have HR1 := Lib.hid hr1
      have HS1 := Lib.hid hs1
      have hgk := Lib.hid hg
      have hn1 : n1 ≤ 2048 := by have := hr1.2; omega
      clear hr1 hs1 hg hlen
      obtain ⟨wo, hwo⟩ : ∃ wo : World, wo = wr := ⟨_, rfl⟩
      subst hwo
      go_wp2_with (at_builtin; refine wpList_app rfl (.tmp 44) (.tmp 45) rfl _ _ rfl rfl _ (app_copy HR1.out.maps (by omega) 66) ?_; rintro v6 w6 ⟨P2, C2, rfl, hr2, hs2, hg2⟩; have HR2 := Lib.hid hr2; have HS2 := Lib.hid hs2; have HG2 := Lib.hid hg2; clear hr2 hs2 hg2)
      go_loopw [11] (fun v11 wx => ∃ i : Nat, i ≤ n1 ∧ v11 = .int .i64 i ∧ Hid (Fr (fun k => blk P1 = some k) w6 wx ∧ ∀ g, P1 = some ⟨g, 0, none⟩ → Room wx g (n1 * 4))) (fun v11 _ => n1 - (intOf v11).toNat)
      case atStart => exact ⟨0, by omega, rfl, Lib.hid ⟨Fr.refl _ _, fun g e => by subst e; exact row_room (HR1.out.gw HG2.out)⟩⟩
      case round =>
        obtain ⟨i, hi, rfl, HI⟩ := hrel
        by_cases hin : i < n1
        · have z1 : (i : Int) < n1 := by omega
          obtain ⟨g, rfl, _⟩ := row_at HR1.out hin
          have hroom := HI.out.2 g rfl
          obtain ⟨⟨u0, a0⟩, b0⟩ := hroom (i * 4) (by omega)
          obtain ⟨⟨u1, a1⟩, b1⟩ := hroom (i * 4 + 1) (by omega)
          obtain ⟨⟨u2, a2⟩, b2⟩ := hroom (i * 4 + 2) (by omega)
          obtain ⟨⟨u3, a3⟩, b3⟩ := hroom (i * 4 + 3) (by omega)
          have HRM := Lib.hid hroom
          clear hroom
          go_wp2_with fail
          go_roundw
          case rel => exact ⟨i + 1, by omega, by go_num, Lib.hid ⟨set4 HI.out.1 i _ _ _ _, fun g' e => by cases e; exact room4 HRM.out i _ _ _ _⟩⟩
          case measure => simp [intOf]; omega
        · obtain rfl : i = n1 := by omega
          have hgx : Gw wo wr := gw_of (gw_trans hgk.out HG2.out) HS1.out HI.out.1
          have HT7 := Lib.hid (HTK.out.gw hgx)
          have HG7 := Lib.hid (gw_trans HGK.out hgx)
          have HM2 := Lib.hid (HR2.out.maps.keep HI.out.1.size (fun k hk hlt => HI.out.1.block k hlt (fun e => by have h1 := HS2.out k hk; have h2 := HR1.out.maps.lt e; omega)))
          clear hgx HI HR2 HS2 HG2 hgk HTK HGK HS1 HR1
          go_wp2_with fail
          refine (all_ HT7.out).mono ?_
          rintro e w8 ⟨P3, n3, C3, rfl, hr3, hg3, _⟩
          have e3 : n3 = i := by have h1 := hr3.2; have h2 := HM2.out.1; omega
          subst e3
          have HR3 := Lib.hid hr3
          have HG3 := Lib.hid hg3
          clear hr3 hg3
          go_wp2_with fail
          refine (same _ _ _ _ _ l _ HR3.out.maps (HM2.out.gw HG3.out) (by omega)).mono ?_
          rintro e w9 ⟨rfl, hg9⟩
          have HT9 := Lib.hid (HT7.out.gw (gw_trans HG3.out hg9))
          have HG9 := Lib.hid (gw_trans HG7.out (gw_trans HG3.out hg9))
          clear hg9 HT7 HG7 HR3 HG3 HM2
          go_wp2_with fail
          refine (cut_n HT9.out (30 + v) (by omega) (30 + v) [] (by unfold cutB; omega) (drop_all HOK.out (by omega))).mono ?_
          rintro e w10 ⟨rfl, ht, hf⟩
          have HT10 := Lib.hid ht
          have HG10 := Lib.hid (gw_fx HG9.out HT9.out.2.1 hf)
          clear ht hf HT9 HG9
          go_wp2_with fail
          refine (len_n HT10.out 0 rfl).mono ?_
          rintro e w11 ⟨rfl, rfl⟩
          go_wp2_with fail
          refine (begin_ HT10.out).mono ?_
          rintro e w12 ⟨rfl, rfl⟩
          go_wp2_with fail
          obtain ⟨wo, hwo⟩ : ∃ wo : World, wo = wr := ⟨_, rfl⟩
          subst hwo
          go_loopw [13] (fun v13 wx => ∃ i : Nat, i ≤ 30 ∧ v13 = .int .i64 i ∧ Hid (TS w wx [X] X 30 (30 + v) (top (30 + v) i) ∧ Gw w wx)) (fun v13 _ => 30 - (intOf v13).toNat)
          case atStart => exact ⟨0, by omega, rfl, Lib.hid ⟨HT10.out, HG10.out⟩⟩
          case round =>
            obtain ⟨j, hj, rfl, HJ⟩ := hrel
            by_cases hj30 : j < 30
            · have z3 : (j : Int) < 30 := by omega
              go_wp2_with fail
              refine (m_ _ _ _ _).mono ?_
              rintro e w13 ⟨rfl, hg⟩
              have HT13 := Lib.hid (HJ.out.1.gw hg)
              have HG13 := Lib.hid (gw_trans HJ.out.2 hg)
              clear hg
              go_wp2_with fail
              refine (put_n HT13.out (30 + v + 29 - j) 0 30 0 (by unfold Wf; simp; omega) true (top (30 + v) (j + 1)) (top_put (30 + v) j hj30).1 (top_put (30 + v) j hj30).2).mono ?_
              rintro e w14 ⟨rfl, ht, hf⟩
              have HT14 := Lib.hid ht
              have HG14 := Lib.hid (gw_fx HG13.out HT13.out.2.1 hf)
              clear ht hf HT13 HG13
              go_wp2_with fail
              refine (m_ _ _ _ _).mono ?_
              rintro e w15 ⟨rfl, hg⟩
              have HT15 := Lib.hid (HT14.out.gw hg)
              have HG15 := Lib.hid (gw_trans HG14.out hg)
              clear hg HT14 HG14
              go_wp2_with fail
              refine (put_n HT15.out (30 + v + 29 - j) 1 1 0 (by unfold Wf; simp; omega) false (top (30 + v) (j + 1)) (top_put2 (30 + v) j).1 (top_put2 (30 + v) j).2).mono ?_
              rintro e w16 ⟨rfl, ht, hf⟩
              have HT16 := Lib.hid ht
              have HG16 := Lib.hid (gw_fx HG15.out HT15.out.2.1 hf)
              clear ht hf HT15 HG15
              go_wp2_with fail
              go_roundw
              case rel => exact ⟨j + 1, by omega, by go_num, Lib.hid ⟨HT16.out, HG16.out⟩⟩
              case measure => simp [intOf]; omega
            · obtain rfl : j = 30 := by omega
              go_wp2_with fail
              refine (len_n HJ.out.1 30 (by rw [top_len]; rfl)).mono ?_
              rintro e w13 ⟨rfl, rfl⟩
              go_wp2_with fail
              refine (m_ _ _ _ _).mono ?_
              rintro e w13 ⟨rfl, hg⟩
              have HT13 := Lib.hid (HJ.out.1.gw hg)
              have HG13 := Lib.hid (gw_trans HJ.out.2 hg)
              clear hg
              go_wp2_with fail
              refine (put_n HT13.out (30 + v + 30) 0 1 0 (by unfold Wf; simp; omega) false (top (30 + v) 30) (out_put (by simp)).1 (out_put (by simp)).2).mono ?_
              rintro e w14 ⟨rfl, ht, hf⟩
              have HT14 := Lib.hid ht
              have HG14 := Lib.hid (gw_fx HG13.out HT13.out.2.1 hf)
              clear ht hf HT13 HG13
              go_wp2_with fail
              refine (m_ _ _ _ _).mono ?_
              rintro e w15 ⟨rfl, hg⟩
              have HT15 := Lib.hid (HT14.out.gw hg)
              have HG15 := Lib.hid (gw_trans HG14.out hg)
              clear hg HT14 HG14
              go_wp2_with fail
              refine (put_n HT15.out (30 + v - 1) 0 1 0 (by unfold Wf; simp; omega) false (top (30 + v) 30) (out_put (.inl (by show (30 : Int) + v - 1 < 30 + v; omega))).1 (out_put (.inl (by show (30 : Int) + v - 1 < 30 + v; omega))).2).mono ?_
              rintro e w16 ⟨rfl, ht, hf⟩
              have HG16 := Lib.hid (gw_fx HG15.out HT15.out.2.1 hf)
              clear ht hf HT15 HG15
              go_wp2_with fail
              go_ret
              exact ⟨rfl, HG16.out⟩
end Go.Proofs.Ytdaodpojcjbggaa.Rm
