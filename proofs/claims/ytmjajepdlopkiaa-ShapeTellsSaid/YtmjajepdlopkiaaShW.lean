/- The document's answer: New, Has, Many, Fits. -/
import Derived.Test.YtmjajepdlopkiaaShV
import Derived.Test.YtmjajepdlopkiaaSeqE
namespace Go.Proofs.Ytmjajepdlopkiaa.Sh
open Go.RowKit
set_option linter.unusedVariables false
set_option linter.unusedSimpArgs false

/-- The document's state, at Y: all that came lies at A. -/
structure RefAt (w : World) (Y : Nat) (A : Option Addr) (n cp : Nat) (isn most : Int) (l : List Sg) : Prop where
  c0 : w.cell? ⟨Y, 0, none⟩ = some (.int .u32 isn)
  c1 : w.cell? ⟨Y, 1, none⟩ = some (.int .i64 most)
  c2 : w.cell? ⟨Y, 2, none⟩ = some (.slice A n cp)
  segs : Segs w A n cp l
  ok : ∀ x ∈ l, (0 ≤ x.sq ∧ x.sq < 4294967296) ∧ x.data.size ≤ 1000
  hn : n ≤ 1000
  hm : 1 ≤ most ∧ most ≤ 65536
  hisn : 0 ≤ isn ∧ isn < 4294967296
theorem RefAt.gw {w w' Y A n cp isn most l} (h : RefAt w Y A n cp isn most l) (hg : Gw w w') : RefAt w' Y A n cp isn most l :=
  ⟨cell_gw hg h.c0, cell_gw hg h.c1, cell_gw hg h.c2, h.segs.gw hg, h.ok, h.hn, h.hm, h.hisn⟩
/-- What a segment brings. -/
def bringsS (isn : Int) (x : Sg) (a b : Nat) : Bool := !x.syn && brings isn x.sq x.data a b
/-- What segments bring. -/
def allS (isn : Int) (l : List Sg) (a b : Nat) : Bool := l.any fun x => bringsS isn x a b
theorem allS_take (isn : Int) (l : List Sg) (i : Nat) (hi : i < l.length) (a b : Nat) : allS isn (l.take (i + 1)) a b = (allS isn (l.take i) a b || bringsS isn l[i] a b) := by
  unfold allS; rw [List.take_succ_eq_append_getElem hi, List.any_append]; simp
theorem ref_bad (isn most : Int) (h : most < 1 ∨ 65536 < most) (w : World) : Calls Try.prog 36 #[.int .u32 isn, .int .i64 most] w fun e w' => e = .returned (.pointer none) ∧ w = w' := by
  by_cases h1 : most < 1
  · go_enter Try.func36, Try.ntmps36
    go_wp2
    go_ret
    exact ⟨rfl, rfl⟩
  · have h2 : 65536 < most := by omega
    clear h
    go_enter Try.func36, Try.ntmps36
    go_wp2
    go_ret
    exact ⟨rfl, rfl⟩
def RefNewP (isn most : Int) (w : World) (e : Ending) (w' : World) : Prop := ∃ Y, e = .returned (.pointer (some ⟨Y, 0, none⟩)) ∧ w.heap.size ≤ Y ∧ Gw w w' ∧ w'.heap[Y]? = some (.cells #[.int .u32 isn, .int .i64 most, .slice none 0 0] 66)
theorem ref_new (isn most : Int) (h : 1 ≤ most ∧ most ≤ 65536) (w : World) : Calls Try.prog 36 #[.int .u32 isn, .int .i64 most] w (RefNewP isn most w) := by
  have h1 : ¬ most < 1 := by omega
  have h2 : ¬ 65536 < most := by omega
  clear h
  go_enter Try.func36, Try.ntmps36
  go_wp2
  go_ret
  exact ⟨w.heap.size, rfl, Nat.le_refl _, gw_alloc1 _ _, heap_alloc_new _ _⟩
theorem begins (r tx : ByteArray) (hr : r.size ≤ 9223372036854775807) (ht : tx.size ≤ 9223372036854775807) (w : World) :
    Calls Try.prog 51 #[.string r, .string tx] w fun e w' => e = .returned (.bool (pre r.data.toList tx.data.toList)) ∧ w = w' := by
  have hl : tx.data.toList.length = tx.size := Array.length_toList
  have hl2 : r.data.toList.length = r.size := Array.length_toList
  by_cases h : r.size ≤ tx.size
  · have hk : (tx.extract 0 r.size).toList = tx.data.toList.take r.size := by
      rw [ByteArray.toList_eq]; simp
    have hh : pre r.data.toList tx.data.toList = ((tx.extract 0 r.size).toList == r.toList) := by
      unfold pre
      rw [hl2, hl, decide_eq_true h, Bool.true_and, hk, ByteArray.toList_eq]
    rw [hh]
    have z1 : (r.size : Int) ≤ tx.size := by omega
    clear hl hl2 hk hh
    go_enter Try.func51, Try.ntmps51
    go_wp2
    go_ret
    exact ⟨rfl, rfl⟩
  · have hh : pre r.data.toList tx.data.toList = false := by
      unfold pre
      rw [hl2, hl, decide_eq_false h]; rfl
    rw [hh]
    have z1 : ¬ (r.size : Int) ≤ tx.size := by omega
    have z2 : decide ((r.size : Int) ≤ tx.size) = false := decide_eq_false z1
    clear hl hl2 hh
    go_enter Try.func51, Try.ntmps51
    go_wp2
    go_ret
    exact ⟨rfl, rfl⟩
/-- Has, of the document's answer. -/
def refHas (isn most : Int) (l : List Sg) (off : Int) (b : Nat) : Bool := row most.toNat (allS isn l) off b
theorem row_out {n : Nat} {C : Nat → Nat → Bool} {off : Int} (h : ¬ (0 ≤ off ∧ off < n)) (b : Nat) : row n C off b = false := by unfold row; rw [if_neg h]
theorem row_in {n : Nat} {C : Nat → Nat → Bool} {k : Nat} (h : (k : Int) < n) (b : Nat) : row n C k b = C k b := by unfold row; rw [if_pos ⟨by omega, h⟩]; rfl
set_option maxRecDepth 100000 in
set_option maxHeartbeats 8000000 in
theorem ref_has {w Y A n cp isn most l} (h : RefAt w Y A n cp isn most l) (off : Int) (hoff : -9223372036854775808 ≤ off ∧ off < 9223372036854775808) (b : Nat) (hb : b < 256) : Calls Try.prog 39 #[.pointer (some ⟨Y, 0, none⟩), .int .i64 off, .int .u8 b] w fun e w' => e = .returned (.bool (refHas isn most l off b)) ∧ Gw w w' := by
  have c0 := h.c0
  have c1 := h.c1
  have c2 := h.c2
  have hn := h.hn
  have hm := h.hm
  have hisn := h.hisn
  have hcp := h.segs.2.2.1
  have hln := h.segs.1
  obtain ⟨most, rfl⟩ := Int.eq_ofNat_of_zero_le (a := most) (by omega)
  unfold refHas
  rw [show ((most : Int)).toNat = most from rfl]
  by_cases h0 : 0 ≤ off ∧ off < most
  · obtain ⟨k, rfl⟩ := Int.eq_ofNat_of_zero_le h0.1
    rw [row_in h0.2]
    have HS := Lib.hid h.segs
    have HOK := Lib.hid h.ok
    have z0 : (k : Int) < most := h0.2
    have z00 : k < most := by omega
    have HLN := Lib.hid hln
    obtain ⟨res, hres⟩ : ∃ res, allS isn l k b = res := ⟨_, rfl⟩
    have HRES := Lib.hid hres
    rw [hres]
    clear h h0 hln hres
    go_enter Try.func39, Try.ntmps39
    go_wp2_with fail
    go_loopw [7] (fun v7 wr => ∃ i : Nat, i ≤ n ∧ v7 = .int .i64 i ∧ Hid (Gw w wr ∧ allS isn (l.take i) k b = false)) (fun v7 _ => n - (intOf v7).toNat)
    case atStart => exact ⟨0, Nat.zero_le _, rfl, Lib.hid ⟨Fr.refl _ _, rfl⟩⟩
    case round =>
      obtain ⟨i, hi, rfl, HI⟩ := hrel
      have c0 := cell_gw HI.out.1 c0
      have c1 := cell_gw HI.out.1 c1
      have c2 := cell_gw HI.out.1 c2
      by_cases hin : i < n
      · have z1 : (i : Int) < n := by omega
        have hil : i < l.length := by rw [HLN.out]; exact hin
        obtain ⟨g, o, rfl, hat⟩ := (HS.out.gw HI.out.1).at hil
        have hokx := HOK.out _ (List.getElem_mem hil)
        have htake := allS_take isn l i hil k b
        rw [HI.out.2, Bool.false_or] at htake
        have HT := Lib.hid htake
        have HALL : Hid (bringsS isn l[i] k b = true → res = true) := Lib.hid (fun hb => by
          rw [← HRES.out]; unfold allS; rw [List.any_eq_true]; exact ⟨_, List.getElem_mem hil, hb⟩)
        clear htake
        generalize l[i] = x at *
        have s3 := hat 3 _ rfl
        have s5 := hat 5 _ rfl
        have s11 := hat 11 _ rfl
        obtain ⟨v0, v1, v2, sq, v4, syn, v6, v7, v8, v9, v10, data⟩ := x
        simp only at s3 s5 s11 hokx
        obtain ⟨⟨q1, q2⟩, q3⟩ := hokx
        clear hat
        have HPL := Lib.hid (fun W => Sq.rplus isn 1 hisn (by omega) W)
        have hpr := Sq.P_range isn 1
        have hgr := Sq.G_range (Sq.P isn 1) sq
        obtain ⟨first, hfirst⟩ : ∃ first, Sq.G (Sq.P isn 1) sq = first := ⟨_, rfl⟩
        have HGP : Hid (∀ W, Calls Try.prog 18 #[.int .u32 (Sq.P isn 1), .int .u32 sq] W fun e w' => e = .returned (.int .i64 first) ∧ W = w') := Lib.hid (fun W => by rw [← hfirst]; exact Sq.rgap _ _ hpr ⟨q1, q2⟩ W)
        rw [hfirst] at hgr
        have HBR : Hid (bringsS isn ⟨v0, v1, v2, sq, v4, syn, v6, v7, v8, v9, v10, data⟩ k b = (!syn && hit first data.data.toList k b)) := Lib.hid (by unfold bringsS brings; rw [hfirst])
        clear hfirst
        go_wp2_with fail
        go_quiet (first | (go_at_call 14; exact Calls.quiet_of_same ((HPL.out _).mono fun _ _ ⟨he, hw⟩ => ⟨he, hw.symm⟩)) | (go_at_call 18; exact Calls.quiet_of_same ((HGP.out _).mono fun _ _ ⟨he, hw⟩ => ⟨he, hw.symm⟩)))
        have c2 : (wr.drewN nq).cell? ⟨Y, 2, none⟩ = some (.slice (some ⟨g, o, none⟩) n cp) := c2
        have s5 : (wr.drewN nq).cell? ⟨g, o + i * 12 + 5, none⟩ = some (.bool syn) := s5
        have s11 : (wr.drewN nq).cell? ⟨g, o + i * 12 + 11, none⟩ = some (.string data) := s11
        have HG1 := Lib.hid (gw_drewN HI.out.1 nq)
        have HF := Lib.hid HI.out.2
        clear HI
        generalize wr.drewN nq = w1 at *
        clear c0 c1 s3 HPL HGP
        have hfk : -9223372036854775808 ≤ (k : Int) - first ∧ (k : Int) - first < 9223372036854775808 := by omega
        cases syn with
        | true =>
          have HN : Hid (allS isn (l.take (i + 1)) k b = false) := Lib.hid (by rw [HT.out, HBR.out]; rfl)
          go_wp2_with fail
          go_roundw
          case rel => exact ⟨i + 1, by omega, by go_num, Lib.hid ⟨HG1.out, HN.out⟩⟩
          case measure => simp [intOf]; omega
        | false =>
          by_cases hk0 : (0 : Int) ≤ (k : Int) - first
          · obtain ⟨j, hj⟩ : ∃ j : Nat, (k : Int) - first = j := ⟨((k : Int) - first).toNat, by omega⟩
            have hhit : hit first data.data.toList k b = ((data.data.toList[j]?).map UInt8.toNat == some b) := by
              unfold hit
              rw [decide_eq_true (by omega : first ≤ (k : Int)), hj]; rfl
            by_cases hjd : j < data.size
            · have z5 : (j : Int) < data.size := by omega
              have hh2 : hit first data.data.toList k b = decide ((data[j]'hjd).toNat = b) := by
                have hdl : j < data.data.toList.length := by rw [Array.length_toList]; exact hjd
                rw [hhit, List.getElem?_eq_getElem hdl, Bool.eq_iff_iff]; simp; exact Iff.rfl
              clear hhit
              by_cases hbb : (data[j]'hjd).toNat = b
              · have HY : Hid (res = true) := Lib.hid (HALL.out (by rw [HBR.out, hh2, decide_eq_true hbb]; rfl))
                clear hh2 HT HBR HALL
                subst hbb
                go_wp2_with fail
                go_ret
                exact ⟨by rw [HY.out]; rfl, HG1.out⟩
              · have HN : Hid (allS isn (l.take (i + 1)) k b = false) := Lib.hid (by rw [HT.out, HBR.out, hh2, decide_eq_false hbb]; rfl)
                have b1 : (((data[j]'hjd).toNat : Int) == (b : Int)) = false := by rw [beq_eq_false_iff_ne]; omega
                have b2 : ((data[j]'hjd).toNat == b) = false := by rw [beq_eq_false_iff_ne]; exact hbb
                clear hh2 HT HBR HALL
                go_wp2_with fail
                go_roundw
                case rel => exact ⟨i + 1, by omega, by go_num, Lib.hid ⟨HG1.out, HN.out⟩⟩
                case measure => simp [intOf]; omega
            · have HN : Hid (allS isn (l.take (i + 1)) k b = false) := Lib.hid (by
                rw [HT.out, HBR.out, hhit, List.getElem?_eq_none (by rw [Array.length_toList]; show data.size ≤ j; omega)]; rfl)
              have b3 : decide (j < data.size) = false := decide_eq_false hjd
              have b4 : ¬ (j : Int) < data.size := by omega
              clear hhit HT HBR HALL
              go_wp2_with fail
              go_roundw
              case rel => exact ⟨i + 1, by omega, by go_num, Lib.hid ⟨HG1.out, HN.out⟩⟩
              case measure => simp [intOf]; omega
          · have HN : Hid (allS isn (l.take (i + 1)) k b = false) := Lib.hid (by
              rw [HT.out, HBR.out]; unfold hit; rw [decide_eq_false (by omega : ¬ first ≤ (k : Int))]; rfl)
            obtain ⟨jj, hjj⟩ : ∃ jj, (k : Int) - first = jj := ⟨_, rfl⟩
            rw [hjj] at hk0 hfk
            have b5 : decide ((0 : Int) ≤ jj) = false := decide_eq_false hk0
            clear HT HBR HALL
            go_wp2_with fail
            go_roundw
            case rel => exact ⟨i + 1, by omega, by go_num, Lib.hid ⟨HG1.out, HN.out⟩⟩
            case measure => simp [intOf]; omega
      · obtain rfl : i = n := by omega
        have hfin := HI.out.2
        rw [List.take_of_length_le (by rw [HLN.out]; exact Nat.le_refl _), HRES.out] at hfin
        have HY := Lib.hid hfin
        clear hfin
        have b6 : decide (i < i) = false := by simp
        go_wp2_with fail
        go_ret
        exact ⟨by rw [HY.out]; rfl, HI.out.1⟩
  · rw [row_out h0]
    by_cases hn0 : n = 0
    · subst hn0
      clear h h0
      go_enter Try.func39, Try.ntmps39
      go_wp2_with fail
      go_loop [7] (fun v7 => v7 = .int .i64 0) (fun _ => 0)
      case atStart => rfl
      case round =>
        subst hrel
        go_wp2_with fail
        go_ret
        exact ⟨rfl, Fr.refl _ _⟩
    · have z1 : (0 : Int) < n := by omega
      have z2 : 0 < n := by omega
      by_cases hz : 0 ≤ off
      · have z3 : (most : Int) ≤ off := by omega
        have z4 : decide (off < (most : Int)) = false := decide_eq_false (by omega)
        clear h h0
        go_enter Try.func39, Try.ntmps39
        go_wp2_with fail
        go_loop [7] (fun v7 => v7 = .int .i64 0) (fun _ => 0)
        case atStart => rfl
        case round =>
          subst hrel
          go_wp2_with fail
          go_ret
          exact ⟨rfl, Fr.refl _ _⟩
      · have z3 : decide ((0 : Int) ≤ off) = false := decide_eq_false hz
        clear h h0
        go_enter Try.func39, Try.ntmps39
        go_wp2_with fail
        go_loop [7] (fun v7 => v7 = .int .i64 0) (fun _ => 0)
        case atStart => rfl
        case round =>
          subst hrel
          go_wp2_with fail
          go_ret
          exact ⟨rfl, Fr.refl _ _⟩
end Go.Proofs.Ytmjajepdlopkiaa.Sh
