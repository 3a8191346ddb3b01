/- The walk of LineTurn. -/
import Derived.Test.YtdaodpojcjbggaaLnM
namespace Go.Proofs.Ytdaodpojcjbggaa.Ln
open Go.RowKit
set_option linter.unusedVariables false
set_option linter.unusedSimpArgs false

theorem turn_at (F ys zs R : List ByteArray) : (F ++ ys ++ R).take F.length ++ zs ++ (F ++ ys ++ R).drop (F.length + ys.length) = F ++ zs ++ R := by
  rw [List.append_assoc F ys R, List.take_left, ← List.append_assoc F ys R, ← List.length_append, List.drop_left]
theorem st_turnF {w0 w : World} {X : Nat} {a F ys R : List ByteArray} (h : St w0 w X a (F ++ ys ++ R)) (iI mI : Int) (hI : iI = F.length) (hM : mI = ys.length) (hm : 1 ≤ ys.length ∧ ys.length ≤ 2) (hx : (F ++ ys ++ R).length ≤ 900000)
    (S : Option Addr) (n c : Nat) (zs : List ByteArray) (hn : zs.length = n) (hz : n ≤ 90000) (hsrc : Strs w S n zs) (hS : S = none → zs = []) :
    Calls Try.prog 19 #[.pointer (some ⟨X, 0, none⟩), .int .i64 1, .int .i64 iI, .int .i64 mI, .slice S n c] w fun e w' => e = .returned (.int .i64 0) ∧ St w0 w' X a (F ++ zs ++ R) := by
  have := st_turn1 h iI mI F.length ys.length hI hM hm (by simp) hx S n c zs hn hz hsrc hS
  rw [turn_at] at this
  exact this
theorem strs_part {w : World} {b o : Nat} {l : List ByteArray} {n : Nat} (h : Strs w (some ⟨b, o, none⟩) n l) (i m : Nat) (hi : i + m ≤ n) : Strs w (some ⟨b, o + i, none⟩) m ((l.drop i).take m) := by
  obtain ⟨h1, h2, h3, h4⟩ := h
  refine ⟨by simp; omega, by omega, fun s hs => h3 s (List.mem_of_mem_drop (List.mem_of_mem_take hs)), ?_⟩
  by_cases hm : m = 0
  · left; subst hm; rfl
  · right
    rcases h4 with e | ⟨b', o', e, hc⟩
    · subst e; simp at h1; omega
    · cases e
      refine ⟨b, o + i, rfl, fun j hj => ?_⟩
      have hj' : j < m := by simp at hj; omega
      have := hc (i + j) (by omega)
      rw [List.getElem_take, List.getElem_drop, show o + i + j = o + (i + j) by omega]
      exact this

theorem wpList_rowG {ops : Array Oper} {rest : List Oper} {o : Oper} {a : Act} {Q : Exit → Act → World → Prop} {w : World} (hgd : Region.wanted o (yielded ops a.tmps) = true) (s x : Operand)
    (ho : o.op = .call { callee := .builtin .append, args := #[s, x], argTypes := #[26, 26] }) (v : Value) (n : Nat) (xs : List Value) (hs : a.eval s = v) (hown : Own w 9 1 v n xs)
    (y : Value) (m : Nat) (news : List Value) (hx : a.eval x = y) (hsrc : Src Try.prog 1 26 y m news w) (hn : n + m ≤ 2000000)
    (h : ∀ v' w', (∃ A C, v' = .slice A (n + m) C) → Own w' 9 1 v' (n + m) (xs ++ news) → w.grownBy w' v.ownBlock → (v'.ownBlock = v.ownBlock ∨ v'.ownBlock = some w.heap.size) → wpList Try.prog ops Q rest (a.put o.dst v') w') : wpList Try.prog ops Q (o :: rest) a w := by
  obtain ⟨i, hi, hz, hsz, hb⟩ := strInfo
  obtain ⟨v', w', hr, h1, h2, h3⟩ := row_append (P := Try.prog) w 26 26 o.type 9 i (.string ⟨#[]⟩) 1 16 Try.underlying26 hi hz hsz hb rfl v n xs hown y m news hsrc (by simp [maxLen]; omega) (by omega)
  have hform : ∃ A C, v' = .slice A (n + m) C := by
    rcases h1.2 with ⟨e, e0⟩ | ⟨g, cap, cur, e, _⟩
    · exact ⟨none, 0, by rw [e, e0]⟩
    · exact ⟨_, _, e⟩
  refine wpList_step fun K hK => ?_
  simp only [hgd, if_true]
  unfold Oper.wp execOp
  simp only [ho, resolve, invoke, builtin, Sem.run_bind, Sem.run_pure, Result.andThen_ok, List.map_toArray, List.map_cons, List.map_nil, hs, hx, hr]
  exact hK _ _ (h v' w' hform h1 h2 h3)
theorem st_all1n {w0 w : World} {X : Nat} {a b : List ByteArray} {n : Nat} (h : St w0 w X a b) (hn : b.length = n) :
    Calls Try.prog 24 #[.pointer (some ⟨X, 0, none⟩), .int .i64 1] w fun e w' => ∃ A' C', e = .returned (.slice A' n C') ∧ Strs w' A' n b ∧ St w0 w' X a b := by
  subst hn
  exact (st_all1 h).mono fun e w' ⟨A', C', he, h1, h2, h3, h4⟩ => ⟨A', C', he, h1.strs, h4⟩
theorem st_all0n {w0 w : World} {X : Nat} {a b : List ByteArray} {n : Nat} (h : St w0 w X a b) (hn : a.length = n) :
    Calls Try.prog 24 #[.pointer (some ⟨X, 0, none⟩), .int .i64 0] w fun e w' => ∃ A' C', e = .returned (.slice A' n C') ∧ Strs w' A' n a ∧ St w0 w' X a b := by
  subst hn
  exact (st_all0 h).mono fun e w' ⟨A', C', he, h1, h2, h3, h4⟩ => ⟨A', C', he, h1.strs, h4⟩
theorem src_strsn {W : World} {S : Option Addr} {ys : List ByteArray} {n c : Nat} (h : Strs W S n ys) (hS : S ≠ none) : Src Try.prog 1 26 (.slice S n c) n (ys.map Value.string) W := by
  have hn := h.1
  subst hn
  exact src_strs h (fun e => absurd e hS)
theorem own_strs {w : World} {A : Option Addr} {C n : Nat} {xs : List ByteArray} (h : Own w 9 1 (.slice A n C) n (xs.map Value.string)) (hn : xs.length = n) (hl : n ≤ 1000000) (hz : ∀ s ∈ xs, s.size ≤ 9223372036854775807) : Strs w A n xs := by
  subst hn
  exact (Rw.mk h hl hz).strs
theorem own_alloc0 (w : World) : Own (w.alloc (.cells #[] 9)) 9 1 (.slice (some ⟨w.heap.size, 0, none⟩) 0 0) 0 [] := World.ownsRow_made w #[] 0 (Nat.zero_le _) (by simp [maxLen]) rfl

set_option maxRecDepth 100000 in
set_option maxHeartbeats 8000000 in
theorem lineTurn (A : Option Addr) (nA cA : Nat) (la : List ByteArray) (p : Int) (other : ByteArray) (w : World) (hp : 0 ≤ p ∧ p < 256) (ha : Strs w A nA la) (hsz : ∀ s ∈ la, s.size ≤ 140737488351232) (hA : A = none → nA = 0 ∧ cA = 0) (hcA : nA ≤ cA) (ho : other.size ≤ 9223372036854775807) :
    Calls Try.prog 5 #[.slice A nA cA, .int .u8 p, .string other] w fun e w' => e = .returned (.bool true) ∧ Gw w w' := by
  obtain ⟨n, hn, hnA⟩ : ∃ n : Nat, n ≤ 30 ∧ ((30 < nA ∧ n = 30) ∨ (nA ≤ 30 ∧ n = nA)) := by
    by_cases h : 30 < nA
    · exact ⟨30, by omega, .inl ⟨h, rfl⟩⟩
    · exact ⟨nA, by omega, .inr ⟨by omega, rfl⟩⟩
  have hmin : (if 30 < (nA : Int) then (30 : Int) else (nA : Int)) = (n : Int) := by split <;> omega
  have hsl : ¬ (cA : Int) < n := by omega
  rcases A with _ | ⟨bA, oA, pA⟩
  · obtain ⟨rfl, rfl⟩ := hA rfl
    obtain rfl : n = 0 := by omega
    have HO : Hid (other.size ≤ 9223372036854775807) := Lib.hid ho
    clear ha hsz hmin hnA hA
    go_enter Try.func5, Try.ntmps5
    go_wp2_with (first | (go_at_call 12; refine (st_new _ (Fr.refl _ _)).mono ?_; rintro e w1 ⟨X, rfl, hst⟩) | (go_at_call 21; refine (works _).mono ?_; rintro e w2 ⟨rfl, hgw⟩; have hst2 := hst.gw hgw; clear hst hgw; have hst := hst2; clear hst2))
    go_loopw [8] (fun v Wr => v = .int .i64 0 ∧ Hid (St w Wr X [] [])) (fun v _ => (intOf v).toNat)
    case atStart => exact ⟨rfl, Lib.hid hst⟩
    case round =>
      obtain ⟨rfl, hh⟩ := hrel
      clear hst
      have hst := hh.out
      clear hh
      go_wp2_with (first | (go_at_call 15; (with_reducible refine (st_put0 hst _ ?_ ?_).mono ?_); (· exact HO.out); (· simp); rintro e w' ⟨rfl, hn⟩; clear hst; have hst := hn; clear hn) | (go_at_call 19; (with_reducible refine (st_turnNone1 hst _ _ ?_ ?_ _ _ _).mono ?_); (· omega); (· simp); rintro e w' ⟨rfl, rfl⟩))
      go_ret
      exact ⟨rfl, hst.2⟩
  · have hsA := ha
    have hpA : n = 0 ∨ pA = none := by
      rcases ha.2.2.2 with e | ⟨b, o, e, _⟩
      · left; have := ha.1; rw [e] at this; simp at this; omega
      · right; cases e; rfl
    have HP := Lib.hid hpA
    obtain ⟨l, hl⟩ : ∃ l, l = la.take n := ⟨_, rfl⟩
    have hln : l.length = n := by rw [hl]; have := ha.1; simp; omega
    have hlz : ∀ s ∈ l, s.size ≤ 140737488351232 := fun s hs => hsz s (List.mem_of_mem_take (hl ▸ hs))
    have hcell : ∀ i, (h : i < l.length) → ∃ b o, (⟨bA, oA, pA⟩ : Addr) = ⟨b, o, none⟩ ∧ w.cell? ⟨b, o + i, none⟩ = some (.string l[i]) := by
      intro i hi
      rcases ha.2.2.2 with e | ⟨b, o, e, hc⟩
      · subst e; subst hl; simp at hi
      · refine ⟨b, o, by cases e; rfl, ?_⟩
        have := hc i (by have := ha.1; omega)
        subst hl
        rw [this, List.getElem_take]
    have hst0 : n ≠ 0 → Strs w (some ⟨bA, oA, none⟩) n l := by
      intro h0
      obtain rfl := hpA.resolve_left h0
      refine ⟨hln, by omega, fun s hs => by have := hlz s hs; omega, .inr ⟨bA, oA, rfl, fun i hi => ?_⟩⟩
      obtain ⟨b, o, e, hc⟩ := hcell i hi
      cases e; exact hc
    have HS := Lib.hid hst0
    have HO : Hid (other.size ≤ 9223372036854775807) := Lib.hid ho
    have HZ := Lib.hid hlz
    have HL := Lib.hid hln
    clear hsA ha hsz hl hcell hA hnA hst0 hpA hlz hln
    go_enter Try.func5, Try.ntmps5
    go_wp2_with (first | (go_at_call 12; refine (st_new _ (Fr.refl _ _)).mono ?_; rintro e w1 ⟨X, rfl, hst⟩) | (go_at_call 21; refine (works _).mono ?_; rintro e w2 ⟨rfl, hgw⟩; have hst2 := hst.gw hgw; clear hst hgw; have hst := hst2; clear hst2))
    go_loopw [8] (fun v Wr => ∃ i : Nat, i ≤ n ∧ v = .int .i64 i ∧ Hid (St w Wr X [] (l.take i))) (fun v _ => n - (intOf v).toNat)
    case atStart => exact ⟨0, by omega, rfl, Lib.hid hst⟩
    case round =>
      obtain ⟨i, hi, rfl, hh⟩ := hrel
      clear hst
      have hst := hh.out
      clear hh
      by_cases hlt : i < n
      · have hz : (i : Int) < n := by omega
        obtain rfl := HP.out.resolve_left (by omega)
        have hil : i < l.length := by have := HL.out; omega
        have k1 : wr.cell? ⟨bA, oA + i, none⟩ = some (.string l[i]) := by
          obtain ⟨b, o, e, hc⟩ := (HS.out (by omega)).2.2.2.resolve_left (by intro e; have := HL.out; rw [e] at this; simp at this; omega)
          cases e
          exact cell_gw hst.2 (hc i hil)
        have hs1 : l[i].size ≤ 9223372036854775807 := by have := HZ.out _ (List.getElem_mem hil); omega
        have hta : l.take i ++ [l[i]] = l.take (i + 1) := by rw [List.take_add_one, List.getElem?_eq_getElem hil]; rfl
        have HTA := Lib.hid hta
        generalize l[i] = sa at *
        clear hta
        go_wp2_with (first | (go_at_call 15; (with_reducible refine (st_put1 hst _ ?_ ?_).mono ?_); (· exact hs1); (· simp; omega); rintro e w' ⟨rfl, hn⟩; clear hst; have hst := hn; clear hn))
        go_roundw
        case rel =>
          rw [HTA.out] at hst
          exact ⟨i + 1, by omega, by go_num, Lib.hid hst⟩
        case measure => simp [intOf]; omega
      · obtain rfl : i = n := by omega
        have hti : l.take i = l := List.take_of_length_le (by have := HL.out; omega)
        rw [hti] at hst
        clear hti hlt
        by_cases h2 : i < 2
        · have hz : (i : Int) < 2 := by omega
          go_wp2_with (first | (go_at_call 15; (with_reducible refine (st_put0 hst _ ?_ ?_).mono ?_); (· exact HO.out); (· simp); rintro e w' ⟨rfl, hn⟩; clear hst; have hst := hn; clear hn) | (go_at_call 19; (with_reducible refine (st_turnNone1 hst _ _ ?_ ?_ _ _ _).mono ?_); (· omega); (· have := HL.out; omega); rintro e w' ⟨rfl, rfl⟩))
          go_ret
          exact ⟨rfl, hst.2⟩
        · have hz : ¬ (i : Int) < 2 := by omega
          obtain rfl := HP.out.resolve_left (by omega)
          obtain ⟨k, hk⟩ : ∃ k : Nat, p % ((i : Int) - 1) = k := ⟨(p % ((i : Int) - 1)).toNat, by have := Int.emod_nonneg p (b := (i : Int) - 1) (by omega); omega⟩
          have hkl : (k : Int) < (i : Int) - 1 := by rw [← hk]; exact Int.emod_lt_of_pos p (by omega)
          have hkl2 : k + 2 ≤ i := by omega
          go_wp2_with (first | (go_at_call 15; (with_reducible refine (st_put0 hst _ ?_ ?_).mono ?_); (· exact HO.out); (· simp); rintro e w' ⟨rfl, hn⟩; clear hst; have hst := hn; clear hn; simp only [List.nil_append] at hst))
          rw [hk]
          have k1 : k < l.length := by have := HL.out; omega
          have k2 : k + 1 < l.length := by have := HL.out; omega
          have hcs : ∀ j, (hj : j < l.length) → w'.cell? ⟨bA, oA + j, none⟩ = some (.string l[j]) := by
            intro j hj
            obtain ⟨b, o, e, hc⟩ := (HS.out (by omega)).2.2.2.resolve_left (by intro e; have := HL.out; rw [e] at this; simp at this; omega)
            cases e
            exact cell_gw hst.2 (hc j hj)
          have q1 := hcs k k1
          have q2 := hcs (k + 1) k2
          obtain ⟨F, hF⟩ : ∃ F, l.take k = F := ⟨_, rfl⟩
          obtain ⟨R, hR⟩ : ∃ R, l.drop (k + 2) = R := ⟨_, rfl⟩
          have hFR : l = F ++ [l[k], l[k + 1]] ++ R := by
            rw [← hF, ← hR, List.append_assoc, show [l[k], l[k + 1]] ++ l.drop (k + 2) = l.drop k from by
              rw [List.drop_eq_getElem_cons k1, List.drop_eq_getElem_cons k2]; rfl, List.take_append_drop]
          have hFl : F.length = k := by rw [← hF]; simp; omega
          have hRl : R.length = i - (k + 2) := by rw [← hR]; simp; have := HL.out; omega
          have hSF : Strs w (some ⟨bA, oA, none⟩) k F := by
            have := strs_part (HS.out (by omega)) 0 k (by omega)
            rw [List.drop_zero, hF] at this; exact this
          have hSR : Strs w (some ⟨bA, oA + (k + 2), none⟩) (i - (k + 2)) R := by
            have := strs_part (HS.out (by omega)) (k + 2) (i - (k + 2)) (by omega)
            rw [hR, List.take_of_length_le (by omega)] at this; exact this
          have z1 : l[k].size ≤ 140737488351232 := HZ.out _ (List.getElem_mem k1)
          have z2 : l[k + 1].size ≤ 140737488351232 := HZ.out _ (List.getElem_mem k2)
          generalize l[k] = sa at *
          generalize l[k + 1] = sb at *
          have HFR := Lib.hid hFR
          have HFL := Lib.hid hFl
          have HRL := Lib.hid hRl
          have HSF := Lib.hid hSF
          have HSR := Lib.hid hSR
          have HK := Lib.hid hk
          clear hFR hFl hRl hSF hSR hF hR hk hcs
          have g1 : (k : Int) < i := by omega
          have g2 : (k : Int) + 1 < i := by omega
          have g3 : IntKind.i64.wrap ((k : Int) + 1) = (k : Int) + 1 := IntWalk.i64_in _ (by omega)
          have g4 : ((k : Int) + 1).toNat = k + 1 := by omega
          have g5 : (0 : Int) ≤ (k : Int) + 1 := by omega
          go_wp2_with fail
          go_quiet (fail)
          have hst2 : St w (w'.drewN nq) X [other] l := hst.gw (gw_drewN (Fr.refl _ _) nq)
          clear hst q1 q2
          have hst := hst2
          clear hst2
          generalize w'.drewN nq = w5 at *
          have g6 : IntKind.i64.wrap ((k : Int) + 2) = (k : Int) + 2 := IntWalk.i64_in _ (by omega)
          have g7 : ((k : Int) + 2).toNat = k + 2 := by omega
          have g8 : ¬ (cA : Int) < k := by omega
          have g9 : ¬ (i : Int) < (k : Int) + 2 := by omega
          have gA : ¬ (cA : Int) < i := by omega
          have gB : (0 : Int) ≤ (k : Int) + 2 := by omega
          have hRn : cA = k + 2 → i - (k + 2) = 0 := by intro h; omega
          have HSZ : Hid ((∀ s ∈ [sb, sa], s.size ≤ 9223372036854775807) ∧ (∀ s ∈ [sb ++ sa], s.size ≤ 9223372036854775807) ∧ (∀ s ∈ [sb ++ sa, sb ++ sa], s.size ≤ 9223372036854775807) ∧ (∀ s ∈ [sa, sb], s.size ≤ 9223372036854775807)) := by
            refine Lib.hid ⟨?_, ?_, ?_, ?_⟩
            all_goals
              intro s hs
              simp only [List.mem_cons, List.not_mem_nil, or_false] at hs
              first | (rcases hs with rfl | rfl <;> (try rw [ByteArray.size_append]) <;> omega) | (subst hs; rw [ByteArray.size_append]; omega)
          by_cases hce : cA = k + 2
          · subst hce
            obtain rfl : i = k + 2 := by omega
            have hSR0 : Strs w (some ⟨bA, oA, none⟩) 0 R := by
              have h1 := HRL.out
              obtain rfl : R = [] := List.eq_nil_of_length_eq_zero (by omega)
              exact ⟨rfl, by omega, by simp, .inl rfl⟩
            clear HSR
            have HSR := Lib.hid hSR0
            clear hSR0
            go_wp2_with fail
            go_quiet (fail)
            have hst2 : St w (w5.drewN nq) X [other] (F ++ [sa, sb] ++ R) := by rw [← HFR.out]; exact hst.gw (gw_drewN (Fr.refl _ _) nq)
            clear hst
            have hst := hst2
            clear hst2
            generalize w5.drewN nq = w6 at *
            clear g1 g2 g3 g4 g5 g6 g7 g8 g9 gA gB hRn
            go_wp2_with fail
            refine (st_turnF (F := F) (ys := [sa, sb]) (R := R) (hst.gw (gw_alloc1 _ _)) _ _ ?_ ?_ ?_ ?_ _ _ _ [sb, sa] ?_ ?_ (strs_at _ _ _ [sb, sa] 2 _ rfl rfl rfl (by omega) ?_) ?_).mono ?_
            · simp [HFL.out]
            · rfl
            · simp
            · have := HFL.out; have := HRL.out; simp; omega
            · rfl
            · omega
            · exact HSZ.out.1
            · simp
            rintro e wn ⟨rfl, hn⟩
            clear hst
            have hst := hn
            clear hn
            go_wp2_with fail
            refine (st_all1n (n := k + 2 + 0) hst ?_).mono ?_
            · have := HFL.out; have := HRL.out; simp; omega
            rintro e w8 ⟨A', C', rfl, hr, hn⟩
            clear hst
            have hst := hn
            clear hn
            have HR1 := Lib.hid hr
            have HST := Lib.hid hst
            clear hr hst
            have HV0 := Lib.hid (show Since w8 (Value.slice (some ⟨w8.heap.size, 0, none⟩) 0 0) from ⟨_, rfl, Nat.le_refl _⟩)
            go_wp2_with (first | (at_builtin; refine wpList_rowG (by go_simp) (.tmp 79) (.tmp 80) rfl (.slice (some ⟨w8.heap.size, 0, none⟩) 0 0) 0 [] rfl (own_alloc0 w8) _ k (F.map Value.string) rfl (src_strsn (HSF.out.gw (gw_trans HST.out.2 (gw_alloc1 _ _))) (by simp)) (by omega) ?_; rw [Nat.zero_add, List.nil_append]; rintro v1 w9 ⟨A1, C1, rfl⟩ ho1 hgr1 hat1; have HG9 := Lib.hid (gw_app (gw_alloc1 _ _) hgr1 HV0.out); have HV1 := Lib.hid (own_next (gw_alloc1 _ _) HV0.out hat1); have HO1 := Lib.hid ho1; clear ho1 hgr1 hat1 HV0) | (at_builtin; refine wpList_rowG (by rfl) (.tmp 81) (.tmp 84) rfl (.slice A1 k C1) k _ rfl (World.ownsRow.alloc HO1.out _) _ 2 ([sb, sa].map Value.string) rfl (src_strsn (strs_at _ _ _ [sb, sa] 2 _ rfl rfl rfl (by omega) HSZ.out.1) (by simp)) (by omega) ?_; rintro v2 w10 ⟨A2, C2, rfl⟩ ho2 hgr2 hat2; have HG10 := Lib.hid (gw_app (gw_trans HG9.out (gw_alloc1 _ _)) hgr2 HV1.out); have HV2 := Lib.hid (own_next (gw_trans HG9.out (gw_alloc1 _ _)) HV1.out hat2); have HO2 := Lib.hid ho2; clear ho2 hgr2 hat2 HV1 HO1) | (at_builtin; refine wpList_rowG (by rfl) (.tmp 85) (.tmp 86) rfl (.slice A2 (k + 2) C2) (k + 2) _ rfl HO2.out _ 0 (R.map Value.string) rfl (src_strsn (HSR.out.gw (gw_trans HST.out.2 HG10.out)) (by simp)) (by omega) ?_; rintro v3 w11 ⟨A3, C3, rfl⟩ ho3 hgr3 hat3; have HG11 := Lib.hid (gw_app HG10.out hgr3 HV2.out); have HR3 := Lib.hid (own_strs (xs := F ++ [sb, sa] ++ R) (by simp only [List.map_append]; exact ho3) (by have := HFL.out; have := HRL.out; simp; omega) (by omega) (by intro s hs; rcases List.mem_append.1 hs with hs | hs; (· rcases List.mem_append.1 hs with hs | hs; (· exact HSF.out.2.2.1 s hs); (· exact HSZ.out.1 s hs)); (· exact HSR.out.2.2.1 s hs))); clear ho3 hgr3 hat3 HO2 HV2 HG9 HG10))
            refine (same _ _ _ _ _ (F ++ [sb, sa] ++ R) _ (HR1.out.gw HG11.out) HR3.out).mono ?_
            rintro e w12 ⟨rfl, hgs⟩
            have hst := HST.out.gw (gw_trans HG11.out hgs)
            clear hgs HG11 HR3 HR1 HST
            go_wp2_with fail
            refine (st_turnF (F := F) (ys := [sb, sa]) (R := R) (hst.gw (gw_alloc1 _ _)) _ _ ?_ ?_ ?_ ?_ _ _ _ [sb ++ sa] ?_ ?_ (strs_at _ _ _ [sb ++ sa] 1 _ rfl rfl rfl (by omega) ?_) ?_).mono ?_
            · simp [HFL.out]
            · rfl
            · simp
            · have := HFL.out; have := HRL.out; simp; omega
            · rfl
            · omega
            · exact HSZ.out.2.1
            · simp
            rintro e wn ⟨rfl, hn⟩
            clear hst
            have hst := hn
            clear hn
            go_wp2_with fail
            refine (st_all1n (n := k + 1 + 0) hst ?_).mono ?_
            · have := HFL.out; have := HRL.out; simp; omega
            rintro e w8 ⟨A', C', rfl, hr, hn⟩
            clear hst
            have hst := hn
            clear hn
            have HR1 := Lib.hid hr
            have HST := Lib.hid hst
            clear hr hst
            have HV0 := Lib.hid (show Since w8 (Value.slice (some ⟨w8.heap.size, 0, none⟩) 0 0) from ⟨_, rfl, Nat.le_refl _⟩)
            go_wp2_with (first | (at_builtin; refine wpList_rowG (by go_simp) (.tmp 102) (.tmp 103) rfl (.slice (some ⟨w8.heap.size, 0, none⟩) 0 0) 0 [] rfl (own_alloc0 w8) _ k (F.map Value.string) rfl (src_strsn (HSF.out.gw (gw_trans HST.out.2 (gw_alloc1 _ _))) (by simp)) (by omega) ?_; rw [Nat.zero_add, List.nil_append]; rintro v1 w9 ⟨A1, C1, rfl⟩ ho1 hgr1 hat1; have HG9 := Lib.hid (gw_app (gw_alloc1 _ _) hgr1 HV0.out); have HV1 := Lib.hid (own_next (gw_alloc1 _ _) HV0.out hat1); have HO1 := Lib.hid ho1; clear ho1 hgr1 hat1 HV0) | (at_builtin; refine wpList_rowG (by rfl) (.tmp 104) (.tmp 108) rfl (.slice A1 k C1) k _ rfl (World.ownsRow.alloc HO1.out _) _ 1 ([sb ++ sa].map Value.string) rfl (src_strsn (strs_at _ _ _ [sb ++ sa] 1 _ rfl rfl rfl (by omega) HSZ.out.2.1) (by simp)) (by omega) ?_; rintro v2 w10 ⟨A2, C2, rfl⟩ ho2 hgr2 hat2; have HG10 := Lib.hid (gw_app (gw_trans HG9.out (gw_alloc1 _ _)) hgr2 HV1.out); have HV2 := Lib.hid (own_next (gw_trans HG9.out (gw_alloc1 _ _)) HV1.out hat2); have HO2 := Lib.hid ho2; clear ho2 hgr2 hat2 HV1 HO1) | (at_builtin; refine wpList_rowG (by rfl) (.tmp 109) (.tmp 110) rfl (.slice A2 (k + 1) C2) (k + 1) _ rfl HO2.out _ 0 (R.map Value.string) rfl (src_strsn (HSR.out.gw (gw_trans HST.out.2 HG10.out)) (by simp)) (by omega) ?_; rintro v3 w11 ⟨A3, C3, rfl⟩ ho3 hgr3 hat3; have HG11 := Lib.hid (gw_app HG10.out hgr3 HV2.out); have HR3 := Lib.hid (own_strs (xs := F ++ [sb ++ sa] ++ R) (by simp only [List.map_append]; exact ho3) (by have := HFL.out; have := HRL.out; simp; omega) (by omega) (by intro s hs; rcases List.mem_append.1 hs with hs | hs; (· rcases List.mem_append.1 hs with hs | hs; (· exact HSF.out.2.2.1 s hs); (· exact HSZ.out.2.1 s hs)); (· exact HSR.out.2.2.1 s hs))); clear ho3 hgr3 hat3 HO2 HV2 HG9 HG10))
            refine (same _ _ _ _ _ (F ++ [sb ++ sa] ++ R) _ (HR1.out.gw HG11.out) HR3.out).mono ?_
            rintro e w12 ⟨rfl, hgs⟩
            have hst := HST.out.gw (gw_trans HG11.out hgs)
            clear hgs HG11 HR3 HR1 HST
            go_wp2_with fail
            refine (st_turnF (F := F) (ys := [sb ++ sa]) (R := R) (hst.gw (gw_alloc1 _ _)) _ _ ?_ ?_ ?_ ?_ _ _ _ [sb ++ sa, sb ++ sa] ?_ ?_ (strs_at _ _ _ [sb ++ sa, sb ++ sa] 2 _ rfl rfl rfl (by omega) ?_) ?_).mono ?_
            · simp [HFL.out]
            · rfl
            · simp
            · have := HFL.out; have := HRL.out; simp; omega
            · rfl
            · omega
            · exact HSZ.out.2.2.1
            · simp
            rintro e wn ⟨rfl, hn⟩
            clear hst
            have hst := hn
            clear hn
            have hst2 : St w wn X [other] ((F ++ [sb ++ sa]) ++ [sb ++ sa] ++ R) := by simpa using hst
            clear hst
            go_wp2_with fail
            refine (st_turnF (F := F ++ [sb ++ sa]) (ys := [sb ++ sa]) (R := R) hst2 _ _ ?_ ?_ ?_ ?_ none 0 0 [] rfl (by omega) (strs_nil _) (fun _ => rfl)).mono ?_
            · simp [HFL.out]
            · rfl
            · simp
            · have := HFL.out; have := HRL.out; simp; omega
            rintro e wm ⟨rfl, hn⟩
            have hst : St w wm X [other] (F ++ [sb ++ sa] ++ R) := by simpa using hn
            clear hn hst2
            go_wp2_with fail
            refine (st_turnF (F := F) (ys := [sb ++ sa]) (R := R) (hst.gw (gw_alloc1 _ _)) _ _ ?_ ?_ ?_ ?_ _ _ _ [sa, sb] ?_ ?_ (strs_at _ _ _ [sa, sb] 2 _ rfl rfl rfl (by omega) ?_) ?_).mono ?_
            · simp [HFL.out]
            · rfl
            · simp
            · have := HFL.out; have := HRL.out; simp; omega
            · rfl
            · omega
            · exact HSZ.out.2.2.2
            · simp
            rintro e wn ⟨rfl, hn⟩
            clear hst
            have hst := hn
            clear hn
            rw [← HFR.out] at hst
            go_wp2_with fail
            refine (st_all1n hst HL.out).mono ?_
            rintro e w8 ⟨A', C', rfl, hr, hn⟩
            clear hst
            have HST := Lib.hid hn
            have HR1 := Lib.hid hr
            clear hn hr
            go_wp2_with fail
            refine (same _ _ _ _ _ l _ HR1.out ((HS.out (by omega)).gw HST.out.2)).mono ?_
            rintro e w9 ⟨rfl, hgs⟩
            have hst := HST.out.gw hgs
            clear HST HR1 hgs
            go_wp2_with fail
            refine (st_all0n (n := 1) hst rfl).mono ?_
            rintro e w10 ⟨A2, C2, rfl, hr, hn⟩
            clear hst
            have HST := Lib.hid hn
            have HR1 := Lib.hid hr
            clear hn hr
            go_wp2_with fail
            refine (same _ _ _ _ _ [other] _ (HR1.out.gw (gw_alloc1 _ _)) (strs_at _ _ _ [other] 1 _ rfl rfl rfl (by omega) (by intro s hs; simp at hs; subst hs; exact HO.out))).mono ?_
            rintro e w11 ⟨rfl, hgs⟩
            have hg := gw_trans HST.out.2 (gw_trans (gw_alloc1 _ _) hgs)
            go_wp2_with fail
            go_ret
            exact ⟨rfl, hg⟩
          · obtain ⟨r, rfl⟩ : ∃ r, i = k + 2 + r := ⟨i - (k + 2), by omega⟩
            have hsub : k + 2 + r - (k + 2) = r := by omega
            have hSR0 := HSR.out
            rw [hsub] at hSR0
            clear HSR
            have HSR := Lib.hid hSR0
            clear hSR0
            go_wp2_with fail
            go_quiet (fail)
            clear hsub
            have hst2 : St w (w5.drewN nq) X [other] (F ++ [sa, sb] ++ R) := by rw [← HFR.out]; exact hst.gw (gw_drewN (Fr.refl _ _) nq)
            clear hst
            have hst := hst2
            clear hst2
            generalize w5.drewN nq = w6 at *
            clear g1 g2 g3 g4 g5 g6 g7 g8 g9 gA gB hRn
            go_wp2_with fail
            refine (st_turnF (F := F) (ys := [sa, sb]) (R := R) (hst.gw (gw_alloc1 _ _)) _ _ ?_ ?_ ?_ ?_ _ _ _ [sb, sa] ?_ ?_ (strs_at _ _ _ [sb, sa] 2 _ rfl rfl rfl (by omega) ?_) ?_).mono ?_
            · simp [HFL.out]
            · rfl
            · simp
            · have := HFL.out; have := HRL.out; simp; omega
            · rfl
            · omega
            · exact HSZ.out.1
            · simp
            rintro e wn ⟨rfl, hn⟩
            clear hst
            have hst := hn
            clear hn
            go_wp2_with fail
            refine (st_all1n (n := k + 2 + r) hst ?_).mono ?_
            · have := HFL.out; have := HRL.out; simp; omega
            rintro e w8 ⟨A', C', rfl, hr, hn⟩
            clear hst
            have hst := hn
            clear hn
            have HR1 := Lib.hid hr
            have HST := Lib.hid hst
            clear hr hst
            have HV0 := Lib.hid (show Since w8 (Value.slice (some ⟨w8.heap.size, 0, none⟩) 0 0) from ⟨_, rfl, Nat.le_refl _⟩)
            go_wp2_with (first | (at_builtin; refine wpList_rowG (by go_simp) (.tmp 79) (.tmp 80) rfl (.slice (some ⟨w8.heap.size, 0, none⟩) 0 0) 0 [] rfl (own_alloc0 w8) _ k (F.map Value.string) rfl (src_strsn (HSF.out.gw (gw_trans HST.out.2 (gw_alloc1 _ _))) (by simp)) (by omega) ?_; rw [Nat.zero_add, List.nil_append]; rintro v1 w9 ⟨A1, C1, rfl⟩ ho1 hgr1 hat1; have HG9 := Lib.hid (gw_app (gw_alloc1 _ _) hgr1 HV0.out); have HV1 := Lib.hid (own_next (gw_alloc1 _ _) HV0.out hat1); have HO1 := Lib.hid ho1; clear ho1 hgr1 hat1 HV0) | (at_builtin; refine wpList_rowG (by rfl) (.tmp 81) (.tmp 84) rfl (.slice A1 k C1) k _ rfl (World.ownsRow.alloc HO1.out _) _ 2 ([sb, sa].map Value.string) rfl (src_strsn (strs_at _ _ _ [sb, sa] 2 _ rfl rfl rfl (by omega) HSZ.out.1) (by simp)) (by omega) ?_; rintro v2 w10 ⟨A2, C2, rfl⟩ ho2 hgr2 hat2; have HG10 := Lib.hid (gw_app (gw_trans HG9.out (gw_alloc1 _ _)) hgr2 HV1.out); have HV2 := Lib.hid (own_next (gw_trans HG9.out (gw_alloc1 _ _)) HV1.out hat2); have HO2 := Lib.hid ho2; clear ho2 hgr2 hat2 HV1 HO1) | (at_builtin; refine wpList_rowG (by rfl) (.tmp 85) (.tmp 86) rfl (.slice A2 (k + 2) C2) (k + 2) _ rfl HO2.out _ r (R.map Value.string) rfl (src_strsn (HSR.out.gw (gw_trans HST.out.2 HG10.out)) (by simp)) (by omega) ?_; rintro v3 w11 ⟨A3, C3, rfl⟩ ho3 hgr3 hat3; have HG11 := Lib.hid (gw_app HG10.out hgr3 HV2.out); have HR3 := Lib.hid (own_strs (xs := F ++ [sb, sa] ++ R) (by simp only [List.map_append]; exact ho3) (by have := HFL.out; have := HRL.out; simp; omega) (by omega) (by intro s hs; rcases List.mem_append.1 hs with hs | hs; (· rcases List.mem_append.1 hs with hs | hs; (· exact HSF.out.2.2.1 s hs); (· exact HSZ.out.1 s hs)); (· exact HSR.out.2.2.1 s hs))); clear ho3 hgr3 hat3 HO2 HV2 HG9 HG10))
            refine (same _ _ _ _ _ (F ++ [sb, sa] ++ R) _ (HR1.out.gw HG11.out) HR3.out).mono ?_
            rintro e w12 ⟨rfl, hgs⟩
            have hst := HST.out.gw (gw_trans HG11.out hgs)
            clear hgs HG11 HR3 HR1 HST
            go_wp2_with fail
            refine (st_turnF (F := F) (ys := [sb, sa]) (R := R) (hst.gw (gw_alloc1 _ _)) _ _ ?_ ?_ ?_ ?_ _ _ _ [sb ++ sa] ?_ ?_ (strs_at _ _ _ [sb ++ sa] 1 _ rfl rfl rfl (by omega) ?_) ?_).mono ?_
            · simp [HFL.out]
            · rfl
            · simp
            · have := HFL.out; have := HRL.out; simp; omega
            · rfl
            · omega
            · exact HSZ.out.2.1
            · simp
            rintro e wn ⟨rfl, hn⟩
            clear hst
            have hst := hn
            clear hn
            go_wp2_with fail
            refine (st_all1n (n := k + 1 + r) hst ?_).mono ?_
            · have := HFL.out; have := HRL.out; simp; omega
            rintro e w8 ⟨A', C', rfl, hr, hn⟩
            clear hst
            have hst := hn
            clear hn
            have HR1 := Lib.hid hr
            have HST := Lib.hid hst
            clear hr hst
            have HV0 := Lib.hid (show Since w8 (Value.slice (some ⟨w8.heap.size, 0, none⟩) 0 0) from ⟨_, rfl, Nat.le_refl _⟩)
            go_wp2_with (first | (at_builtin; refine wpList_rowG (by go_simp) (.tmp 102) (.tmp 103) rfl (.slice (some ⟨w8.heap.size, 0, none⟩) 0 0) 0 [] rfl (own_alloc0 w8) _ k (F.map Value.string) rfl (src_strsn (HSF.out.gw (gw_trans HST.out.2 (gw_alloc1 _ _))) (by simp)) (by omega) ?_; rw [Nat.zero_add, List.nil_append]; rintro v1 w9 ⟨A1, C1, rfl⟩ ho1 hgr1 hat1; have HG9 := Lib.hid (gw_app (gw_alloc1 _ _) hgr1 HV0.out); have HV1 := Lib.hid (own_next (gw_alloc1 _ _) HV0.out hat1); have HO1 := Lib.hid ho1; clear ho1 hgr1 hat1 HV0) | (at_builtin; refine wpList_rowG (by rfl) (.tmp 104) (.tmp 108) rfl (.slice A1 k C1) k _ rfl (World.ownsRow.alloc HO1.out _) _ 1 ([sb ++ sa].map Value.string) rfl (src_strsn (strs_at _ _ _ [sb ++ sa] 1 _ rfl rfl rfl (by omega) HSZ.out.2.1) (by simp)) (by omega) ?_; rintro v2 w10 ⟨A2, C2, rfl⟩ ho2 hgr2 hat2; have HG10 := Lib.hid (gw_app (gw_trans HG9.out (gw_alloc1 _ _)) hgr2 HV1.out); have HV2 := Lib.hid (own_next (gw_trans HG9.out (gw_alloc1 _ _)) HV1.out hat2); have HO2 := Lib.hid ho2; clear ho2 hgr2 hat2 HV1 HO1) | (at_builtin; refine wpList_rowG (by rfl) (.tmp 109) (.tmp 110) rfl (.slice A2 (k + 1) C2) (k + 1) _ rfl HO2.out _ r (R.map Value.string) rfl (src_strsn (HSR.out.gw (gw_trans HST.out.2 HG10.out)) (by simp)) (by omega) ?_; rintro v3 w11 ⟨A3, C3, rfl⟩ ho3 hgr3 hat3; have HG11 := Lib.hid (gw_app HG10.out hgr3 HV2.out); have HR3 := Lib.hid (own_strs (xs := F ++ [sb ++ sa] ++ R) (by simp only [List.map_append]; exact ho3) (by have := HFL.out; have := HRL.out; simp; omega) (by omega) (by intro s hs; rcases List.mem_append.1 hs with hs | hs; (· rcases List.mem_append.1 hs with hs | hs; (· exact HSF.out.2.2.1 s hs); (· exact HSZ.out.2.1 s hs)); (· exact HSR.out.2.2.1 s hs))); clear ho3 hgr3 hat3 HO2 HV2 HG9 HG10))
            refine (same _ _ _ _ _ (F ++ [sb ++ sa] ++ R) _ (HR1.out.gw HG11.out) HR3.out).mono ?_
            rintro e w12 ⟨rfl, hgs⟩
            have hst := HST.out.gw (gw_trans HG11.out hgs)
            clear hgs HG11 HR3 HR1 HST
            go_wp2_with fail
            refine (st_turnF (F := F) (ys := [sb ++ sa]) (R := R) (hst.gw (gw_alloc1 _ _)) _ _ ?_ ?_ ?_ ?_ _ _ _ [sb ++ sa, sb ++ sa] ?_ ?_ (strs_at _ _ _ [sb ++ sa, sb ++ sa] 2 _ rfl rfl rfl (by omega) ?_) ?_).mono ?_
            · simp [HFL.out]
            · rfl
            · simp
            · have := HFL.out; have := HRL.out; simp; omega
            · rfl
            · omega
            · exact HSZ.out.2.2.1
            · simp
            rintro e wn ⟨rfl, hn⟩
            clear hst
            have hst := hn
            clear hn
            have hst2 : St w wn X [other] ((F ++ [sb ++ sa]) ++ [sb ++ sa] ++ R) := by simpa using hst
            clear hst
            go_wp2_with fail
            refine (st_turnF (F := F ++ [sb ++ sa]) (ys := [sb ++ sa]) (R := R) hst2 _ _ ?_ ?_ ?_ ?_ none 0 0 [] rfl (by omega) (strs_nil _) (fun _ => rfl)).mono ?_
            · simp [HFL.out]
            · rfl
            · simp
            · have := HFL.out; have := HRL.out; simp; omega
            rintro e wm ⟨rfl, hn⟩
            have hst : St w wm X [other] (F ++ [sb ++ sa] ++ R) := by simpa using hn
            clear hn hst2
            go_wp2_with fail
            refine (st_turnF (F := F) (ys := [sb ++ sa]) (R := R) (hst.gw (gw_alloc1 _ _)) _ _ ?_ ?_ ?_ ?_ _ _ _ [sa, sb] ?_ ?_ (strs_at _ _ _ [sa, sb] 2 _ rfl rfl rfl (by omega) ?_) ?_).mono ?_
            · simp [HFL.out]
            · rfl
            · simp
            · have := HFL.out; have := HRL.out; simp; omega
            · rfl
            · omega
            · exact HSZ.out.2.2.2
            · simp
            rintro e wn ⟨rfl, hn⟩
            clear hst
            have hst := hn
            clear hn
            rw [← HFR.out] at hst
            go_wp2_with fail
            refine (st_all1n hst HL.out).mono ?_
            rintro e w8 ⟨A', C', rfl, hr, hn⟩
            clear hst
            have HST := Lib.hid hn
            have HR1 := Lib.hid hr
            clear hn hr
            go_wp2_with fail
            refine (same _ _ _ _ _ l _ HR1.out ((HS.out (by omega)).gw HST.out.2)).mono ?_
            rintro e w9 ⟨rfl, hgs⟩
            have hst := HST.out.gw hgs
            clear HST HR1 hgs
            go_wp2_with fail
            refine (st_all0n (n := 1) hst rfl).mono ?_
            rintro e w10 ⟨A2, C2, rfl, hr, hn⟩
            clear hst
            have HST := Lib.hid hn
            have HR1 := Lib.hid hr
            clear hn hr
            go_wp2_with fail
            refine (same _ _ _ _ _ [other] _ (HR1.out.gw (gw_alloc1 _ _)) (strs_at _ _ _ [other] 1 _ rfl rfl rfl (by omega) (by intro s hs; simp at hs; subst hs; exact HO.out))).mono ?_
            rintro e w11 ⟨rfl, hgs⟩
            have hg := gw_trans HST.out.2 (gw_trans (gw_alloc1 _ _) hgs)
            go_wp2_with fail
            go_ret
            exact ⟨rfl, hg⟩
end Go.Proofs.Ytdaodpojcjbggaa.Ln
