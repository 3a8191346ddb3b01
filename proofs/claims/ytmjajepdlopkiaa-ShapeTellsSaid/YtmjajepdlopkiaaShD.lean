/- has, Has, Many, New. -/
import Derived.Test.YtmjajepdlopkiaaShC
import Derived.LoopTactic
namespace Go.Proofs.Ytmjajepdlopkiaa.Sh
open Go.RowKit
set_option linter.unusedVariables false
set_option linter.unusedSimpArgs false

theorem wd_lt (f : Nat → Bool) (j : Nat) : wd f j < 18446744073709551616 := num_lt _ 64
theorem wd_bit (f : Nat → Bool) (b : Nat) : wd f (b / 64) / 2 ^ (b % 64) % 2 = (f b).toNat := by
  unfold wd
  rw [num_bit _ _ _ (Nat.mod_lt _ (by omega))]
  congr 2; omega
theorem u8_63 (b : Nat) (h : b < 256) : bits .and .u8 (b : Int) 63 = ((b % 64 : Nat) : Int) := by
  have := u8_and_nat b 63 h (by omega)
  rw [nat_mask6] at this
  exact this
theorem u64_1 (x : Nat) (h : x < 18446744073709551616) : bits .and .u64 (x : Int) 1 = ((x % 2 : Nat) : Int) := by
  have := u64_and_nat x 1 h (by omega)
  rw [nat_mask1] at this
  exact this
theorem bit_is {x k : Nat} {p : Bool} (h : x < 18446744073709551616) (hp : x / 2 ^ k % 2 = p.toNat) : (bits .and .u64 ((x : Int) / 2 ^ k) 1 == 1) = p := by
  have e : ((x : Int) / 2 ^ k) = ((x / 2 ^ k : Nat) : Int) := by simp
  rw [e, u64_1 _ (Nat.lt_of_le_of_lt (Nat.div_le_self _ _) h), hp]
  cases p <;> rfl
set_option maxRecDepth 100000 in
theorem hasS (f : Nat → Bool) (b : Nat) (hb : b < 256) (w : World) : Calls Try.prog 48 #[setV f, .int .u8 b] w fun e w' => e = .returned (.bool (f b)) ∧ Gw w w' := by
  have hw := wd_bit f b
  have hl := wd_lt f (b / 64)
  obtain ⟨x0, e0⟩ : ∃ a, wd f 0 = a := ⟨_, rfl⟩
  obtain ⟨x1, e1⟩ : ∃ a, wd f 1 = a := ⟨_, rfl⟩
  obtain ⟨x2, e2⟩ : ∃ a, wd f 2 = a := ⟨_, rfl⟩
  obtain ⟨x3, e3⟩ : ∃ a, wd f 3 = a := ⟨_, rfl⟩
  have h63 := u8_63 b hb
  have hj : b / 64 = 0 ∨ b / 64 = 1 ∨ b / 64 = 2 ∨ b / 64 = 3 := by omega
  have HB := Lib.hid hb
  unfold setV
  rw [e0, e1, e2, e3]
  rcases hj with hj | hj | hj | hj
  · have hd : (b : Int) / 64 = 0 := by omega
    rw [hj, e0] at hw hl
    have HF := Lib.hid (bit_is hl hw)
    clear e0 e1 e2 e3 hw hl
    go_enter Try.func48, Try.ntmps48
    go_wp2
    go_ret
    exact ⟨ret_bool HF.out, gw_alloc1 _ _⟩
  · have hd : (b : Int) / 64 = 1 := by omega
    rw [hj, e1] at hw hl
    have HF := Lib.hid (bit_is hl hw)
    clear e0 e1 e2 e3 hw hl
    go_enter Try.func48, Try.ntmps48
    go_wp2
    go_ret
    exact ⟨ret_bool HF.out, gw_alloc1 _ _⟩
  · have hd : (b : Int) / 64 = 2 := by omega
    rw [hj, e2] at hw hl
    have HF := Lib.hid (bit_is hl hw)
    clear e0 e1 e2 e3 hw hl
    go_enter Try.func48, Try.ntmps48
    go_wp2
    go_ret
    exact ⟨ret_bool HF.out, gw_alloc1 _ _⟩
  · have hd : (b : Int) / 64 = 3 := by omega
    rw [hj, e3] at hw hl
    have HF := Lib.hid (bit_is hl hw)
    clear e0 e1 e2 e3 hw hl
    go_enter Try.func48, Try.ntmps48
    go_wp2
    go_ret
    exact ⟨ret_bool HF.out, gw_alloc1 _ _⟩
theorem hasNil (off : Int) (b : Nat) (hb : b < 256) (w : World) : Calls Try.prog 34 #[.pointer none, .int .i64 off, .int .u8 b] w fun e w' => e = .returned (.bool false) ∧ Gw w w' := by
  go_enter Try.func34, Try.ntmps34
  go_wp2_with fail
  refine (atNil _ _).mono ?_
  rintro e w1 ⟨rfl, hg1⟩
  have HG1 := Lib.hid hg1
  clear hg1
  go_wp2_with fail
  refine (hasS _ b hb _).mono ?_
  rintro e w2 ⟨rfl, hg2⟩
  have HG2 := Lib.hid hg2
  clear hg2
  go_wp2_with fail
  go_ret
  exact ⟨rfl, gw_trans HG1.out HG2.out⟩
theorem has_ {w X g cp isn n C} (h : CameAt w X g cp isn n C) (off : Int) (b : Nat) (hb : b < 256) : Calls Try.prog 34 #[.pointer (some ⟨X, 0, none⟩), .int .i64 off, .int .u8 b] w fun e w' => e = .returned (.bool (row n C off b)) ∧ Gw w w' := by
  have H := Lib.hid h
  clear h
  generalize hf : row n C off = f
  have HF := Lib.hid hf
  clear hf
  go_enter Try.func34, Try.ntmps34
  go_wp2_with fail
  refine (at_ H.out _).mono ?_
  rw [HF.out]
  rintro e w1 ⟨rfl, hg1⟩
  have HG1 := Lib.hid hg1
  clear hg1
  go_wp2_with fail
  refine (hasS f b hb _).mono ?_
  rintro e w2 ⟨rfl, hg2⟩
  have HG2 := Lib.hid hg2
  clear hg2
  go_wp2_with fail
  go_ret
  exact ⟨rfl, gw_trans HG1.out HG2.out⟩
theorem wd_zero {f : Nat → Bool} {j : Nat} (h : wd f j = 0) : cnt (fun i => f (64 * j + i)) 64 = 0 := by
  rw [cnt_zero]
  intro i hi
  have := num_bit (fun i => f (64 * j + i)) 64 i hi
  unfold wd at h
  rw [h] at this
  simp at this
  cases hp : f (64 * j + i) with
  | false => rfl
  | true => rw [hp] at this; simp at this
theorem cnt256 (f : Nat → Bool) : cnt f 256 = cnt (fun i => f (64 * 0 + i)) 64 + cnt (fun i => f (64 * 1 + i)) 64 + cnt (fun i => f (64 * 2 + i)) 64 + cnt (fun i => f (64 * 3 + i)) 64 := by
  rw [show 256 = 64 + (64 + (64 + 64)) from rfl, cnt_add, cnt_add, cnt_add]
  have e : ∀ a b : Nat → Bool, (∀ i, a i = b i) → cnt a 64 = cnt b 64 := fun a b h => cnt_congr (fun i _ => h i)
  rw [e f (fun i => f (64 * 0 + i)) (fun i => by congr 1; omega), e (fun i => f (64 + (64 + i))) (fun i => f (64 * 2 + i)) (fun i => by congr 1; omega), e (fun i => f (64 + (64 + (64 + i)))) (fun i => f (64 * 3 + i)) (fun i => by congr 1; omega), e (fun i => f (64 + i)) (fun i => f (64 * 1 + i)) (fun i => rfl)]
  omega
/-- All four are 0. -/
def allz (a b c d : Int) : Bool := a == 0 && (b == 0 && (c == 0 && d == 0))
theorem eqi (d : Nat) (a b : Int) (w : World) : (Op.equalIn (d+1) 33 (.int .u64 a) (.int .u64 b)).run Try.prog w = .ok (a == b) w := run_equalIn_int w d 33 .u64 .u64 a b Try.underlying33
theorem part4 (xs : Array Value) (i : Nat) (x : Value) (h : xs[i]? = some x) (w : World) : (part 33 xs i).run Try.prog w = .ok x w := by
  unfold part
  simp [go_sem, h]
theorem size33 (w : World) : (sizeOf 33).run Try.prog w = .ok 1 w := by kernel_rfl
theorem eq4 (a b c d : Int) (w : World) : (Op.equalIn 10000 84 (.agg #[.int .u64 a, .int .u64 b, .int .u64 c, .int .u64 d]) (.agg #[.int .u64 0, .int .u64 0, .int .u64 0, .int .u64 0])).run Try.prog w = .ok (allz a b c d) w := by
  unfold allz
  rw [show 10000 = 9998 + 1 + 1 from rfl]
  unfold Op.equalIn
  have p0 := fun w => part4 #[.int .u64 a, .int .u64 b, .int .u64 c, .int .u64 d] 0 (.int .u64 a) rfl w
  have p1 := fun w => part4 #[.int .u64 a, .int .u64 b, .int .u64 c, .int .u64 d] 1 (.int .u64 b) rfl w
  have p2 := fun w => part4 #[.int .u64 a, .int .u64 b, .int .u64 c, .int .u64 d] (1 + 1) (.int .u64 c) rfl w
  have p3 := fun w => part4 #[.int .u64 a, .int .u64 b, .int .u64 c, .int .u64 d] (1 + 1 + 1) (.int .u64 d) rfl w
  have z0 := fun w => part4 #[.int .u64 0, .int .u64 0, .int .u64 0, .int .u64 0] 0 (.int .u64 0) rfl w
  have z1 := fun w => part4 #[.int .u64 0, .int .u64 0, .int .u64 0, .int .u64 0] 1 (.int .u64 0) rfl w
  have z2 := fun w => part4 #[.int .u64 0, .int .u64 0, .int .u64 0, .int .u64 0] (1 + 1) (.int .u64 0) rfl w
  have z3 := fun w => part4 #[.int .u64 0, .int .u64 0, .int .u64 0, .int .u64 0] (1 + 1 + 1) (.int .u64 0) rfl w
  simp only [Sem.run_bind, run_underlying (P := Try.prog) Try.underlying84, Result.andThen_ok]
  simp only [Std.Legacy.Range.forIn_eq_forIn_range', Std.Legacy.Range.size, List.range', size33, Result.andThen_ok]
  simp only [Nat.sub_zero, Nat.add_one_sub_one, Nat.div_one, List.range', List.forIn_cons, List.forIn_nil, Sem.run_bind, Result.andThen_ok, Nat.zero_add, Nat.zero_mul, Nat.one_mul, Nat.mul_one, p0, z0, eqi]
  cases a == 0 with
  | false => simp [go_sem]
  | true =>
    simp only [Bool.not_true, Bool.false_eq_true, if_false, Sem.run_pure, Sem.run_bind, Result.andThen_ok, p1, z1, eqi]
    cases b == 0 with
    | false => simp [go_sem]
    | true =>
      simp only [Bool.not_true, Bool.false_eq_true, if_false, Sem.run_pure, Sem.run_bind, Result.andThen_ok, p2, z2, eqi]
      cases c == 0 with
      | false => simp [go_sem]
      | true =>
        simp only [Bool.not_true, Bool.false_eq_true, if_false, Sem.run_pure, Sem.run_bind, Result.andThen_ok, p3, z3, eqi]
        cases d == 0 with
        | false => simp [go_sem]
        | true => simp [go_sem]
/-- The counts of the first k words. -/
def upto (c0 c1 c2 c3 : Nat) (k : Nat) : Nat := (if 0 < k then c0 else 0) + (if 1 < k then c1 else 0) + (if 2 < k then c2 else 0) + (if 3 < k then c3 else 0)
attribute [local go_sem] eq4
set_option maxRecDepth 100000 in
theorem many_ {w X g cp isn n C} (h : CameAt w X g cp isn n C) (off : Int) : Calls Try.prog 33 #[.pointer (some ⟨X, 0, none⟩), .int .i64 off] w fun e w' => e = .returned (.int .i64 (cnt (row n C off) 256 : Nat)) ∧ Gw w w' := by
  have H := Lib.hid h
  clear h
  generalize hf : row n C off = f
  have HF := Lib.hid hf
  clear hf
  have k4 := cnt256 f
  have o0 := fun w => ones (fun i => f (64 * 0 + i)) w
  have o1 := fun w => ones (fun i => f (64 * 1 + i)) w
  have o2 := fun w => ones (fun i => f (64 * 2 + i)) w
  have o3 := fun w => ones (fun i => f (64 * 3 + i)) w
  have z0 := wd_zero (f := f) (j := 0)
  have z1 := wd_zero (f := f) (j := 1)
  have z2 := wd_zero (f := f) (j := 2)
  have z3 := wd_zero (f := f) (j := 3)
  have y0 := cnt_le (fun i => f (64 * 0 + i)) 64
  have y1 := cnt_le (fun i => f (64 * 1 + i)) 64
  have y2 := cnt_le (fun i => f (64 * 2 + i)) 64
  have y3 := cnt_le (fun i => f (64 * 3 + i)) 64
  have u0 := wd_lt f 0
  have u1 := wd_lt f 1
  have u2 := wd_lt f 2
  have u3 := wd_lt f 3
  have hs : setV f = .agg #[.int .u64 (num (fun i => f (64 * 0 + i)) 64 : Nat), .int .u64 (num (fun i => f (64 * 1 + i)) 64 : Nat), .int .u64 (num (fun i => f (64 * 2 + i)) 64 : Nat), .int .u64 (num (fun i => f (64 * 3 + i)) 64 : Nat)] := rfl
  unfold wd at z0 z1 z2 z3 u0 u1 u2 u3
  generalize num (fun i => f (64 * 0 + i)) 64 = x0 at *
  generalize num (fun i => f (64 * 1 + i)) 64 = x1 at *
  generalize num (fun i => f (64 * 2 + i)) 64 = x2 at *
  generalize num (fun i => f (64 * 3 + i)) 64 = x3 at *
  generalize cnt (fun i => f (64 * 0 + i)) 64 = c0 at *
  generalize cnt (fun i => f (64 * 1 + i)) 64 = c1 at *
  generalize cnt (fun i => f (64 * 2 + i)) 64 = c2 at *
  generalize cnt (fun i => f (64 * 3 + i)) 64 = c3 at *
  generalize cnt f 256 = c at *
  have O0 := Lib.hid o0; have O1 := Lib.hid o1; have O2 := Lib.hid o2; have O3 := Lib.hid o3
  have HS := Lib.hid hs; have K4 := Lib.hid k4
  have ZZ : Hid (x0 = 0 → x1 = 0 → x2 = 0 → x3 = 0 → c = 0) := Lib.hid (fun h0 h1 h2 h3 => by rw [k4, z0 h0, z1 h1, z2 h2, z3 h3])
  clear o0 o1 o2 o3 hs k4 z0 z1 z2 z3
  cases hz : allz x0 x1 x2 x3 with
  | true =>
    have hc : c = 0 := by
      unfold allz at hz
      simp at hz
      exact ZZ.out (by omega) (by omega) (by omega) (by omega)
    subst hc
    go_enter Try.func33, Try.ntmps33
    go_wp2_with fail
    refine (at_ H.out _).mono ?_
    rw [HF.out]
    unfold SetP
    rw [HS.out]
    rintro e w1 ⟨rfl, hg1⟩
    have HG1 := Lib.hid hg1
    clear hg1
    go_wp2_with fail
    go_ret
    exact ⟨rfl, gw_trans HG1.out (gw_alloc1 _ _)⟩
  | false =>
    go_enter Try.func33, Try.ntmps33
    go_wp2_with fail
    refine (at_ H.out _).mono ?_
    rw [HF.out]
    unfold SetP
    rw [HS.out]
    rintro e w1 ⟨rfl, hg1⟩
    have HG1 := Lib.hid hg1
    clear hg1
    have i0 : ∀ w, (Instr.index 84 (.agg #[.int .u64 x0, .int .u64 x1, .int .u64 x2, .int .u64 x3]) (.int .i64 0)).run Try.prog w = .ok (.int .u64 x0) w := fun _ => by kernel_rfl
    have i1 : ∀ w, (Instr.index 84 (.agg #[.int .u64 x0, .int .u64 x1, .int .u64 x2, .int .u64 x3]) (.int .i64 1)).run Try.prog w = .ok (.int .u64 x1) w := fun _ => by kernel_rfl
    have i2 : ∀ w, (Instr.index 84 (.agg #[.int .u64 x0, .int .u64 x1, .int .u64 x2, .int .u64 x3]) (.int .i64 2)).run Try.prog w = .ok (.int .u64 x2) w := fun _ => by kernel_rfl
    have i3 : ∀ w, (Instr.index 84 (.agg #[.int .u64 x0, .int .u64 x1, .int .u64 x2, .int .u64 x3]) (.int .i64 3)).run Try.prog w = .ok (.int .u64 x3) w := fun _ => by kernel_rfl
    go_wp2_with fail
    go_loop [4, 15] (fun v4 v15 => ∃ k : Nat, k ≤ 4 ∧ v15 = .int .i64 k ∧ v4 = .int .i64 (upto c0 c1 c2 c3 k : Nat)) (fun _ v15 => 4 - (intOf v15).toNat)
    case atStart => exact ⟨0, by omega, rfl, rfl⟩
    case round =>
      obtain ⟨k, hk, rfl, rfl⟩ := hrel
      have hk4 : k = 0 ∨ k = 1 ∨ k = 2 ∨ k = 3 ∨ k = 4 := by omega
      rcases hk4 with rfl | rfl | rfl | rfl | rfl
      · have e : upto c0 c1 c2 c3 0 = 0 := rfl
        have e1 : upto c0 c1 c2 c3 1 = c0 := by simp [upto]
        rw [e]
        go_wp2_with (go_at_call 47; refine (O0.out _).mono ?_; rintro e w2 ⟨rfl, rfl⟩)
        go_round
        case rel => exact ⟨1, by omega, by go_num, by rw [e1]⟩
        case measure => simp [intOf]
      · have e : upto c0 c1 c2 c3 1 = c0 := by simp [upto]
        have e1 : upto c0 c1 c2 c3 2 = c0 + c1 := by simp [upto]
        rw [e]
        go_wp2_with (go_at_call 47; refine (O1.out _).mono ?_; rintro e w2 ⟨rfl, rfl⟩)
        go_round
        case rel => exact ⟨2, by omega, by go_num, by rw [e1]; simp⟩
        case measure => simp [intOf]
      · have e : upto c0 c1 c2 c3 2 = c0 + c1 := by simp [upto]
        have e1 : upto c0 c1 c2 c3 3 = c0 + c1 + c2 := by simp [upto]
        rw [e]
        go_wp2_with (go_at_call 47; refine (O2.out _).mono ?_; rintro e w2 ⟨rfl, rfl⟩)
        go_round
        case rel => exact ⟨3, by omega, by go_num, by rw [e1]; simp⟩
        case measure => simp [intOf]
      · have e : upto c0 c1 c2 c3 3 = c0 + c1 + c2 := by simp [upto]
        have e1 : upto c0 c1 c2 c3 4 = c0 + c1 + c2 + c3 := by simp [upto]
        rw [e]
        go_wp2_with (go_at_call 47; refine (O3.out _).mono ?_; rintro e w2 ⟨rfl, rfl⟩)
        go_round
        case rel => exact ⟨4, by omega, by go_num, by rw [e1]; simp⟩
        case measure => simp [intOf]
      · have e : upto c0 c1 c2 c3 4 = c := by rw [K4.out]; simp [upto]
        rw [e]
        go_wp2_with fail
        go_ret
        exact ⟨rfl, gw_trans HG1.out (gw_alloc1 _ _)⟩
end Go.Proofs.Ytmjajepdlopkiaa.Sh
