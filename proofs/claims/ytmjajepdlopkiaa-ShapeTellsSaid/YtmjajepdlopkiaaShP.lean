/- Plain: a number told by its bits; how many bits are set, and that the sum by halves tells it. -/
import Derived.Lib.Hide
namespace Go.Proofs.Ytmjajepdlopkiaa.Sh
set_option linter.unusedVariables false

/-- The number whose n lowest bits are p. -/
def num (p : Nat → Bool) : Nat → Nat
  | 0 => 0
  | n + 1 => (p 0).toNat + 2 * num (fun i => p (i + 1)) n
/-- How many of the first n are. -/
def cnt (p : Nat → Bool) : Nat → Nat
  | 0 => 0
  | n + 1 => (p 0).toNat + cnt (fun i => p (i + 1)) n
theorem toNat_le (b : Bool) : b.toNat ≤ 1 := by cases b <;> decide
theorem num_lt (p : Nat → Bool) (n : Nat) : num p n < 2 ^ n := by
  induction n generalizing p with
  | zero => simp [num]
  | succ n ih =>
    have := ih (fun i => p (i + 1)); have := toNat_le (p 0)
    simp only [num, Nat.pow_succ]; omega
theorem num_bit (p : Nat → Bool) (n i : Nat) (h : i < n) : num p n / 2 ^ i % 2 = (p i).toNat := by
  induction n generalizing p i with
  | zero => omega
  | succ n ih =>
    cases i with
    | zero => have := toNat_le (p 0); simp only [num, Nat.pow_zero, Nat.div_one]; omega
    | succ i =>
      have := ih (fun i => p (i + 1)) i (by omega)
      have h2 := toNat_le (p 0)
      rw [← this, Nat.pow_succ, Nat.mul_comm, ← Nat.div_div_eq_div_mul]
      congr 2
      simp only [num]; omega
theorem num_testBit (p : Nat → Bool) (n i : Nat) (h : i < n) : (num p n).testBit i = p i := by
  rw [Nat.testBit_eq_decide_div_mod_eq, num_bit p n i h]; cases p i <;> rfl
theorem num_congr {p q : Nat → Bool} {n : Nat} (h : ∀ i, i < n → p i = q i) : num p n = num q n := by
  induction n generalizing p q with
  | zero => rfl
  | succ n ih => simp only [num]; rw [h 0 (by omega), ih (fun i hi => h (i + 1) (by omega))]
theorem cnt_congr {p q : Nat → Bool} {n : Nat} (h : ∀ i, i < n → p i = q i) : cnt p n = cnt q n := by
  induction n generalizing p q with
  | zero => rfl
  | succ n ih => simp only [cnt]; rw [h 0 (by omega), ih (fun i hi => h (i + 1) (by omega))]
theorem cnt_le (p : Nat → Bool) (n : Nat) : cnt p n ≤ n := by
  induction n generalizing p with
  | zero => exact Nat.le_refl _
  | succ n ih => have := ih (fun i => p (i + 1)); have := toNat_le (p 0); simp only [cnt]; omega
theorem cnt_mono {p q : Nat → Bool} {n : Nat} (h : ∀ i, i < n → p i = true → q i = true) : cnt p n ≤ cnt q n := by
  induction n generalizing p q with
  | zero => exact Nat.le_refl _
  | succ n ih =>
    have h1 := ih (p := fun i => p (i + 1)) (q := fun i => q (i + 1)) (fun i hi => h (i + 1) (by omega))
    have h2 : (p 0).toNat ≤ (q 0).toNat := by
      have := h 0 (by omega)
      cases hp : p 0 with
      | false => simp
      | true => rw [this hp]; simp
    simp only [cnt]; omega
theorem cnt_add (p : Nat → Bool) (m n : Nat) : cnt p (m + n) = cnt p m + cnt (fun i => p (m + i)) n := by
  induction m generalizing p with
  | zero => simp [cnt]
  | succ m ih =>
    rw [show m + 1 + n = (m + n) + 1 by omega]
    simp only [cnt]
    rw [ih]
    have : (fun i => p (m + i + 1)) = fun i => p (m + 1 + i) := by funext i; congr 1; omega
    rw [this]; omega
theorem cnt_snoc (p : Nat → Bool) (n : Nat) : cnt p (n + 1) = cnt p n + (p n).toNat := by
  rw [cnt_add]; simp [cnt]
theorem num_add (p : Nat → Bool) (m n : Nat) : num p (m + n) = num p m + 2 ^ m * num (fun i => p (m + i)) n := by
  induction m generalizing p with
  | zero => simp [num]
  | succ m ih =>
    rw [show m + 1 + n = (m + n) + 1 by omega]
    simp only [num]
    rw [ih]
    have : (fun i => p (m + i + 1)) = fun i => p (m + 1 + i) := by funext i; congr 1; omega
    rw [this, Nat.pow_succ, Nat.mul_comm (2 ^ m) 2, Nat.mul_assoc]; omega
theorem num_zero (p : Nat → Bool) (n : Nat) (h : ∀ i, i < n → p i = false) : num p n = 0 := by
  induction n generalizing p with
  | zero => rfl
  | succ n ih => simp only [num]; rw [h 0 (by omega), ih _ (fun i hi => h (i + 1) (by omega))]; rfl
theorem cnt_zero {p : Nat → Bool} {n : Nat} : cnt p n = 0 ↔ ∀ i, i < n → p i = false := by
  induction n generalizing p with
  | zero => simp [cnt]
  | succ n ih =>
    simp only [cnt]
    constructor
    · intro h i hi
      cases i with
      | zero => cases hp : p 0 with
        | false => rfl
        | true => rw [hp] at h; simp at h
      | succ i => exact (ih (p := fun i => p (i + 1))).1 (by omega) i (by omega)
    · intro h
      rw [h 0 (by omega), (ih (p := fun i => p (i + 1))).2 (fun i hi => h (i + 1) (by omega))]; rfl
theorem num_or (p : Nat → Bool) (n i : Nat) (h : i < n) : num p n ||| 2 ^ i = num (fun k => p k || k == i) n := by
  apply Nat.eq_of_testBit_eq
  intro k
  rw [Nat.testBit_or, Nat.testBit_two_pow]
  by_cases hk : k < n
  · rw [num_testBit _ _ _ hk, num_testBit _ _ _ hk, Bool.eq_iff_iff]
    simp; constructor <;> (rintro (h | h) <;> simp_all)
  · rw [Nat.testBit_lt_two_pow (Nat.lt_of_lt_of_le (num_lt _ _) (Nat.pow_le_pow_right (by omega) (by omega))), Nat.testBit_lt_two_pow (Nat.lt_of_lt_of_le (num_lt _ _) (Nat.pow_le_pow_right (by omega) (by omega)))]
    simp; omega

-- the sum by halves
theorem and_cons (d a m M : Nat) (hd : d < 256) (hm : m < 256) : (d + 256 * a) &&& (m + 256 * M) = (d &&& m) + 256 * (a &&& M) := by
  apply Nat.eq_of_testBit_eq
  intro j
  have e1 : d + 256 * a = 2 ^ 8 * a + d := by omega
  have e2 : m + 256 * M = 2 ^ 8 * M + m := by omega
  have e3 : (d &&& m) + 256 * (a &&& M) = 2 ^ 8 * (a &&& M) + (d &&& m) := by omega
  rw [Nat.testBit_and, e1, e2, e3, Nat.testBit_two_pow_mul_add _ hd, Nat.testBit_two_pow_mul_add _ hm, Nat.testBit_two_pow_mul_add _ (Nat.lt_of_le_of_lt Nat.and_le_left hd)]
  split <;> rw [Nat.testBit_and]
/-- A mask of k like bytes. -/
def mk (m : Nat) : Nat → Nat
  | 0 => 0
  | k + 1 => m + 256 * mk m k
def n1 (M x : Nat) : Nat := (x / 2 &&& M) + (x &&& M)
def n2 (M x : Nat) : Nat := (x / 4 &&& M) + (x &&& M)
def n3 (M x : Nat) : Nat := (x / 16 + x) &&& M
theorem k1 : ∀ d, d < 256 → ∀ a, a < 2 → (d / 2 + 128 * a) &&& 85 = d / 2 &&& 85 := by decide +kernel
theorem k2 : ∀ d, d < 256 → ∀ a, a < 4 → (d / 4 + 64 * a) &&& 51 = d / 4 &&& 51 := by decide +kernel
theorem k3 : ∀ d, d < 256 → n1 85 d < 256 := by decide +kernel
theorem k4 : ∀ d, d < 256 → n2 51 d ≤ 102 := by decide +kernel
theorem n1_cons (k d a : Nat) (hd : d < 256) : n1 (mk 85 (k + 1)) (d + 256 * a) = n1 85 d + 256 * n1 (mk 85 k) a := by
  unfold n1
  rw [show (d + 256 * a) / 2 = (d / 2 + 128 * (a % 2)) + 256 * (a / 2) by omega]
  simp only [mk]
  rw [and_cons _ _ _ _ (by omega) (by omega), and_cons _ _ _ _ hd (by omega), k1 d hd _ (Nat.mod_lt _ (by omega))]
  omega
theorem n2_cons (k d a : Nat) (hd : d < 256) : n2 (mk 51 (k + 1)) (d + 256 * a) = n2 51 d + 256 * n2 (mk 51 k) a := by
  unfold n2
  rw [show (d + 256 * a) / 4 = (d / 4 + 64 * (a % 4)) + 256 * (a / 4) by omega]
  simp only [mk]
  rw [and_cons _ _ _ _ (by omega) (by omega), and_cons _ _ _ _ hd (by omega), k2 d hd _ (Nat.mod_lt _ (by omega))]
  omega
theorem mk_mod (k : Nat) : mk 51 k % 16 ≤ 3 := by cases k <;> simp only [mk] <;> omega
theorem n2_mod (k b : Nat) : n2 (mk 51 k) b % 16 ≤ 6 := by
  have h : ∀ u, (u &&& mk 51 k) % 16 ≤ 3 := fun u => by
    have := Nat.and_mod_two_pow (a := u) (b := mk 51 k) (n := 4)
    rw [show (2 : Nat) ^ 4 = 16 from rfl] at this
    rw [this]
    exact Nat.le_trans Nat.and_le_right (mk_mod k)
  unfold n2
  have := h (b / 4); have := h b; omega
theorem n3_cons (k d a : Nat) (hd : d ≤ 102) (ha : a % 16 ≤ 6) : n3 (mk 15 (k + 1)) (d + 256 * a) = n3 15 d + 256 * n3 (mk 15 k) a := by
  unfold n3
  rw [show (d + 256 * a) / 16 + (d + 256 * a) = (d / 16 + 16 * (a % 16) + d) + 256 * (a / 16 + a) by omega]
  simp only [mk]
  rw [and_cons _ _ _ _ (by omega) (by omega)]
  congr 1
  rw [show (15 : Nat) = 2 ^ 4 - 1 from rfl, Nat.and_two_pow_sub_one_eq_mod, Nat.and_two_pow_sub_one_eq_mod]
  omega
/-- The bytes' counts, side by side. -/
def bc (p : Nat → Bool) : Nat → Nat
  | 0 => 0
  | k + 1 => cnt p 8 + 256 * bc (fun i => p (8 + i)) k
theorem byte8 : ∀ b0 b1 b2 b3 b4 b5 b6 b7 : Bool, n3 15 (n2 51 (n1 85 (b0.toNat + 2 * (b1.toNat + 2 * (b2.toNat + 2 * (b3.toNat + 2 * (b4.toNat + 2 * (b5.toNat + 2 * (b6.toNat + 2 * (b7.toNat + 2 * 0)))))))))) =
    b0.toNat + (b1.toNat + (b2.toNat + (b3.toNat + (b4.toNat + (b5.toNat + (b6.toNat + (b7.toNat + 0))))))) := by decide +kernel
theorem byte_cnt (p : Nat → Bool) : n3 15 (n2 51 (n1 85 (num p 8))) = cnt p 8 := byte8 _ _ _ _ _ _ _ _
theorem halves (k : Nat) : ∀ p : Nat → Bool, n3 (mk 15 k) (n2 (mk 51 k) (n1 (mk 85 k) (num p (8 * k)))) = bc p k := by
  induction k with
  | zero => intro p; simp [bc, mk, n3]
  | succ k ih =>
    intro p
    have hd : num p 8 < 256 := num_lt p 8
    have h1 := k3 _ hd
    rw [show 8 * (k + 1) = 8 + 8 * k by omega, num_add, show (2 : Nat) ^ 8 = 256 from rfl, n1_cons _ _ _ hd, n2_cons _ _ _ h1, n3_cons _ _ _ (k4 _ h1) (n2_mod _ _), ih, byte_cnt]
    rfl
def n4 (x : Nat) : Nat := x + x / 256
def n5 (x : Nat) : Nat := x + x / 65536
def n6 (x : Nat) : Nat := x + x / 4294967296
theorem fold8 (c0 c1 c2 c3 c4 c5 c6 c7 : Nat) (h0 : c0 ≤ 8) (h1 : c1 ≤ 8) (h2 : c2 ≤ 8) (h3 : c3 ≤ 8) (h4 : c4 ≤ 8) (h5 : c5 ≤ 8) (h6 : c6 ≤ 8) (h7 : c7 ≤ 8) :
    n6 (n5 (n4 (c0 + 256 * (c1 + 256 * (c2 + 256 * (c3 + 256 * (c4 + 256 * (c5 + 256 * (c6 + 256 * (c7 + 256 * 0))))))))))  % 128 = c0 + c1 + c2 + c3 + c4 + c5 + c6 + c7 := by
  have e4 : n4 (c0 + 256 * (c1 + 256 * (c2 + 256 * (c3 + 256 * (c4 + 256 * (c5 + 256 * (c6 + 256 * (c7 + 256 * 0)))))))) = (c0 + c1) + 256 * (c1 + c2) + 65536 * ((c2 + c3) + 256 * (c3 + c4) + 65536 * ((c4 + c5) + 256 * (c5 + c6) + 65536 * ((c6 + c7) + 256 * c7))) := by unfold n4; omega
  rw [e4]
  have e5 : ∀ a b c d, a < 65536 → n5 (a + 65536 * (b + 65536 * (c + 65536 * d))) = (a + b) + 65536 * (b + c) + 4294967296 * ((c + d) + 65536 * d) := by intro a b c d h; unfold n5; omega
  rw [e5 _ _ _ _ (by omega)]
  unfold n6
  have e6 : ∀ a b, a < 4294967296 → (a + 4294967296 * b) / 4294967296 = b := by intro a b h; omega
  rw [e6 _ _ (by omega)]
  omega
theorem cnt64 (p : Nat → Bool) : cnt p 64 = cnt p 8 + cnt (fun i => p (8 + i)) 8 + cnt (fun i => p (8 + (8 + i))) 8 + cnt (fun i => p (8 + (8 + (8 + i)))) 8 + cnt (fun i => p (8 + (8 + (8 + (8 + i))))) 8 + cnt (fun i => p (8 + (8 + (8 + (8 + (8 + i)))))) 8 + cnt (fun i => p (8 + (8 + (8 + (8 + (8 + (8 + i))))))) 8 + cnt (fun i => p (8 + (8 + (8 + (8 + (8 + (8 + (8 + i)))))))) 8 := by
  rw [show 64 = 8 + (8 + (8 + (8 + (8 + (8 + (8 + 8)))))) from rfl]
  simp only [cnt_add _ 8 (8 + _)]
  rw [cnt_add _ 8 8]
  omega
theorem swar (p : Nat → Bool) : n6 (n5 (n4 (n3 1085102592571150095 (n2 3689348814741910323 (n1 6148914691236517205 (num p 64)))))) % 128 = cnt p 64 := by
  have h := halves 8 p
  have m1 : mk 85 8 = 6148914691236517205 := by decide
  have m2 : mk 51 8 = 3689348814741910323 := by decide
  have m3 : mk 15 8 = 1085102592571150095 := by decide
  rw [m1, m2, m3, show 8 * 8 = 64 from rfl] at h
  rw [h, cnt64]
  exact fold8 _ _ _ _ _ _ _ _ (cnt_le _ _) (cnt_le _ _) (cnt_le _ _) (cnt_le _ _) (cnt_le _ _) (cnt_le _ _) (cnt_le _ _) (cnt_le _ _)
end Go.Proofs.Ytmjajepdlopkiaa.Sh
