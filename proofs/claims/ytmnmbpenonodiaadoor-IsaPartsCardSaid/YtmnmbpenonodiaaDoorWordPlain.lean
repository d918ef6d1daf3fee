/- Plain facts on words of 32 bits: sums, differences, products, quotients, shifts. No program in sight. -/
import Derived.Laws.BitsAllLaws
namespace Go.Proofs.YtmnmbpenonodiaaDoor
set_option linter.unusedVariables false
set_option linter.unusedSimpArgs false
namespace W

/-- a word's signed number. -/
def sg (a : Int) : Int := if 2147483648 ≤ a then a - 4294967296 else a
/-- does a signed number lie outside? -/
def out (n : Int) : Bool := decide (n < -2147483648 ∨ 2147483648 ≤ n)
def wd (n : Int) : Int := n % 4294967296

theorem wd_lo (n : Int) : 0 ≤ wd n := by unfold wd; omega
theorem wd_hi (n : Int) : wd n < 4294967296 := by unfold wd; omega
theorem sg_bd {a : Int} (h0 : 0 ≤ a) (h1 : a < 4294967296) : -2147483648 ≤ sg a ∧ sg a < 2147483648 := by unfold sg; split <;> omega
theorem sg_wd {a : Int} (h0 : 0 ≤ a) (h1 : a < 4294967296) : wd (sg a) = a := by unfold sg wd; split <;> omega
theorem wd_sg {n : Int} (h0 : -2147483648 ≤ n) (h1 : n < 2147483648) : sg (wd n) = n := by unfold sg wd; split <;> omega

/-- the highest bit of 32. -/
theorem top (x : Nat) (h : x < 4294967296) : x.testBit 31 = decide (2147483648 ≤ x) := by
  rw [Nat.testBit_eq_decide_div_mod_eq, Bool.eq_iff_iff, decide_eq_true_eq, decide_eq_true_eq]
  omega
theorem top_and (x y : Nat) (hx : x < 4294967296) (hy : y < 4294967296) : (2147483648 ≤ x &&& y) ↔ (2147483648 ≤ x ∧ 2147483648 ≤ y) := by
  have h := top (x &&& y) (Nat.and_lt_two_pow x (n := 32) hy)
  rw [Nat.testBit_and, top x hx, top y hy, Bool.eq_iff_iff] at h
  simpa using h.symm
theorem top_or (x y : Nat) (hx : x < 4294967296) (hy : y < 4294967296) : (2147483648 ≤ x ||| y) ↔ (2147483648 ≤ x ∨ 2147483648 ≤ y) := by
  have h := top (x ||| y) (Nat.or_lt_two_pow (n := 32) hx hy)
  rw [Nat.testBit_or, top x hx, top y hy, Bool.eq_iff_iff] at h
  simpa using h.symm
theorem top_xor (x y : Nat) (hx : x < 4294967296) (hy : y < 4294967296) : (2147483648 ≤ x ^^^ y) ↔ ¬ (2147483648 ≤ x ↔ 2147483648 ≤ y) := by
  have h := top (x ^^^ y) (Nat.xor_lt_two_pow (n := 32) hx hy)
  rw [Nat.testBit_xor, top x hx, top y hy, Bool.eq_iff_iff] at h
  simp at h
  rw [← h]

/-- the overflow of a sum, by bits. -/
theorem over_add (a b n : Nat) (c : Nat) (ha : a < 4294967296) (hb : b < 4294967296) (hc : c ≤ 1) (hn : n = (a + b + c) % 4294967296) :
    (2147483648 ≤ (a ^^^ n) &&& (b ^^^ n)) ↔ out (sg a + sg b + c) = true := by
  have hn' : n < 4294967296 := by omega
  rw [top_and _ _ (Nat.xor_lt_two_pow (n := 32) ha hn') (Nat.xor_lt_two_pow (n := 32) hb hn'), top_xor a n ha hn', top_xor b n hb hn']
  unfold out sg
  rw [decide_eq_true_eq]
  split <;> split <;> omega

theorem over_sub (a b n : Nat) (c : Nat) (ha : a < 4294967296) (hb : b < 4294967296) (hc : c ≤ 1) (hn : (n : Int) = ((a : Int) - b - c) % 4294967296) :
    (2147483648 ≤ (a ^^^ b) &&& (a ^^^ n)) ↔ out (sg a - sg b - c) = true := by
  have hn' : n < 4294967296 := by omega
  rw [top_and _ _ (Nat.xor_lt_two_pow (n := 32) ha hb) (Nat.xor_lt_two_pow (n := 32) ha hn'), top_xor a b ha hb, top_xor a n ha hn']
  unfold out sg
  rw [decide_eq_true_eq]
  split <;> split <;> omega

/-- the borrow, by bits: '((^x & y) | (^(x ^ y) & diff)) >> 31'. -/
theorem com (x : Nat) (h : x < 4294967296) : 4294967295 ^^^ x = 4294967295 - x := by
  have : 4294967295 - x < 4294967296 := by omega
  apply Nat.eq_of_testBit_eq
  intro i
  rw [Nat.testBit_xor]
  have e : (4294967295 - x) = 2 ^ 32 - (x + 1) := by omega
  rw [e, Nat.testBit_two_pow_sub_succ (by simpa using h)]
  have e2 : (4294967295 : Nat) = 2 ^ 32 - 1 := by decide
  rw [e2, Nat.testBit_two_pow_sub_one]
  by_cases hi : i < 32
  · simp [hi]
  · have : x.testBit i = false := Nat.testBit_lt_two_pow (Nat.lt_of_lt_of_le h (by simpa using Nat.pow_le_pow_right (n := 2) (by decide) (Nat.not_lt.1 hi)))
    simp [hi, this]
theorem borrow (a b n c : Nat) (ha : a < 4294967296) (hb : b < 4294967296) (hc : c ≤ 1) (hn : (n : Int) = ((a : Int) - b - c) % 4294967296) :
    (((4294967295 ^^^ a) &&& b) ||| ((4294967295 ^^^ (a ^^^ b)) &&& n)) / 2147483648 = if (a : Int) - b - c < 0 then 1 else 0 := by
  have hn' : n < 4294967296 := by omega
  have hx : a ^^^ b < 4294967296 := Nat.xor_lt_two_pow (n := 32) ha hb
  have h1 : (4294967295 ^^^ a) < 4294967296 := Nat.xor_lt_two_pow (n := 32) (by omega) ha
  have h2 : (4294967295 ^^^ (a ^^^ b)) < 4294967296 := Nat.xor_lt_two_pow (n := 32) (by omega) hx
  have h3 : (4294967295 ^^^ a) &&& b < 4294967296 := Nat.and_lt_two_pow _ (n := 32) hb
  have h4 : (4294967295 ^^^ (a ^^^ b)) &&& n < 4294967296 := Nat.and_lt_two_pow _ (n := 32) hn'
  have h5 : (((4294967295 ^^^ a) &&& b) ||| ((4294967295 ^^^ (a ^^^ b)) &&& n)) < 4294967296 := Nat.or_lt_two_pow (n := 32) h3 h4
  have h6 := top_or _ _ h3 h4
  rw [top_and _ _ h1 hb, top_and _ _ h2 hn', top_xor _ _ (by omega) ha, top_xor _ _ (by omega) hx, top_xor a b ha hb] at h6
  generalize (((4294967295 ^^^ a) &&& b) ||| ((4294967295 ^^^ (a ^^^ b)) &&& n)) = z at h5 h6
  split
  · have : 2147483648 ≤ z := h6.2 (by omega)
    omega
  · have : ¬ 2147483648 ≤ z := fun h => by have := h6.1 h; omega
    omega

/-- products. -/
def mulLo (s : Bool) (a b : Int) : Int := if s then (sg a * sg b) % 4294967296 else (a * b) % 4294967296
def mulHi (s : Bool) (a b : Int) : Int := if s then (sg a * sg b) / 4294967296 % 4294967296 else (a * b) / 4294967296
theorem mul_bd {a b : Int} (ha : 0 ≤ a ∧ a < 4294967296) (hb : 0 ≤ b ∧ b < 4294967296) : 0 ≤ a * b ∧ a * b ≤ 18446744065119617025 :=
  ⟨Int.mul_nonneg ha.1 hb.1, Int.le_trans (Int.mul_le_mul (show a ≤ 4294967295 by omega) (show b ≤ 4294967295 by omega) hb.1 (by omega)) (by decide)⟩
theorem mul_sg_bd {a b : Int} (ha : -2147483648 ≤ a ∧ a < 2147483648) (hb : -2147483648 ≤ b ∧ b < 2147483648) : -4611686018427387904 ≤ a * b ∧ a * b ≤ 4611686018427387904 := by
  rcases Int.le_total 0 a with h | h <;> rcases Int.le_total 0 b with k | k
  · have := Int.mul_le_mul (show a ≤ 2147483648 by omega) (show b ≤ 2147483648 by omega) k (by omega)
    have := Int.mul_nonneg h k
    omega
  · have h1 := Int.mul_le_mul (show a ≤ 2147483648 by omega) (show -b ≤ 2147483648 by omega) (by omega) (by omega)
    have h2 := Int.mul_nonneg h (show 0 ≤ -b by omega)
    rw [Int.mul_neg] at h1 h2
    omega
  · have h1 := Int.mul_le_mul (show -a ≤ 2147483648 by omega) (show b ≤ 2147483648 by omega) (by omega) (by omega)
    have h2 := Int.mul_nonneg (show 0 ≤ -a by omega) k
    rw [Int.neg_mul] at h1 h2
    omega
  · have h1 := Int.mul_le_mul (show -a ≤ 2147483648 by omega) (show -b ≤ 2147483648 by omega) (by omega) (by omega)
    have h2 := Int.mul_nonneg (show 0 ≤ -a by omega) (show 0 ≤ -b by omega)
    rw [Int.neg_mul_neg] at h1 h2
    omega

/-- quotients. -/
def quo (a b : Int) : Int := wd (sg a / b)
def rem (a b : Int) : Int := sg a % b

theorem ediv2 (a : Int) {p : Int} (hp : 0 < p) : a / (p * 2) = a / p / 2 := by
  first
    | exact (Int.ediv_ediv_of_nonneg (Int.le_of_lt hp)).symm
    | (rw [Int.ediv_ediv, if_neg (by omega)]; omega)
/-- shifts. -/
def shl (a : Int) (k : Nat) : Int := a * 2 ^ k % 4294967296
def sar (a : Int) (k : Nat) : Int := wd (sg a / 2 ^ k)
def turn (a : Int) (k : Nat) : Int := a / 2 ^ k + a % 2 ^ k * 2 ^ (32 - k)

theorem shl_zero {a : Int} (h0 : 0 ≤ a) (h1 : a < 4294967296) : shl a 0 = a := by unfold shl; omega
theorem shl_succ (a : Int) (k : Nat) : shl a (k + 1) = 2 * shl a k % 4294967296 := by
  unfold shl; rw [Int.pow_succ, ← Int.mul_assoc]; omega
theorem sar_zero {a : Int} (h0 : 0 ≤ a) (h1 : a < 4294967296) : sar a 0 = a := by unfold sar; simp; exact sg_wd h0 h1
theorem sg_div {a : Int} (h0 : 0 ≤ a) (h1 : a < 4294967296) (k : Nat) : -2147483648 ≤ sg a / 2 ^ k ∧ sg a / 2 ^ k < 2147483648 := by
  have hb := sg_bd h0 h1
  induction k with
  | zero => simpa using hb
  | succ k ih => rw [Int.pow_succ, ediv2 _ (Int.pow_pos (by decide))]; omega
theorem sar_succ {a : Int} (h0 : 0 ≤ a) (h1 : a < 4294967296) (k : Nat) : sar a (k + 1) = sar a k / 2 + sar a k / 2147483648 * 2147483648 := by
  have h := sg_div h0 h1 k
  unfold sar
  rw [Int.pow_succ, ediv2 _ (Int.pow_pos (by decide))]
  generalize sg a / 2 ^ k = y at h
  unfold wd
  omega
theorem turn_zero (a : Int) : turn a 0 = a := by unfold turn; simp
theorem pow_split (k : Nat) (h : k ≤ 31) : (2 : Int) ^ k * 2 ^ (31 - k) = 2147483648 := by
  rw [← Int.pow_add, show k + (31 - k) = 31 from by omega]; rfl
theorem turn_succ {a : Int} (k : Nat) (hk : k ≤ 31) : turn a (k + 1) = turn a k / 2 + turn a k % 2 * 2147483648 := by
  have hp : (0 : Int) < 2 ^ k := Int.pow_pos (by decide)
  have e1 : a / 2 ^ (k + 1) = a / 2 ^ k / 2 := by rw [Int.pow_succ, ediv2 _ hp]
  have e2 : a % 2 ^ (k + 1) = 2 ^ k * (a / 2 ^ k % 2) + a % 2 ^ k := by
    have h1 := Int.mul_ediv_add_emod a (2 ^ (k + 1))
    have h2 := Int.mul_ediv_add_emod a (2 ^ k)
    have h3 := Int.mul_ediv_add_emod (a / 2 ^ k) 2
    rw [e1, Int.pow_succ] at h1
    rw [Int.pow_succ]
    have h4 : 2 ^ k * 2 * (a / 2 ^ k / 2) + 2 ^ k * (a / 2 ^ k % 2) = 2 ^ k * (a / 2 ^ k) := by
      rw [Int.mul_assoc, ← Int.mul_add, h3]
    omega
  have e3 : (2 : Int) ^ (32 - k) = 2 * 2 ^ (31 - k) := by rw [show 32 - k = (31 - k) + 1 from by omega, Int.pow_succ]; omega
  have e4 : 32 - (k + 1) = 31 - k := by omega
  unfold turn
  rw [e1, e2, e3, e4, Int.add_mul]
  have e5 : 2 ^ k * (a / 2 ^ k % 2) * 2 ^ (31 - k) = (a / 2 ^ k % 2) * 2147483648 := by rw [← pow_split k hk]; grind
  have e6 : a % 2 ^ k * (2 * 2 ^ (31 - k)) = 2 * (a % 2 ^ k * 2 ^ (31 - k)) := by grind
  rw [e5, e6]
  generalize a % 2 ^ k * 2 ^ (31 - k) = z
  generalize a / 2 ^ k = u
  omega
theorem turn_bd {a : Int} (h0 : 0 ≤ a) (h1 : a < 4294967296) (k : Nat) (hk : k ≤ 32) : 0 ≤ turn a k ∧ turn a k < 4294967296 := by
  induction k with
  | zero => rw [turn_zero]; omega
  | succ k ih => rw [turn_succ k (by omega)]; have := ih (by omega); omega

/-- 'RotateLeft32(a, s)'. -/
def rotl (a : Int) (s : Nat) : Int := ((a.toNat * 2 ^ s % 4294967296 ||| a.toNat / 2 ^ (32 - s) : Nat) : Int)
theorem rotl_turn {a : Int} (h0 : 0 ≤ a) (h1 : a < 4294967296) (k : Nat) (hk : k ≤ 31) : rotl a ((32 - k) % 32) = turn a k := by
  obtain ⟨n, rfl⟩ := Int.eq_ofNat_of_zero_le h0
  have hn : n < 4294967296 := by omega
  unfold rotl turn
  rw [Int.toNat_natCast]
  by_cases hk0 : k = 0
  · subst hk0
    have : n / 4294967296 = 0 := Nat.div_eq_of_lt hn
    simp [this, Nat.mod_eq_of_lt hn]
  · have hs : (32 - k) % 32 = 32 - k := Nat.mod_eq_of_lt (by omega)
    rw [hs, show 32 - (32 - k) = k from by omega]
    have hpw : 2 ^ k * 2 ^ (32 - k) = 4294967296 := by rw [← Nat.pow_add, show k + (32 - k) = 32 from by omega]
    have e1 : n * 2 ^ (32 - k) % 4294967296 = n % 2 ^ k * 2 ^ (32 - k) := by rw [← hpw, Nat.mul_mod_mul_right]
    have hlt : n / 2 ^ k < 2 ^ (32 - k) := Nat.div_lt_of_lt_mul (by rw [hpw]; exact hn)
    rw [e1, nat_join (32 - k) _ _ (Nat.mul_mod_left _ _) hlt]
    push_cast
    omega

/-- 'Extend'. -/
def ext (a : Int) (m : Nat) : Int := let r := a % 2 ^ m; wd (if 2 ^ (m - 1) ≤ r then r - 2 ^ m else r)

end W
end Go.Proofs.YtmnmbpenonodiaaDoor
