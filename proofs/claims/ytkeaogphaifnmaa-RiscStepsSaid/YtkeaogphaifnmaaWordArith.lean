/- Contracts of package word's arithmetic and of math/bits under it. -/
import Derived.Test.YtkeaogphaifnmaaRows
import Derived.Test.YtkeaogphaifnmaaRd
import Derived.Test.YtkeaogphaifnmaaWordPlain
import Derived.BigQuiet
namespace Go.Proofs.Ytkeaogphaifnmaa
set_option linter.unusedVariables false
set_option linter.unusedSimpArgs false
open Go.RowKit

theorem ret_tuple2 {k l : IntKind} {a b c d : Int} (h : a = c) (h' : b = d) : Ending.returned (.tuple #[.int k a, .int l b]) = .returned (.tuple #[.int k c, .int l d]) := by rw [h, h']
theorem ret_sum {a c : Int} {p q r s : Bool} (h : a = c) (h1 : p = r) (h2 : q = s) : Ending.returned (.tuple #[.int .u32 a, .bool p, .bool q]) = .returned (.tuple #[.int .u32 c, .bool r, .bool s]) := by rw [h, h1, h2]

theorem add32 (a b c : Int) (w : World) (ha : 0 ≤ a ∧ a < 4294967296) (hb : 0 ≤ b ∧ b < 4294967296) (hc : 0 ≤ c ∧ c ≤ 1) :
    Calls Try.prog 61 #[.int .u32 a, .int .u32 b, .int .u32 c] w fun e w' => e = .returned (.tuple #[.int .u32 (W.wd (a + b + c)), .int .u32 ((a + b + c) / 4294967296)]) ∧ w = w' := by
  go_enter Try.func61, Try.ntmps61
  go_wp2
  go_ret2
  exact ⟨rfl, rfl⟩

def borrowN (n : Int) : Int := if n < 0 then 1 else 0

theorem sub32 (a b c : Int) (w : World) (ha : 0 ≤ a ∧ a < 4294967296) (hb : 0 ≤ b ∧ b < 4294967296) (hc : 0 ≤ c ∧ c ≤ 1) :
    Calls Try.prog 62 #[.int .u32 a, .int .u32 b, .int .u32 c] w fun e w' => e = .returned (.tuple #[.int .u32 (W.wd (a - b - c)), .int .u32 (borrowN (a - b - c))]) ∧ w = w' := by
  have hsg : IntKind.u32.signed = false := rfl
  go_enter Try.func62, Try.ntmps62
  go_wp2
  go_ret2
  refine ⟨ret_tuple2 (by unfold W.wd; omega) ?_, rfl⟩
  obtain ⟨x, rfl⟩ := Int.eq_ofNat_of_zero_le ha.1
  obtain ⟨y, rfl⟩ := Int.eq_ofNat_of_zero_le hb.1
  obtain ⟨z, rfl⟩ := Int.eq_ofNat_of_zero_le hc.1
  obtain ⟨n, hn⟩ := Int.eq_ofNat_of_zero_le (show 0 ≤ ((x : Int) - y - z) % 4294967296 by omega)
  have hx : x < 4294967296 := by omega
  have hy : y < 4294967296 := by omega
  have hn' : n < 4294967296 := by omega
  have hxy : x ^^^ y < 4294967296 := Nat.xor_lt_two_pow (n := 32) hx hy
  have h1 : (4294967295 ^^^ x) < 4294967296 := Nat.xor_lt_two_pow (n := 32) (by omega) hx
  have h2 : (4294967295 ^^^ (x ^^^ y)) < 4294967296 := Nat.xor_lt_two_pow (n := 32) (by omega) hxy
  have h3 : (4294967295 ^^^ x) &&& y < 4294967296 := Nat.and_lt_two_pow _ (n := 32) hy
  have h4 : (4294967295 ^^^ (x ^^^ y)) &&& n < 4294967296 := Nat.and_lt_two_pow _ (n := 32) hn'
  have hm : IntKind.u32.max = ((4294967295 : Nat) : Int) := by decide
  rw [hm, hn, u32_xor_nat _ _ (by omega) hx, u32_and_nat _ _ h1 hy, u32_xor_nat _ _ hx hy, u32_xor_nat _ _ (by omega) hxy, u32_and_nat _ _ h2 hn', u32_or_nat _ _ h3 h4]
  have h5 := W.borrow x y n z hx hy (by omega) hn.symm
  have h6 : ((((4294967295 ^^^ x) &&& y ||| (4294967295 ^^^ (x ^^^ y)) &&& n : Nat) : Int) / 2147483648) = (((((4294967295 ^^^ x) &&& y) ||| ((4294967295 ^^^ (x ^^^ y)) &&& n)) / 2147483648 : Nat) : Int) := by omega
  rw [h6, h5]
  unfold borrowN
  split <;> rfl

theorem lt_bits {x : Int} (h0 : 0 ≤ x) (h1 : x < 4294967296) : (wrap32 x < 0) ↔ 2147483648 ≤ x := by unfold wrap32; omega

theorem one_of (c : Bool) : (0 : Int) ≤ (if c then 1 else 0) ∧ (if c then (1 : Int) else 0) ≤ 1 := by cases c <;> decide

theorem word_add (a b : Int) (c : Bool) (w : World) (ha : 0 ≤ a ∧ a < 4294967296) (hb : 0 ≤ b ∧ b < 4294967296) (n : Int) (hn : n = if c then 1 else 0) :
    Calls Try.prog 44 #[.int .u32 a, .int .u32 b, .bool c] w fun e w' => e = .returned (.tuple #[.int .u32 (W.wd (a + b + n)), .bool (decide (4294967296 ≤ a + b + n)), .bool (W.out (W.sg a + W.sg b + n))]) ∧ w = w' := by
  have hc := one_of c
  rw [← hn] at hc
  have HN := Lib.hid hn
  clear hn
  obtain ⟨s, hs⟩ : ∃ s, s = W.wd (a + b + n) := ⟨_, rfl⟩
  have hsb : 0 ≤ s ∧ s < 4294967296 := by rw [hs]; exact ⟨W.wd_lo _, W.wd_hi _⟩
  obtain ⟨t, ht⟩ : ∃ t, t = (a + b + n) / 4294967296 := ⟨_, rfl⟩
  have fin : Ending.returned (.tuple #[.int .u32 s, .bool (t == 1), .bool (decide (wrap32 (bits .and .u32 (bits .xor .u32 a s) (bits .xor .u32 b s)) < 0))]) =
      .returned (.tuple #[.int .u32 (W.wd (a + b + n)), .bool (decide (4294967296 ≤ a + b + n)), .bool (W.out (W.sg a + W.sg b + n))]) := by
    refine ret_sum hs ?_ ?_
    · rw [ht, Bool.eq_iff_iff, beq_iff_eq, decide_eq_true_eq]; omega
    · obtain ⟨x, rfl⟩ := Int.eq_ofNat_of_zero_le ha.1
      obtain ⟨y, rfl⟩ := Int.eq_ofNat_of_zero_le hb.1
      obtain ⟨z, rfl⟩ := Int.eq_ofNat_of_zero_le hc.1
      obtain ⟨m, rfl⟩ := Int.eq_ofNat_of_zero_le hsb.1
      have hx : x < 4294967296 := by omega
      have hy : y < 4294967296 := by omega
      have hm : m < 4294967296 := by omega
      have h1 : x ^^^ m < 4294967296 := Nat.xor_lt_two_pow (n := 32) hx hm
      have h2 : y ^^^ m < 4294967296 := Nat.xor_lt_two_pow (n := 32) hy hm
      have h3 : (x ^^^ m) &&& (y ^^^ m) < 4294967296 := Nat.and_lt_two_pow _ (n := 32) h2
      rw [u32_xor_nat _ _ hx hm, u32_xor_nat _ _ hy hm, u32_and_nat _ _ h1 h2, Bool.eq_iff_iff, decide_eq_true_eq, lt_bits (by omega) (by omega),
        ← W.over_add x y m z hx hy (by omega) (by unfold W.wd at hs; omega)]
      omega
  have HF := Lib.hid fin
  clear fin
  have HS := Lib.hid hs
  have HT := Lib.hid ht
  clear hs ht
  cases c
  · have e0 : W.wd (a + b + 0) = s := by rw [HS.out, HN.out]; rfl
    have e1 : (a + b + 0) / 4294967296 = t := by rw [HT.out, HN.out]; rfl
    have E0 := Lib.hid e0
    have E1 := Lib.hid e1
    clear e0 e1 hc
    go_enter Try.func44, Try.ntmps44
    go_wp2_with fail
    refine (add32 _ _ _ _ ha hb (by omega)).mono ?_
    rintro e w' ⟨rfl, rfl⟩
    rw [E0.out, E1.out]
    go_wp2
    go_ret3
    exact ⟨HF.out, rfl⟩
  · have e0 : W.wd (a + b + 1) = s := by rw [HS.out, HN.out]; rfl
    have e1 : (a + b + 1) / 4294967296 = t := by rw [HT.out, HN.out]; rfl
    have E0 := Lib.hid e0
    have E1 := Lib.hid e1
    clear e0 e1 hc
    go_enter Try.func44, Try.ntmps44
    go_wp2_with fail
    refine (add32 _ _ _ _ ha hb (by omega)).mono ?_
    rintro e w' ⟨rfl, rfl⟩
    rw [E0.out, E1.out]
    go_wp2
    go_ret3
    exact ⟨HF.out, rfl⟩

theorem word_sub (a b : Int) (c : Bool) (w : World) (ha : 0 ≤ a ∧ a < 4294967296) (hb : 0 ≤ b ∧ b < 4294967296) (n : Int) (hn : n = if c then 1 else 0) :
    Calls Try.prog 45 #[.int .u32 a, .int .u32 b, .bool c] w fun e w' => e = .returned (.tuple #[.int .u32 (W.wd (a - b - n)), .bool (decide (a - b - n < 0)), .bool (W.out (W.sg a - W.sg b - n))]) ∧ w = w' := by
  have hc := one_of c
  rw [← hn] at hc
  have HN := Lib.hid hn
  clear hn
  obtain ⟨s, hs⟩ : ∃ s, s = W.wd (a - b - n) := ⟨_, rfl⟩
  obtain ⟨r, hr⟩ : ∃ r, r = borrowN (a - b - n) := ⟨_, rfl⟩
  have hsb : 0 ≤ s ∧ s < 4294967296 := by rw [hs]; exact ⟨W.wd_lo _, W.wd_hi _⟩
  have fin : Ending.returned (.tuple #[.int .u32 s, .bool (r == 1), .bool (decide (wrap32 (bits .and .u32 (bits .xor .u32 a b) (bits .xor .u32 a s)) < 0))]) =
      .returned (.tuple #[.int .u32 (W.wd (a - b - n)), .bool (decide (a - b - n < 0)), .bool (W.out (W.sg a - W.sg b - n))]) := by
    refine ret_sum hs ?_ ?_
    · rw [hr, Bool.eq_iff_iff, beq_iff_eq, decide_eq_true_eq]; unfold borrowN; split <;> omega
    · obtain ⟨x, rfl⟩ := Int.eq_ofNat_of_zero_le ha.1
      obtain ⟨y, rfl⟩ := Int.eq_ofNat_of_zero_le hb.1
      obtain ⟨z, rfl⟩ := Int.eq_ofNat_of_zero_le hc.1
      obtain ⟨m, rfl⟩ := Int.eq_ofNat_of_zero_le hsb.1
      have hx : x < 4294967296 := by omega
      have hy : y < 4294967296 := by omega
      have hm : m < 4294967296 := by omega
      have h1 : x ^^^ y < 4294967296 := Nat.xor_lt_two_pow (n := 32) hx hy
      have h2 : x ^^^ m < 4294967296 := Nat.xor_lt_two_pow (n := 32) hx hm
      have h3 : (x ^^^ y) &&& (x ^^^ m) < 4294967296 := Nat.and_lt_two_pow _ (n := 32) h2
      rw [u32_xor_nat _ _ hx hy, u32_xor_nat _ _ hx hm, u32_and_nat _ _ h1 h2, Bool.eq_iff_iff, decide_eq_true_eq, lt_bits (by omega) (by omega),
        ← W.over_sub x y m z hx hy (by omega) hs]
      omega
  have HF := Lib.hid fin
  clear fin
  have HS := Lib.hid hs
  have HR := Lib.hid hr
  clear hs hr
  cases c
  · have e0 : W.wd (a - b - 0) = s := by rw [HS.out, HN.out]; rfl
    have e1 : borrowN (a - b - 0) = r := by rw [HR.out, HN.out]; rfl
    have E0 := Lib.hid e0
    have E1 := Lib.hid e1
    clear e0 e1 hc
    go_enter Try.func45, Try.ntmps45
    go_wp2_with fail
    refine (sub32 _ _ _ _ ha hb (by omega)).mono ?_
    rintro e w' ⟨rfl, rfl⟩
    rw [E0.out, E1.out]
    go_wp2
    go_ret3
    exact ⟨HF.out, rfl⟩
  · have e0 : W.wd (a - b - 1) = s := by rw [HS.out, HN.out]; rfl
    have e1 : borrowN (a - b - 1) = r := by rw [HR.out, HN.out]; rfl
    have E0 := Lib.hid e0
    have E1 := Lib.hid e1
    clear e0 e1 hc
    go_enter Try.func45, Try.ntmps45
    go_wp2_with fail
    refine (sub32 _ _ _ _ ha hb (by omega)).mono ?_
    rintro e w' ⟨rfl, rfl⟩
    rw [E0.out, E1.out]
    go_wp2
    go_ret3
    exact ⟨HF.out, rfl⟩

theorem wrap32_sg {a : Int} (h0 : 0 ≤ a) (h1 : a < 4294967296) : wrap32 a = W.sg a := by unfold wrap32 W.sg; split <;> omega

theorem word_mul (a b : Int) (s : Bool) (w : World) (ha : 0 ≤ a ∧ a < 4294967296) (hb : 0 ≤ b ∧ b < 4294967296) :
    Calls Try.prog 46 #[.int .u32 a, .int .u32 b, .bool s] w fun e w' => e = .returned (.tuple #[.int .u32 (W.mulLo s a b), .int .u32 (W.mulHi s a b)]) ∧ w = w' := by
  have h1 := W.mul_bd ha hb
  have s1 := W.sg_bd ha.1 ha.2
  have s2 := W.sg_bd hb.1 hb.2
  have h2 := W.mul_sg_bd s1 s2
  have e1 := wrap32_sg ha.1 ha.2
  have e2 := wrap32_sg hb.1 hb.2
  cases s
  · go_enter Try.func46, Try.ntmps46
    go_wp2
    go_ret2
    exact ⟨ret_tuple2 (by simp [W.mulLo]) (by simp [W.mulHi]), rfl⟩
  · go_enter Try.func46, Try.ntmps46
    go_wp2
    go_ret2
    refine ⟨ret_tuple2 ?_ ?_, rfl⟩
    · simp only [W.mulLo, if_true, IntKind.wrap_u64]; omega
    · simp only [W.mulHi, if_true, IntKind.wrap_u64]; omega

theorem ret_quo {a b c d n m : Int} (h : a = c) (h' : b = d) (h2 : n = m) : Ending.returned (.tuple #[.int .u32 a, .int .u32 b, .int .i64 n]) = .returned (.tuple #[.int .u32 c, .int .u32 d, .int .i64 m]) := by rw [h, h', h2]

theorem word_div_no (a b : Int) (w : World) (hb : 0 ≤ b ∧ b < 4294967296) (h : W.sg b ≤ 0) :
    Calls Try.prog 47 #[.int .u32 a, .int .u32 b] w fun e w' => e = .returned (.tuple #[.int .u32 0, .int .u32 0, .int .i64 2]) ∧ w = w' := by
  have e2 := wrap32_sg hb.1 hb.2
  go_enter Try.func47, Try.ntmps47
  go_wp2
  go_ret3
  exact ⟨rfl, rfl⟩

theorem quo_facts {a b : Int} (_ha : 0 ≤ a ∧ a < 4294967296) (hb : 0 < b ∧ b < 2147483648) :
    ∃ q r : Int, q = W.sg a / b ∧ r = W.sg a % b ∧ 0 ≤ r ∧ r < b ∧ W.sg a = b * q + r ∧ -2147483648 ≤ q ∧ q < 2147483648 := by
  have s1 := W.sg_bd _ha.1 _ha.2
  refine ⟨_, _, rfl, rfl, Int.emod_nonneg _ (by omega), Int.emod_lt_of_pos _ hb.1, (Int.mul_ediv_add_emod _ _).symm, ?_, ?_⟩
  · have := Int.le_ediv_of_mul_le (a := -2147483648) (b := W.sg a) hb.1 (by
      have : (-2147483648) * b ≤ -2147483648 := by omega
      omega)
    exact this
  · exact Int.ediv_lt_of_lt_mul hb.1 (by omega)

/-- Go's quotient and rest, made floor and remainder. -/
theorem tdiv_floor {x y : Int} (hy : 0 < y) : (x.tmod y < 0 → x.tdiv y - 1 = x / y ∧ x.tmod y + y = x % y) ∧ (0 ≤ x.tmod y → x.tdiv y = x / y ∧ x.tmod y = x % y) := by
  have h1 := Int.mul_tdiv_add_tmod x y
  have h2 : x.tmod y < y := Int.tmod_lt_of_pos x hy
  have h3 : -y < x.tmod y := by
    rcases Int.le_total 0 x with h | h
    · have := Int.tmod_nonneg y h; omega
    · have h4 := Int.neg_tmod x y
      have h5 := Int.tmod_lt_of_pos (-x) hy
      rw [h4] at h5
      omega
  generalize x.tdiv y = q at *
  generalize x.tmod y = r at *
  constructor
  · intro hr
    have := (Int.ediv_emod_unique (a := x) (b := y) (r := r + y) (q := q - 1) hy).2 ⟨by rw [Int.mul_sub, ← h1]; omega, by omega, by omega⟩
    exact ⟨this.1.symm, this.2.symm⟩
  · intro hr
    have := (Int.ediv_emod_unique (a := x) (b := y) (r := r) (q := q) hy).2 ⟨by rw [← h1]; omega, by omega, by omega⟩
    exact ⟨this.1.symm, this.2.symm⟩

theorem word_div (a b : Int) (w : World) (ha : 0 ≤ a ∧ a < 4294967296) (hb : 0 < b ∧ b < 2147483648) :
    Calls Try.prog 47 #[.int .u32 a, .int .u32 b] w fun e w' => e = .returned (.tuple #[.int .u32 (W.quo a b), .int .u32 (W.rem a b), .int .i64 0]) ∧ ∃ n, w' = w.drewN n := by
  have e1 := wrap32_sg ha.1 ha.2
  have s1 := W.sg_bd ha.1 ha.2
  obtain ⟨q, r, hq, hr, h1, h2, _, h4, h5⟩ := quo_facts ha hb
  have ht := tdiv_floor (x := W.sg a) hb.1
  obtain ⟨x, hx⟩ : ∃ x, x = W.sg a := ⟨_, rfl⟩
  have e2 : W.quo a b = W.wd q := by unfold W.quo; rw [hq]
  have e3 : W.rem a b = r := by unfold W.rem; rw [hr]
  rw [← hx] at e1 s1 ht hq hr
  have E2 := Lib.hid e2
  have E3 := Lib.hid e3
  have HQ := Lib.hid hq
  have HR := Lib.hid hr
  have HT := Lib.hid ht
  clear e2 e3 hq hr ht hx
  have hb0 : (b == 0) = false := by rw [beq_eq_false_iff_ne]; omega
  obtain ⟨rt, hrt⟩ : ∃ rt, rt = x.tmod b := ⟨_, rfl⟩
  obtain ⟨qt, hqt⟩ : ∃ qt, qt = x.tdiv b := ⟨_, rfl⟩
  have HT2 := HT.out
  rw [← hrt, ← hqt, ← HQ.out, ← HR.out] at HT2
  have HRT := Lib.hid hrt
  have HQT := Lib.hid hqt
  clear hrt hqt
  by_cases hneg : rt < 0
  · have h6 := HT2.1 hneg
    clear HT2
    have h7 : -2147483648 ≤ qt - 1 ∧ qt - 1 < 2147483648 := by omega
    have h8 : 0 ≤ rt + b ∧ rt + b < 2147483648 := by omega
    have H6 := Lib.hid h6
    clear h6
    go_enter Try.func47, Try.ntmps47
    go_wp2
    go_quiet (fail)
    rw [← HRT.out, ← HQT.out]
    go_wp2
    go_ret3
    exact ⟨ret_quo (by rw [E2.out, ← H6.out.1]; rfl) (by rw [E3.out, ← H6.out.2]) rfl, _, rfl⟩
  · have h6 := HT2.2 (by omega)
    clear HT2
    have h7 : -2147483648 ≤ qt ∧ qt < 2147483648 := by omega
    have h8 : 0 ≤ rt ∧ rt < 2147483648 := by omega
    have H6 := Lib.hid h6
    clear h6
    go_enter Try.func47, Try.ntmps47
    go_wp2
    go_quiet (fail)
    rw [← HRT.out, ← HQT.out]
    go_wp2
    go_ret3
    exact ⟨ret_quo (by rw [E2.out, ← H6.out.1]; rfl) (by rw [E3.out, ← H6.out.2]) rfl, _, rfl⟩

theorem word_left (a b : Int) (w : World) (hb : 0 ≤ b ∧ b < 4294967296) :
    Calls Try.prog 41 #[.int .u32 a, .int .u32 b] w fun e w' => e = .returned (.int .u32 (W.shl a (b % 32).toNat)) ∧ w = w' := by
  go_enter Try.func41, Try.ntmps41
  go_wp2
  go_ret
  exact ⟨rfl, rfl⟩

theorem word_right (a b : Int) (w : World) (ha : 0 ≤ a ∧ a < 4294967296) (hb : 0 ≤ b ∧ b < 4294967296) :
    Calls Try.prog 42 #[.int .u32 a, .int .u32 b] w fun e w' => e = .returned (.int .u32 (W.sar a (b % 32).toNat)) ∧ w = w' := by
  have e1 := wrap32_sg ha.1 ha.2
  have hs := W.sg_div ha.1 ha.2 (b % 32).toNat
  go_enter Try.func42, Try.ntmps42
  go_wp2
  go_ret
  exact ⟨rfl, rfl⟩

theorem rot_any (a b : Int) (w : World) (ha : 0 ≤ a ∧ a < 4294967296) (hb : -31 ≤ b ∧ b ≤ 0) :
    Calls Try.prog 60 #[.int .u32 a, .int .i64 b] w fun e w' => e = .returned (.int .u32 (W.rotl a (b % 32).toNat)) ∧ w = w' := by
  obtain ⟨s, hs⟩ : ∃ s : Nat, s = (b % 32).toNat := ⟨_, rfl⟩
  have hsb : s ≤ 31 := by omega
  have hm : bits .and .u64 (IntKind.u64.wrap b) 31 = (s : Int) := by
    rw [IntKind.wrap_u64, show (31 : Int) = ((31 : Nat) : Int) from rfl]
    obtain ⟨x, hx⟩ := Int.eq_ofNat_of_zero_le (show 0 ≤ b % 18446744073709551616 by omega)
    rw [hx, u64_and_nat _ _ (by omega) (by omega), nat_mask5]
    omega
  rw [← hs]
  have HS := Lib.hid hs
  clear hs
  go_enter Try.func60, Try.ntmps60
  go_wp2
  go_ret
  refine ⟨ret_int ?_, rfl⟩
  obtain ⟨n, rfl⟩ := Int.eq_ofNat_of_zero_le ha.1
  have hn : n < 4294967296 := by omega
  have e1 : ((n : Int) * 2 ^ s % 4294967296) = ((n * 2 ^ s % 4294967296 : Nat) : Int) := by rw [Int.natCast_emod, Int.natCast_mul, Int.natCast_pow]; rfl
  have e2 : ((n : Int) / 2 ^ (32 - s)) = ((n / 2 ^ (32 - s) : Nat) : Int) := by rw [Int.natCast_ediv, Int.natCast_pow]; rfl
  have h2 : n / 2 ^ (32 - s) < 4294967296 := Nat.lt_of_le_of_lt (Nat.div_le_self _ _) hn
  show bits .or .u32 ((n : Int) * 2 ^ s % 4294967296) ((n : Int) / 2 ^ (32 - s)) = _
  rw [e1, e2, u32_or_nat _ _ (by omega) h2]
  unfold W.rotl
  rw [Int.toNat_natCast]

theorem word_turn (a b : Int) (w : World) (ha : 0 ≤ a ∧ a < 4294967296) (hb : 0 ≤ b ∧ b < 4294967296) :
    Calls Try.prog 43 #[.int .u32 a, .int .u32 b] w fun e w' => e = .returned (.int .u32 (W.turn a (b % 32).toNat)) ∧ w = w' := by
  have h := W.rotl_turn ha.1 ha.2 (b % 32).toNat (by omega)
  have e : (-(b % 32) % 32).toNat = (32 - (b % 32).toNat) % 32 := by omega
  rw [← e] at h
  have H := Lib.hid h
  clear h e
  go_enter Try.func43, Try.ntmps43
  go_wp2_with fail
  refine (rot_any _ _ _ ha (by omega)).mono ?_
  rintro e w' ⟨rfl, rfl⟩
  rw [H.out]
  go_wp2
  go_ret
  exact ⟨rfl, rfl⟩

theorem clamp_ext {a : Int} (h0 : 0 ≤ a) (h1 : a < 4294967296) (m : Nat) (hm : 1 ≤ m) (hm2 : m ≤ 32) : wrap32 (a * 2 ^ (32 - m) % 4294967296) / 2 ^ (32 - m) % 4294967296 = W.ext a m := by
  have hp : (0 : Int) < 2 ^ (32 - m) := Int.pow_pos (by decide)
  have hq : (0 : Int) < 2 ^ (m - 1) := Int.pow_pos (by decide)
  have e1 : (2 : Int) ^ m = 2 * 2 ^ (m - 1) := by rw [show m = (m - 1) + 1 from by omega, Int.pow_succ, Nat.add_sub_cancel]; omega
  have e2 : (4294967296 : Int) = 2 ^ m * 2 ^ (32 - m) := by rw [← Int.pow_add, show m + (32 - m) = 32 from by omega]; rfl
  have e3 : a * 2 ^ (32 - m) % 4294967296 = a % 2 ^ m * 2 ^ (32 - m) := by rw [e2, Int.mul_comm a, Int.mul_comm (2 ^ m), Int.mul_emod_mul_of_pos _ _ hp, Int.mul_comm]
  have hr := Int.emod_nonneg a (show (2 : Int) ^ m ≠ 0 by omega)
  have hr2 := Int.emod_lt_of_pos a (show (0 : Int) < 2 ^ m by omega)
  have e4 : (2147483648 : Int) = 2 ^ (m - 1) * 2 ^ (32 - m) := by rw [← Int.pow_add, show m - 1 + (32 - m) = 31 from by omega]; rfl
  unfold W.ext W.wd
  rw [e3]
  generalize a % 2 ^ m = r at hr hr2
  simp only
  by_cases h : 2 ^ (m - 1) ≤ r
  · rw [if_pos h]
    have h5 : 2147483648 ≤ r * 2 ^ (32 - m) := by rw [e4]; exact Int.mul_le_mul_of_nonneg_right h (Int.le_of_lt hp)
    have h6 : r * 2 ^ (32 - m) < 4294967296 := by rw [e2]; exact Int.mul_lt_mul_of_pos_right hr2 hp
    have h7 : wrap32 (r * 2 ^ (32 - m)) = (r - 2 ^ m) * 2 ^ (32 - m) := by
      rw [Int.sub_mul, ← e2]; unfold wrap32; omega
    rw [h7, Int.mul_ediv_cancel _ (by omega)]
  · rw [if_neg h]
    have h5 : r * 2 ^ (32 - m) < 2147483648 := by rw [e4]; exact Int.mul_lt_mul_of_pos_right (by omega) hp
    have h6 : 0 ≤ r * 2 ^ (32 - m) := Int.mul_nonneg hr (Int.le_of_lt hp)
    have h7 : wrap32 (r * 2 ^ (32 - m)) = r * 2 ^ (32 - m) := by unfold wrap32; omega
    rw [h7, Int.mul_ediv_cancel _ (by omega)]

theorem word_extend (a b : Int) (m : Nat) (w : World) (ha : 0 ≤ a ∧ a < 4294967296) (hm : 1 ≤ m ∧ m ≤ 32) (hb : (b < 1 ∧ m = 1) ∨ (32 < b ∧ m = 32) ∨ b = m) :
    Calls Try.prog 58 #[.int .u32 a, .int .i64 b] w fun e w' => e = .returned (.int .u32 (W.ext a m)) ∧ w = w' := by
  have h := clamp_ext ha.1 ha.2 m hm.1 hm.2
  have H := Lib.hid h
  clear h
  rcases hb with ⟨h1, rfl⟩ | ⟨h1, rfl⟩ | rfl
  · go_enter Try.func58, Try.ntmps58
    go_wp2
    go_ret
    exact ⟨ret_int (by rw [← H.out]; rfl), rfl⟩
  · have h2 : ¬ b < 1 := by omega
    go_enter Try.func58, Try.ntmps58
    go_wp2
    go_ret
    refine ⟨ret_int ?_, rfl⟩
    rw [← H.out]
    simp
    unfold wrap32
    omega
  · have h2 : ¬ (m : Int) < 1 := by omega
    have h3 : ¬ (32 : Int) < (m : Int) := by omega
    go_enter Try.func58, Try.ntmps58
    go_wp2
    go_ret
    exact ⟨ret_int (by rw [← H.out]), rfl⟩

end Go.Proofs.Ytkeaogphaifnmaa
