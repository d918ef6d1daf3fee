/- Contract of word.Extend. -/
import Derived.Test.YtmnmbpenonodiaaDoorRows
import Derived.Test.YtmnmbpenonodiaaDoorRd
import Derived.Test.YtmnmbpenonodiaaDoorWordPlain
import Derived.BigQuiet
namespace Go.Proofs.YtmnmbpenonodiaaDoor
set_option linter.unusedVariables false
set_option linter.unusedSimpArgs false
open Go.RowKit

theorem wrap32_sg {a : Int} (h0 : 0 ≤ a) (h1 : a < 4294967296) : wrap32 a = W.sg a := by unfold wrap32 W.sg; split <;> omega

theorem tdiv_floor {x y : Int} (hy : 0 < y) : (x.tmod y < 0 → x.tdiv y - 1 = x / y ∧ x.tmod y + y = x % y) ∧ (0 ≤ x.tmod y → x.tdiv y = x / y ∧ x.tmod y = x % y) := by
  have h1 := Int.mul_tdiv_add_tmod x y
  have h2 : x.tmod y < y := Int.tmod_lt_of_pos x hy
  have h3 : -y < x.tmod y := by
    rcases Int.le_total 0 x with h | h
    · have := Int.tmod_nonneg y h; omega
    · have h4 := Int.neg_tmod x y
      have h5 := Int.tmod_lt_of_pos (-x) hy
      rw [h4] at h5
      omega
  generalize x.tdiv y = q at *
  generalize x.tmod y = r at *
  constructor
  · intro hr
    have := (Int.ediv_emod_unique (a := x) (b := y) (r := r + y) (q := q - 1) hy).2 ⟨by rw [Int.mul_sub, ← h1]; omega, by omega, by omega⟩
    exact ⟨this.1.symm, this.2.symm⟩
  · intro hr
    have := (Int.ediv_emod_unique (a := x) (b := y) (r := r) (q := q) hy).2 ⟨by rw [← h1]; omega, by omega, by omega⟩
    exact ⟨this.1.symm, this.2.symm⟩

theorem clamp_ext {a : Int} (h0 : 0 ≤ a) (h1 : a < 4294967296) (m : Nat) (hm : 1 ≤ m) (hm2 : m ≤ 32) : wrap32 (a * 2 ^ (32 - m) % 4294967296) / 2 ^ (32 - m) % 4294967296 = W.ext a m := by
  have hp : (0 : Int) < 2 ^ (32 - m) := Int.pow_pos (by decide)
  have hq : (0 : Int) < 2 ^ (m - 1) := Int.pow_pos (by decide)
  have e1 : (2 : Int) ^ m = 2 * 2 ^ (m - 1) := by rw [show m = (m - 1) + 1 from by omega, Int.pow_succ, Nat.add_sub_cancel]; omega
  have e2 : (4294967296 : Int) = 2 ^ m * 2 ^ (32 - m) := by rw [← Int.pow_add, show m + (32 - m) = 32 from by omega]; rfl
  have e3 : a * 2 ^ (32 - m) % 4294967296 = a % 2 ^ m * 2 ^ (32 - m) := by rw [e2, Int.mul_comm a, Int.mul_comm (2 ^ m), Int.mul_emod_mul_of_pos _ _ hp, Int.mul_comm]
  have hr := Int.emod_nonneg a (show (2 : Int) ^ m ≠ 0 by omega)
  have hr2 := Int.emod_lt_of_pos a (show (0 : Int) < 2 ^ m by omega)
  have e4 : (2147483648 : Int) = 2 ^ (m - 1) * 2 ^ (32 - m) := by rw [← Int.pow_add, show m - 1 + (32 - m) = 31 from by omega]; rfl
  unfold W.ext W.wd
  rw [e3]
  generalize a % 2 ^ m = r at hr hr2
  simp only
  by_cases h : 2 ^ (m - 1) ≤ r
  · rw [if_pos h]
    have h5 : 2147483648 ≤ r * 2 ^ (32 - m) := by rw [e4]; exact Int.mul_le_mul_of_nonneg_right h (Int.le_of_lt hp)
    have h6 : r * 2 ^ (32 - m) < 4294967296 := by rw [e2]; exact Int.mul_lt_mul_of_pos_right hr2 hp
    have h7 : wrap32 (r * 2 ^ (32 - m)) = (r - 2 ^ m) * 2 ^ (32 - m) := by
      rw [Int.sub_mul, ← e2]; unfold wrap32; omega
    rw [h7, Int.mul_ediv_cancel _ (by omega)]
  · rw [if_neg h]
    have h5 : r * 2 ^ (32 - m) < 2147483648 := by rw [e4]; exact Int.mul_lt_mul_of_pos_right (by omega) hp
    have h6 : 0 ≤ r * 2 ^ (32 - m) := Int.mul_nonneg hr (Int.le_of_lt hp)
    have h7 : wrap32 (r * 2 ^ (32 - m)) = r * 2 ^ (32 - m) := by unfold wrap32; omega
    rw [h7, Int.mul_ediv_cancel _ (by omega)]

theorem word_extend (a b : Int) (m : Nat) (w : World) (ha : 0 ≤ a ∧ a < 4294967296) (hm : 1 ≤ m ∧ m ≤ 32) (hb : (b < 1 ∧ m = 1) ∨ (32 < b ∧ m = 32) ∨ b = m) :
    Calls Tryd.prog 40 #[.int .u32 a, .int .i64 b] w fun e w' => e = .returned (.int .u32 (W.ext a m)) ∧ w = w' := by
  have h := clamp_ext ha.1 ha.2 m hm.1 hm.2
  have H := Lib.hid h
  clear h
  rcases hb with ⟨h1, rfl⟩ | ⟨h1, rfl⟩ | rfl
  · go_enter Tryd.func40, Tryd.ntmps40
    go_wp2
    go_ret
    exact ⟨ret_int (by rw [← H.out]; rfl), rfl⟩
  · have h2 : ¬ b < 1 := by omega
    go_enter Tryd.func40, Tryd.ntmps40
    go_wp2
    go_ret
    refine ⟨ret_int ?_, rfl⟩
    rw [← H.out]
    simp
    unfold wrap32
    omega
  · have h2 : ¬ (m : Int) < 1 := by omega
    have h3 : ¬ (32 : Int) < (m : Int) := by omega
    go_enter Tryd.func40, Tryd.ntmps40
    go_wp2
    go_ret
    exact ⟨ret_int (by rw [← H.out]), rfl⟩

end Go.Proofs.YtmnmbpenonodiaaDoor
