/- Contracts of word.Less and of the reference's Extend; facts on shifts and on extended words. -/
import Derived.Test.YtomenhpdkghlgaaDoorWordLaws
namespace Go.Proofs.YtomenhpdkghlgaaDoor
set_option linter.unusedVariables false
set_option linter.unusedSimpArgs false
open Go.RowKit Go.Sort Go.Lib

theorem less_walk (a b : Int) (w : World) (ha : 0 ≤ a ∧ a < 4294967296) (hb : 0 ≤ b ∧ b < 4294967296) :
    Calls Tryd.prog 31 #[.int .u32 a, .int .u32 b] w fun e w' => e = .returned (.bool (decide (W.sg a < W.sg b))) ∧ w = w' := by
  have e1 := wrap32_sg ha.1 ha.2
  have e2 := wrap32_sg hb.1 hb.2
  go_enter Tryd.func31, Tryd.ntmps31
  go_wp2
  go_ret
  exact ⟨rfl, rfl⟩

theorem pow_bd {m : Nat} (h : m ≤ 32) : (1 : Int) ≤ 2 ^ m ∧ (2 : Int) ^ m ≤ 4294967296 := by
  have h1 : (0 : Int) < 2 ^ m := Int.pow_pos (by decide)
  have h2 : (2 : Nat) ^ m ≤ 2 ^ 32 := Nat.pow_le_pow_right (by decide) h
  have h3 : ((2 ^ m : Nat) : Int) = (2 : Int) ^ m := by rw [Int.natCast_pow]; rfl
  refine ⟨by omega, ?_⟩
  rw [← h3]
  have h4 : (2 : Nat) ^ 32 = 4294967296 := by decide
  omega

set_option maxRecDepth 100000 in
set_option maxHeartbeats 4000000 in
theorem rext_walk (a b : Int) (m : Nat) (w : World) (ha : 0 ≤ a ∧ a < 4294967296) (hm : 1 ≤ m ∧ m ≤ 32) (hb : (b < 1 ∧ m = 1) ∨ (32 < b ∧ m = 32) ∨ b = m) :
    Calls Tryd.prog 30 #[.int .u32 a, .int .i64 b] w fun e w' => e = .returned (.int .u32 (W.ext a m)) ∧ w = w' := by
  rcases hb with ⟨h1, rfl⟩ | ⟨h1, rfl⟩ | rfl
  · by_cases hq : 1 ≤ a % 2
    · have d : decide (1 ≤ a % 2) = true := decide_eq_true hq
      have hr : a % 2 = 1 := by omega
      go_enter Tryd.func30, Tryd.ntmps30
      go_wp2_with fail
      refine (ref_word _ _ (by omega)).mono ?_
      rintro e w' ⟨rfl, rfl⟩
      go_wp2_with fail
      go_ret
      exact ⟨ret_int (by unfold W.ext; simp [hr]), rfl⟩
    · have d : decide (1 ≤ a % 2) = false := decide_eq_false hq
      have hr : a % 2 = 0 := by omega
      go_enter Tryd.func30, Tryd.ntmps30
      go_wp2_with fail
      refine (ref_word _ _ (by omega)).mono ?_
      rintro e w' ⟨rfl, rfl⟩
      go_wp2_with fail
      go_ret
      exact ⟨ret_int (by unfold W.ext; simp [hr]), rfl⟩
  · have h2 : ¬ b < 1 := by omega
    have hr : a % 4294967296 = a := by omega
    by_cases hq : 2147483648 ≤ a
    · have d : decide (2147483648 ≤ a) = true := decide_eq_true hq
      go_enter Tryd.func30, Tryd.ntmps30
      go_wp2_with fail
      refine (ref_word _ _ (by omega)).mono ?_
      rintro e w' ⟨rfl, rfl⟩
      go_wp2_with fail
      go_ret
      exact ⟨ret_int (by unfold W.ext; simp [hr, hq]), rfl⟩
    · have d : decide (2147483648 ≤ a) = false := decide_eq_false hq
      go_enter Tryd.func30, Tryd.ntmps30
      go_wp2_with fail
      refine (ref_word _ _ (by omega)).mono ?_
      rintro e w' ⟨rfl, rfl⟩
      go_wp2_with fail
      go_ret
      exact ⟨ret_int (by unfold W.ext; simp [hr]; rw [if_neg (by omega)]), rfl⟩
  · have h2 : ¬ (m : Int) < 1 := by omega
    have h3 : ¬ (32 : Int) < (m : Int) := by omega
    obtain ⟨P, hP⟩ : ∃ P : Int, P = 2 ^ m := ⟨_, rfl⟩
    obtain ⟨Q, hQ⟩ : ∃ Q : Int, Q = 2 ^ (m - 1) := ⟨_, rfl⟩
    have bP := pow_bd hm.2
    have bQ := pow_bd (m := m - 1) (by omega)
    rw [← hP] at bP
    rw [← hQ] at bQ
    have w1 : wrap64 (2 ^ m) = P := by rw [← hP]; unfold wrap64; omega
    have w2 : wrap64 (2 ^ (m - 1)) = Q := by rw [← hQ]; unfold wrap64; omega
    obtain ⟨r, hr⟩ : ∃ r, a % P = r := ⟨_, rfl⟩
    have br : 0 ≤ r ∧ r < P := by rw [← hr]; exact ⟨Int.emod_nonneg _ (by omega), Int.emod_lt_of_pos _ (by omega)⟩
    have he : W.ext a m = W.wd (if Q ≤ r then r - P else r) := by unfold W.ext; rw [← hP, ← hQ, hr]
    have HE := Lib.hid he
    have w0 : ¬ P = 0 := by omega
    clear hP hQ he
    by_cases hq : Q ≤ r
    · have d : decide (Q ≤ r) = true := decide_eq_true hq
      go_enter Tryd.func30, Tryd.ntmps30
      go_wp2_with fail
      refine (ref_word _ _ (by omega)).mono ?_
      rintro e w' ⟨rfl, rfl⟩
      go_wp2_with fail
      go_ret
      exact ⟨ret_int (by rw [HE.out, if_pos hq]), rfl⟩
    · have d : decide (Q ≤ r) = false := decide_eq_false hq
      go_enter Tryd.func30, Tryd.ntmps30
      go_wp2_with fail
      refine (ref_word _ _ (by omega)).mono ?_
      rintro e w' ⟨rfl, rfl⟩
      go_wp2_with fail
      go_ret
      exact ⟨ret_int (by rw [HE.out, if_neg (by omega)]), rfl⟩

/-! ### extended words, plainly -/
theorem pow_half {n : Nat} (h : 1 ≤ n) : (2 : Int) ^ n = 2 * 2 ^ (n - 1) := by
  rw [show n = (n - 1) + 1 from by omega, Int.pow_succ, Nat.add_sub_cancel]; omega
theorem pow_dvd {m n : Nat} (h : m ≤ n) : (2 : Int) ^ m ∣ 2 ^ n := ⟨2 ^ (n - m), by rw [← Int.pow_add, Nat.add_sub_cancel' h]⟩
theorem pow_le {m n : Nat} (h : m ≤ n) : (2 : Int) ^ m ≤ 2 ^ n := by
  have h1 : (2 : Nat) ^ m ≤ 2 ^ n := Nat.pow_le_pow_right (by decide) h
  have e1 : ((2 ^ m : Nat) : Int) = (2 : Int) ^ m := by rw [Int.natCast_pow]; rfl
  have e2 : ((2 ^ n : Nat) : Int) = (2 : Int) ^ n := by rw [Int.natCast_pow]; rfl
  rw [← e1, ← e2]; omega

theorem ext_is (a : Int) {n : Nat} (h : 1 ≤ n) : ∃ e, W.ext a n = W.wd e ∧ e % 2 ^ n = a % 2 ^ n ∧ -(2 ^ (n - 1)) ≤ e ∧ e < 2 ^ (n - 1) := by
  have hp := pow_half h
  have hq : (0 : Int) < 2 ^ (n - 1) := Int.pow_pos (by decide)
  have h1 := Int.emod_nonneg a (show (2 : Int) ^ n ≠ 0 by omega)
  have h2 := Int.emod_lt_of_pos a (show (0 : Int) < 2 ^ n by omega)
  have h3 := Int.emod_emod_of_dvd a (Int.dvd_refl ((2 : Int) ^ n))
  unfold W.ext
  simp only
  generalize a % 2 ^ n = r at *
  by_cases hr : 2 ^ (n - 1) ≤ r
  · rw [if_pos hr]
    refine ⟨r - 2 ^ n, rfl, ?_, by omega, by omega⟩
    have := Int.add_mul_emod_self_left (a := r) (b := 2 ^ n) (c := -1)
    rw [show r + 2 ^ n * -1 = r - 2 ^ n from by omega] at this
    rw [this, h3]
  · rw [if_neg hr]
    exact ⟨r, rfl, h3, by omega, by omega⟩
theorem ext_uniq {z e : Int} {m : Nat} (h : 1 ≤ m) (hz : z % 2 ^ m = e % 2 ^ m) (h1 : -(2 ^ (m - 1)) ≤ e) (h2 : e < 2 ^ (m - 1)) : W.ext z m = W.wd e := by
  have hp := pow_half h
  have hq : (0 : Int) < 2 ^ (m - 1) := Int.pow_pos (by decide)
  have he : e % 2 ^ m = if e < 0 then e + 2 ^ m else e := by
    split
    · have := Int.add_mul_emod_self_left (a := e) (b := 2 ^ m) (c := 1)
      rw [Int.mul_one] at this
      rw [← this]; exact Int.emod_eq_of_lt (by omega) (by omega)
    · exact Int.emod_eq_of_lt (by omega) (by omega)
  unfold W.ext
  simp only [hz, he]
  congr 1
  split <;> split <;> omega
theorem wd_mod {e : Int} {m : Nat} (h : m ≤ 32) : W.wd e % 2 ^ m = e % 2 ^ m := by
  unfold W.wd
  exact Int.emod_emod_of_dvd e (show (2 : Int) ^ m ∣ 4294967296 from pow_dvd (n := 32) h)
theorem ext_ge (a : Int) {n m : Nat} (hn : 1 ≤ n) (hm : n ≤ m) (h2 : m ≤ 32) : W.ext (W.ext a n) m = W.ext a n := by
  obtain ⟨e, h1, h3, h4, h5⟩ := ext_is a hn
  have := pow_le (show n - 1 ≤ m - 1 by omega)
  rw [h1]
  exact ext_uniq (by omega) (wd_mod h2) (by omega) (by omega)
theorem ext_le (a : Int) {n m : Nat} (hm : 1 ≤ m) (hn : m ≤ n) (h2 : n ≤ 32) : W.ext (W.ext a n) m = W.ext a m := by
  obtain ⟨e, h1, h3, h4, h5⟩ := ext_is a (show 1 ≤ n by omega)
  obtain ⟨e', k1, k3, k4, k5⟩ := ext_is a hm
  rw [h1, k1]
  refine ext_uniq hm ?_ k4 k5
  rw [wd_mod (by omega), k3, ← Int.emod_emod_of_dvd e (pow_dvd hn), h3, Int.emod_emod_of_dvd a (pow_dvd hn)]

/-- the bits that are taken. -/
def clamp (b : Int) : Nat := if b < 1 then 1 else if 32 < b then 32 else b.toNat
theorem clamp_is (b : Int) : (1 ≤ clamp b ∧ clamp b ≤ 32) ∧ ((b < 1 ∧ clamp b = 1) ∨ (32 < b ∧ clamp b = 32) ∨ b = clamp b) := by
  unfold clamp
  split
  · exact ⟨by omega, .inl ⟨by assumption, rfl⟩⟩
  · split
    · exact ⟨by omega, .inr (.inl ⟨by assumption, rfl⟩)⟩
    · exact ⟨by omega, .inr (.inr (by omega))⟩
theorem clamp_mono {a b : Int} (h : a ≤ b) : clamp a ≤ clamp b := by
  unfold clamp
  split <;> split <;> (try split) <;> (try split) <;> omega
theorem ext_bd (a : Int) (m : Nat) : 0 ≤ W.ext a m ∧ W.ext a m < 4294967296 := by unfold W.ext; exact ⟨W.wd_lo _, W.wd_hi _⟩

end Go.Proofs.YtomenhpdkghlgaaDoor
