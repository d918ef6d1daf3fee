/- Contracts of the reference of layer 1: Signed, Word, Add, Sub, Mul, Div, Left, Right, Turn. -/
import Derived.Test.YtkeaogphaifnmaaWordArith
namespace Go.Proofs.Ytkeaogphaifnmaa
set_option linter.unusedVariables false
set_option linter.unusedSimpArgs false
open Go.RowKit

theorem ref_signed (a : Int) (w : World) (ha : 0 ≤ a ∧ a < 4294967296) :
    Calls Try.prog 17 #[.int .u32 a] w fun e w' => e = .returned (.int .i64 (W.sg a)) ∧ w = w' := by
  by_cases h : 2147483648 ≤ a
  all_goals
    go_enter Try.func17, Try.ntmps17
    go_wp2
    go_ret
    exact ⟨ret_int (by unfold W.sg; split <;> omega), rfl⟩

theorem tmod_pos {n : Int} (h : ¬ n.tmod 4294967296 < 0) : n.tmod 4294967296 = n % 4294967296 := by
  exact ((tdiv_floor (x := n) (y := 4294967296) (by decide)).2 (by omega)).2
theorem tmod_neg {n : Int} (h : n.tmod 4294967296 < 0) : n.tmod 4294967296 + 4294967296 = n % 4294967296 := by
  exact ((tdiv_floor (x := n) (y := 4294967296) (by decide)).1 h).2

theorem ref_word (n : Int) (w : World) (hn : -9223372036854775808 ≤ n ∧ n ≤ 9223372036854775807) :
    Calls Try.prog 16 #[.int .i64 n] w fun e w' => e = .returned (.int .u32 (W.wd n)) ∧ w = w' := by
  obtain ⟨r, hr⟩ : ∃ r, r = n.tmod 4294967296 := ⟨_, rfl⟩
  have b1 := @tmod_pos n
  have b2 := @tmod_neg n
  rw [← hr] at b1 b2
  have h0 : r < 4294967296 ∧ -4294967296 ≤ r := by
    by_cases h : r < 0
    · have := b2 h; omega
    · have := b1 h; omega
  have B1 := Lib.hid b1
  have B2 := Lib.hid b2
  clear b1 b2
  by_cases h : r < 0
  · have h1 := h
    rw [hr] at h1
    go_enter Try.func16, Try.ntmps16
    go_wp2
    go_ret
    exact ⟨ret_int (by rw [W.wd, ← B2.out h]; simp [hr]), rfl⟩
  · have h1 := h
    rw [hr] at h1
    go_enter Try.func16, Try.ntmps16
    go_wp2
    go_ret
    exact ⟨ret_int (by rw [W.wd, ← B1.out h]; simp [hr]), rfl⟩

theorem ref_outside (n : Int) (w : World) :
    Calls Try.prog 63 #[.int .i64 n] w fun e w' => e = .returned (.bool (W.out n)) ∧ w = w' := by
  by_cases h : n < -2147483648
  all_goals
    go_enter Try.func63, Try.ntmps63
    go_wp2
    go_ret
    exact ⟨ret_bool (by unfold W.out; rw [Bool.eq_iff_iff]; simp; omega), rfl⟩

theorem ref_add (a b : Int) (c : Bool) (w : World) (ha : 0 ≤ a ∧ a < 4294967296) (hb : 0 ≤ b ∧ b < 4294967296) (n : Int) (hn : n = if c then 1 else 0) :
    Calls Try.prog 55 #[.int .u32 a, .int .u32 b, .bool c] w fun e w' => e = .returned (.tuple #[.int .u32 (W.wd (a + b + n)), .bool (decide (4294967296 ≤ a + b + n)), .bool (W.out (W.sg a + W.sg b + n))]) ∧ w = w' := by
  have s1 := W.sg_bd ha.1 ha.2
  have s2 := W.sg_bd hb.1 hb.2
  cases c
  all_goals
    simp only [if_true, Bool.false_eq_true, if_false] at hn
    subst hn
    go_enter Try.func55, Try.ntmps55
    go_wp2_with fail
    refine (ref_signed _ _ ha).mono ?_
    rintro e w' ⟨rfl, rfl⟩
    go_wp2_with fail
    refine (ref_signed _ _ hb).mono ?_
    rintro e w' ⟨rfl, rfl⟩
    go_wp2_with fail
    refine (ref_word _ _ (by omega)).mono ?_
    rintro e w' ⟨rfl, rfl⟩
    go_wp2_with fail
    refine (ref_outside _ _).mono ?_
    rintro e w' ⟨rfl, rfl⟩
    go_wp2_with fail
    go_ret3
    exact ⟨by simp, rfl⟩

theorem ref_sub (a b : Int) (c : Bool) (w : World) (ha : 0 ≤ a ∧ a < 4294967296) (hb : 0 ≤ b ∧ b < 4294967296) (n : Int) (hn : n = if c then 1 else 0) :
    Calls Try.prog 56 #[.int .u32 a, .int .u32 b, .bool c] w fun e w' => e = .returned (.tuple #[.int .u32 (W.wd (a - b - n)), .bool (decide (a - b - n < 0)), .bool (W.out (W.sg a - W.sg b - n))]) ∧ w = w' := by
  have s1 := W.sg_bd ha.1 ha.2
  have s2 := W.sg_bd hb.1 hb.2
  cases c
  all_goals
    simp only [if_true, Bool.false_eq_true, if_false] at hn
    subst hn
    go_enter Try.func56, Try.ntmps56
    go_wp2_with fail
    refine (ref_signed _ _ ha).mono ?_
    rintro e w' ⟨rfl, rfl⟩
    go_wp2_with fail
    refine (ref_signed _ _ hb).mono ?_
    rintro e w' ⟨rfl, rfl⟩
    go_wp2_with fail
    refine (ref_word _ _ (by omega)).mono ?_
    rintro e w' ⟨rfl, rfl⟩
    go_wp2_with fail
    refine (ref_outside _ _).mono ?_
    rintro e w' ⟨rfl, rfl⟩
    go_wp2_with fail
    go_ret3
    exact ⟨by simp, rfl⟩

theorem ref_left (a b : Int) (w : World) (ha : 0 ≤ a ∧ a < 4294967296) (hb : 0 ≤ b ∧ b < 4294967296) :
    Calls Try.prog 51 #[.int .u32 a, .int .u32 b] w fun e w' => e = .returned (.int .u32 (W.shl a (b % 32).toNat)) ∧ w = w' := by
  obtain ⟨m, hm⟩ : ∃ m : Nat, (m : Int) = b % 32 := ⟨(b % 32).toNat, by omega⟩
  have hmt : (b % 32).toNat = m := by omega
  rw [hmt]
  have h0 := W.shl_zero ha.1 ha.2
  have H0 := Lib.hid h0
  have HM := Lib.hid hm
  have hm31 : m ≤ 31 := by omega
  clear hmt h0 hm
  go_enter Try.func51, Try.ntmps51
  go_wp2
  go_loop [0, 5] (fun x i => ∃ k : Nat, k ≤ m ∧ i = .int .u32 k ∧ x = .int .u32 (W.shl a k)) (fun _ i => m - (intOf i).toNat)
  case atStart => exact ⟨0, Nat.zero_le _, rfl, by rw [H0.out]⟩
  case round =>
    obtain ⟨k, hk, rfl, rfl⟩ := hrel
    have hb2 := HM.out
    have h2 : 0 ≤ W.shl a k ∧ W.shl a k < 4294967296 := by unfold W.shl; omega
    have h3 := Lib.hid (W.shl_succ a k)
    obtain ⟨z, hz⟩ : ∃ z, z = W.shl a k := ⟨_, rfl⟩
    rw [← hz] at h2 h3
    rw [← hz]
    have HZ := Lib.hid hz
    clear hz
    by_cases hlt : k < m
    · have hl : (k : Int) < b % 32 := by omega
      clear hb2
      go_wp2_with fail
      refine (ref_word _ _ (by omega)).mono ?_
      rintro e w' ⟨rfl, rfl⟩
      go_wp2_with fail
      go_round
      case rel => exact ⟨k + 1, by omega, by go_num, by rw [h3.out]; rfl⟩
      case measure => simp [intOf]; omega
    · have hl : ¬ (k : Int) < b % 32 := by omega
      obtain rfl : k = m := by omega
      clear hb2
      go_wp2_with fail
      go_ret
      exact ⟨ret_int HZ.out, rfl⟩

theorem ref_right (a b : Int) (w : World) (ha : 0 ≤ a ∧ a < 4294967296) (hb : 0 ≤ b ∧ b < 4294967296) :
    Calls Try.prog 52 #[.int .u32 a, .int .u32 b] w fun e w' => e = .returned (.int .u32 (W.sar a (b % 32).toNat)) ∧ w = w' := by
  obtain ⟨m, hm⟩ : ∃ m : Nat, (m : Int) = b % 32 := ⟨(b % 32).toNat, by omega⟩
  have hmt : (b % 32).toNat = m := by omega
  rw [hmt]
  have h0 := W.sar_zero ha.1 ha.2
  have H0 := Lib.hid h0
  have HM := Lib.hid hm
  have hm31 : m ≤ 31 := by omega
  clear hmt h0 hm
  go_enter Try.func52, Try.ntmps52
  go_wp2
  go_loop [0, 5] (fun x i => ∃ k : Nat, k ≤ m ∧ i = .int .u32 k ∧ x = .int .u32 (W.sar a k)) (fun _ i => m - (intOf i).toNat)
  case atStart => exact ⟨0, Nat.zero_le _, rfl, by rw [H0.out]⟩
  case round =>
    obtain ⟨k, hk, rfl, rfl⟩ := hrel
    have hb2 := HM.out
    have h2 : 0 ≤ W.sar a k ∧ W.sar a k < 4294967296 := ⟨W.wd_lo _, W.wd_hi _⟩
    have h3 := Lib.hid (W.sar_succ ha.1 ha.2 k)
    obtain ⟨z, hz⟩ : ∃ z, z = W.sar a k := ⟨_, rfl⟩
    rw [← hz] at h2 h3
    rw [← hz]
    have HZ := Lib.hid hz
    clear hz
    by_cases hlt : k < m
    · have hl : (k : Int) < b % 32 := by omega
      clear hb2
      go_wp2_with fail
      go_round
      case rel => exact ⟨k + 1, by omega, by go_num, by rw [h3.out]⟩
      case measure => simp [intOf]; omega
    · have hl : ¬ (k : Int) < b % 32 := by omega
      obtain rfl : k = m := by omega
      clear hb2
      go_wp2_with fail
      go_ret
      exact ⟨ret_int HZ.out, rfl⟩

theorem ref_turn (a b : Int) (w : World) (ha : 0 ≤ a ∧ a < 4294967296) (hb : 0 ≤ b ∧ b < 4294967296) :
    Calls Try.prog 53 #[.int .u32 a, .int .u32 b] w fun e w' => e = .returned (.int .u32 (W.turn a (b % 32).toNat)) ∧ w = w' := by
  obtain ⟨m, hm⟩ : ∃ m : Nat, (m : Int) = b % 32 := ⟨(b % 32).toNat, by omega⟩
  have hmt : (b % 32).toNat = m := by omega
  rw [hmt]
  have h0 := W.turn_zero a
  have H0 := Lib.hid h0
  have HM := Lib.hid hm
  have hm31 : m ≤ 31 := by omega
  clear hmt h0 hm
  go_enter Try.func53, Try.ntmps53
  go_wp2
  go_loop [0, 5] (fun x i => ∃ k : Nat, k ≤ m ∧ i = .int .u32 k ∧ x = .int .u32 (W.turn a k)) (fun _ i => m - (intOf i).toNat)
  case atStart => exact ⟨0, Nat.zero_le _, rfl, by rw [H0.out]⟩
  case round =>
    obtain ⟨k, hk, rfl, rfl⟩ := hrel
    have hb2 := HM.out
    have h2 := W.turn_bd ha.1 ha.2 k (by omega)
    have h3 := Lib.hid (W.turn_succ (a := a) k (by omega))
    obtain ⟨z, hz⟩ : ∃ z, z = W.turn a k := ⟨_, rfl⟩
    rw [← hz] at h2 h3
    rw [← hz]
    have HZ := Lib.hid hz
    clear hz
    by_cases hlt : k < m
    · have hl : (k : Int) < b % 32 := by omega
      clear hb2
      go_wp2_with fail
      go_round
      case rel => exact ⟨k + 1, by omega, by go_num, by rw [h3.out]⟩
      case measure => simp [intOf]; omega
    · have hl : ¬ (k : Int) < b % 32 := by omega
      obtain rfl : k = m := by omega
      clear hb2
      go_wp2_with fail
      go_ret
      exact ⟨ret_int HZ.out, rfl⟩

end Go.Proofs.Ytkeaogphaifnmaa
