/- Contracts of the reference of layer 1: Mul, Div. -/
import Derived.Test.YtkeaogphaifnmaaWordRef
namespace Go.Proofs.Ytkeaogphaifnmaa
set_option linter.unusedVariables false
set_option linter.unusedSimpArgs false
open Go.RowKit

theorem half_bd {x y : Int} (hx : 0 ≤ x ∧ x ≤ 65535) (hy : 0 ≤ y ∧ y ≤ 65535) : 0 ≤ x * y ∧ x * y ≤ 4294836225 :=
  ⟨Int.mul_nonneg hx.1 hy.1, Int.le_trans (Int.mul_le_mul hx.2 hy.2 hy.1 (by omega)) (by decide)⟩

theorem halves (a b : Int) : a * b = 4294967296 * (a / 65536 * (b / 65536)) + 65536 * (a / 65536 * (b % 65536) + a % 65536 * (b / 65536)) + a % 65536 * (b % 65536) := by
  have h1 := Int.mul_ediv_add_emod a 65536
  have h2 := Int.mul_ediv_add_emod b 65536
  generalize a / 65536 = a1 at *
  generalize a % 65536 = a0 at *
  generalize b / 65536 = b1 at *
  generalize b % 65536 = b0 at *
  subst h1; subst h2
  grind

theorem sg_mul (a b : Int) : W.sg a * W.sg b = a * b - (if 2147483648 ≤ a then 4294967296 * b else 0) - (if 2147483648 ≤ b then 4294967296 * a else 0) + (if 2147483648 ≤ a ∧ 2147483648 ≤ b then 18446744073709551616 else 0) := by
  unfold W.sg
  by_cases h1 : 2147483648 ≤ a <;> by_cases h2 : 2147483648 ≤ b <;> simp only [h1, h2, if_true, if_false, and_true, and_false, and_self] <;> grind

set_option maxHeartbeats 1000000 in
theorem ref_mul (a b : Int) (s : Bool) (w : World) (ha : 0 ≤ a ∧ a < 4294967296) (hb : 0 ≤ b ∧ b < 4294967296) :
    Calls Try.prog 57 #[.int .u32 a, .int .u32 b, .bool s] w fun e w' => e = .returned (.tuple #[.int .u32 (W.mulLo s a b), .int .u32 (W.mulHi s a b)]) ∧ w = w' := by
  have p11 := half_bd (x := a / 65536) (y := b / 65536) (by omega) (by omega)
  have p10 := half_bd (x := a / 65536) (y := b % 65536) (by omega) (by omega)
  have p01 := half_bd (x := a % 65536) (y := b / 65536) (by omega) (by omega)
  have p00 := half_bd (x := a % 65536) (y := b % 65536) (by omega) (by omega)
  have HH := Lib.hid (halves a b)
  have HS := Lib.hid (sg_mul a b)
  cases s
  · go_enter Try.func57, Try.ntmps57
    go_wp2_with fail
    go_ret2
    have hh := HH.out
    refine ⟨ret_tuple2 ?_ ?_, rfl⟩
    · simp only [W.mulLo]; rw [if_neg (by decide), hh]; omega
    · simp only [W.mulHi]; rw [if_neg (by decide), hh]; omega
  · by_cases h1 : 2147483648 ≤ a
    · by_cases h2 : 2147483648 ≤ b
      · have s3 : W.sg a < 0 := by unfold W.sg; rw [if_pos h1]; omega
        have s4 : W.sg b < 0 := by unfold W.sg; rw [if_pos h2]; omega
        go_enter Try.func57, Try.ntmps57
        go_wp2_with fail
        refine (ref_signed _ _ ha).mono ?_
        rintro e w' ⟨rfl, rfl⟩
        go_wp2_with fail
        refine (ref_signed _ _ hb).mono ?_
        rintro e w' ⟨rfl, rfl⟩
        go_wp2_with fail
        go_ret2
        have hh := HH.out
        have hs := HS.out
        simp only [h1, h2, if_true, if_false, and_true, and_false, and_self] at hs
        refine ⟨ret_tuple2 ?_ ?_, rfl⟩
        · simp only [W.mulLo, if_true]; rw [hs, hh]; omega
        · simp only [W.mulHi, if_true]; rw [hs, hh]; omega
      · have s3 : W.sg a < 0 := by unfold W.sg; rw [if_pos h1]; omega
        have s4 : 0 ≤ W.sg b := by unfold W.sg; rw [if_neg h2]; omega
        go_enter Try.func57, Try.ntmps57
        go_wp2_with fail
        refine (ref_signed _ _ ha).mono ?_
        rintro e w' ⟨rfl, rfl⟩
        go_wp2_with fail
        refine (ref_signed _ _ hb).mono ?_
        rintro e w' ⟨rfl, rfl⟩
        go_wp2_with fail
        go_ret2
        have hh := HH.out
        have hs := HS.out
        simp only [h1, h2, if_true, if_false, and_true, and_false, and_self] at hs
        refine ⟨ret_tuple2 ?_ ?_, rfl⟩
        · simp only [W.mulLo, if_true]; rw [hs, hh]; omega
        · simp only [W.mulHi, if_true]; rw [hs, hh]; omega
    · by_cases h2 : 2147483648 ≤ b
      · have s3 : 0 ≤ W.sg a := by unfold W.sg; rw [if_neg h1]; omega
        have s4 : W.sg b < 0 := by unfold W.sg; rw [if_pos h2]; omega
        go_enter Try.func57, Try.ntmps57
        go_wp2_with fail
        refine (ref_signed _ _ ha).mono ?_
        rintro e w' ⟨rfl, rfl⟩
        go_wp2_with fail
        refine (ref_signed _ _ hb).mono ?_
        rintro e w' ⟨rfl, rfl⟩
        go_wp2_with fail
        go_ret2
        have hh := HH.out
        have hs := HS.out
        simp only [h1, h2, if_true, if_false, and_true, and_false, and_self] at hs
        refine ⟨ret_tuple2 ?_ ?_, rfl⟩
        · simp only [W.mulLo, if_true]; rw [hs, hh]; omega
        · simp only [W.mulHi, if_true]; rw [hs, hh]; omega
      · have s3 : 0 ≤ W.sg a := by unfold W.sg; rw [if_neg h1]; omega
        have s4 : 0 ≤ W.sg b := by unfold W.sg; rw [if_neg h2]; omega
        go_enter Try.func57, Try.ntmps57
        go_wp2_with fail
        refine (ref_signed _ _ ha).mono ?_
        rintro e w' ⟨rfl, rfl⟩
        go_wp2_with fail
        refine (ref_signed _ _ hb).mono ?_
        rintro e w' ⟨rfl, rfl⟩
        go_wp2_with fail
        go_ret2
        have hh := HH.out
        have hs := HS.out
        rw [if_neg (by omega), if_neg (by omega), if_neg (by omega)] at hs
        refine ⟨ret_tuple2 ?_ ?_, rfl⟩
        · simp only [W.mulLo, if_true]; rw [hs, hh]; omega
        · simp only [W.mulHi, if_true]; rw [hs, hh]; omega

theorem ref_div (a b : Int) (w : World) (ha : 0 ≤ a ∧ a < 4294967296) (hb : 0 < b ∧ b < 2147483648) :
    Calls Try.prog 19 #[.int .u32 a, .int .u32 b] w fun e w' => e = .returned (.tuple #[.int .u32 (W.quo a b), .int .u32 (W.rem a b)]) ∧ w = w' := by
  have s1 := W.sg_bd ha.1 ha.2
  obtain ⟨q, r, hq, hr, h1, h2, h3, h4, h5⟩ := quo_facts ha hb
  have ht := tdiv_floor (x := W.sg a) hb.1
  obtain ⟨x, hx⟩ : ∃ x, x = W.sg a := ⟨_, rfl⟩
  have e2 : W.quo a b = W.wd q := by unfold W.quo; rw [hq]
  have e3 : W.rem a b = r := by unfold W.rem; rw [hr]
  rw [← hx] at s1 ht hq hr h3
  have eb : W.sg b = b := by unfold W.sg; rw [if_neg (by omega)]
  obtain ⟨rt, hrt⟩ : ∃ rt, rt = x.tmod b := ⟨_, rfl⟩
  obtain ⟨qt, hqt⟩ : ∃ qt, qt = x.tdiv b := ⟨_, rfl⟩
  rw [← hrt, ← hqt, ← hq, ← hr] at ht
  obtain ⟨p, hp⟩ : ∃ p, p = q * b := ⟨_, rfl⟩
  have h3' : x = p + r := by rw [hp, Int.mul_comm]; exact h3
  have p2 : (q + 1) * b = p + b := by rw [hp]; grind
  have p1 : q * b = p := hp.symm
  have hqq : qt = q ∨ qt = q + 1 := by
    by_cases h : rt < 0
    · have := ht.1 h; omega
    · have := ht.2 (by omega); omega
  have hpb : -2147483648 ≤ p + r ∧ p + r < 2147483648 := by omega
  have E2 := Lib.hid e2
  have E3 := Lib.hid e3
  have HX := Lib.hid hx
  have HQT := Lib.hid hqt
  have H3 := Lib.hid h3'
  have HQQ := Lib.hid hqq
  have P1 := Lib.hid p1
  have P2 := Lib.hid p2
  have EB := Lib.hid eb
  have hb0 : (b == 0) = false := by rw [beq_eq_false_iff_ne]; omega
  clear e2 e3 hx hqt h3' hqq p1 p2 eb ht hq hr h3 hrt hp
  go_enter Try.func19, Try.ntmps19
  go_wp2_with fail
  refine (ref_signed _ _ ha).mono ?_
  rintro e w' ⟨rfl, rfl⟩
  rw [← HX.out]
  go_wp2_with fail
  refine (ref_signed _ _ (by omega)).mono ?_
  rintro e w' ⟨rfl, rfl⟩
  rw [EB.out]
  go_wp2_with fail
  rw [← HQT.out]
  go_loop [8] (fun v => ∃ z : Int, v = .int .i64 z ∧ (z = q ∨ z = q + 1)) (fun v => (intOf v - q).toNat)
  case atStart => exact ⟨qt, rfl, HQQ.out⟩
  case round =>
    obtain ⟨z, rfl, hz⟩ := hrel
    rcases hz with rfl | rfl
    · have p1 := P1.out
      have hle : ¬ x < p := by have := H3.out; omega
      have hxp : x - p = r := by have := H3.out; omega
      go_wp2_with fail
      refine (ref_word _ _ (by omega)).mono ?_
      rintro e w' ⟨rfl, rfl⟩
      go_wp2_with fail
      refine (ref_word _ _ (by omega)).mono ?_
      rintro e w' ⟨rfl, rfl⟩
      go_wp2_with fail
      go_ret2
      refine ⟨ret_tuple2 (by rw [E2.out]) ?_, rfl⟩
      rw [E3.out]
      unfold W.wd
      omega
    · have p2 := P2.out
      have hle : x < p + b := by have := H3.out; omega
      go_wp2_with fail
      go_round
      case rel => exact ⟨q, by go_num, Or.inl rfl⟩
      case measure => simp only [intOf]; omega

end Go.Proofs.Ytkeaogphaifnmaa
