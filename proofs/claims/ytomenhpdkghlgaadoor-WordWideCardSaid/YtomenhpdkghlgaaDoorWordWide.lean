/- The law WordWide, walked. -/
import Derived.Test.YtomenhpdkghlgaaDoorWordLaws
namespace Go.Proofs.YtomenhpdkghlgaaDoor
set_option linter.unusedVariables false
set_option linter.unusedSimpArgs false
open Go.RowKit Go.Sort Go.Lib

theorem wide_sum (a b : Int) : W.wd (a / 4294967296 + b / 4294967296 + (if decide (4294967296 ≤ a % 4294967296 + b % 4294967296 + 0) = true then 1 else 0)) * 4294967296 + W.wd (a % 4294967296 + b % 4294967296 + 0) = (a + b) % 18446744073709551616 := by
  unfold W.wd
  simp only [decide_eq_true_eq]
  split <;> omega
theorem wide_less (a b : Int) : W.wd (a / 4294967296 - b / 4294967296 - (if decide (a % 4294967296 - b % 4294967296 - 0 < 0) = true then 1 else 0)) * 4294967296 + W.wd (a % 4294967296 - b % 4294967296 - 0) = (a - b) % 18446744073709551616 := by
  unfold W.wd
  simp only [decide_eq_true_eq]
  split <;> omega
theorem wide_mul (p q : Int) : W.mulHi false p q * 4294967296 + W.mulLo false p q = p * q := by
  unfold W.mulHi W.mulLo; simp; omega

theorem lo_bd (p q : Int) : 0 ≤ W.mulLo false p q ∧ W.mulLo false p q < 4294967296 := by unfold W.mulLo; simp; omega
theorem hi_bd {p q : Int} (hp : 0 ≤ p ∧ p < 4294967296) (hq : 0 ≤ q ∧ q < 4294967296) : 0 ≤ W.mulHi false p q ∧ W.mulHi false p q < 4294967296 := by
  have := W.mul_bd hp hq
  unfold W.mulHi; simp; omega
theorem low_bd (a : Int) : 0 ≤ a % 4294967296 ∧ a % 4294967296 < 4294967296 := by omega
theorem high_bd {a : Int} (ha : 0 ≤ a ∧ a < 18446744073709551616) : 0 ≤ a / 4294967296 ∧ a / 4294967296 < 4294967296 := by omega
theorem high_mod {a : Int} (ha : 0 ≤ a ∧ a < 18446744073709551616) : a / 4294967296 % 4294967296 = a / 4294967296 := by omega

set_option maxRecDepth 100000 in
set_option maxHeartbeats 4000000 in
theorem wide_walk (a b : Int) (w : World) (hL : Laid w) (_ha : IntKind.u64.min ≤ a ∧ a ≤ IntKind.u64.max) (_hb : IntKind.u64.min ≤ b ∧ b ≤ IntKind.u64.max) : Calls Tryd.prog 4 #[.int .u64 a, .int .u64 b] w fun e w' => e = .returned (.bool true) ∧ Below w.heap.size w w' := by
  have e1 : IntKind.u64.max = 18446744073709551615 := by decide
  have e2 : IntKind.u64.min = 0 := by decide
  have ha : 0 ≤ a ∧ a < 18446744073709551616 := by omega
  have hb : 0 ≤ b ∧ b < 18446744073709551616 := by omega
  clear _ha _hb e1 e2
  have HL := Lib.hid hL
  clear hL
  obtain ⟨a0, ha0⟩ : ∃ a0, a0 = a % 4294967296 := ⟨_, rfl⟩
  obtain ⟨a1, ha1⟩ : ∃ a1, a1 = a / 4294967296 := ⟨_, rfl⟩
  obtain ⟨b0, hb0⟩ : ∃ b0, b0 = b % 4294967296 := ⟨_, rfl⟩
  obtain ⟨b1, hb1⟩ : ∃ b1, b1 = b / 4294967296 := ⟨_, rfl⟩
  have p0 : 0 ≤ a0 ∧ a0 < 4294967296 := by rw [ha0]; exact low_bd a
  have p1 : 0 ≤ a1 ∧ a1 < 4294967296 := by rw [ha1]; exact high_bd ha
  have q0 : 0 ≤ b0 ∧ b0 < 4294967296 := by rw [hb0]; exact low_bd b
  have q1 : 0 ≤ b1 ∧ b1 < 4294967296 := by rw [hb1]; exact high_bd hb
  have s1 := wide_sum a b
  have s2 := wide_less a b
  have s3 := wide_mul a0 b0
  rw [← ha0, ← ha1, ← hb0, ← hb1] at s1 s2
  obtain ⟨l, c, v1, h1, hl, hc⟩ : ∃ n p q, (∀ w, Calls Tryd.prog 12 #[.int .u32 a0, .int .u32 b0, .bool false] w fun e w' => e = .returned (.tuple #[.int .u32 n, .bool p, .bool q]) ∧ w = w') ∧ n = W.wd (a0 + b0 + 0) ∧ p = decide (4294967296 ≤ a0 + b0 + 0) := ⟨_, _, _, fun w => word_add a0 b0 false w p0 q0 0 rfl, rfl, rfl⟩
  obtain ⟨h, v2, v3, h2, hh⟩ : ∃ n p q, (∀ w, Calls Tryd.prog 12 #[.int .u32 a1, .int .u32 b1, .bool c] w fun e w' => e = .returned (.tuple #[.int .u32 n, .bool p, .bool q]) ∧ w = w') ∧ n = W.wd (a1 + b1 + (if c = true then 1 else 0)) := ⟨_, _, _, fun w => word_add a1 b1 c w p1 q1 _ rfl, rfl⟩
  obtain ⟨m, d, v4, h3, hm, hd⟩ : ∃ n p q, (∀ w, Calls Tryd.prog 14 #[.int .u32 a0, .int .u32 b0, .bool false] w fun e w' => e = .returned (.tuple #[.int .u32 n, .bool p, .bool q]) ∧ w = w') ∧ n = W.wd (a0 - b0 - 0) ∧ p = decide (a0 - b0 - 0 < 0) := ⟨_, _, _, fun w => word_sub a0 b0 false w p0 q0 0 rfl, rfl, rfl⟩
  obtain ⟨g, v5, v6, h4, hg⟩ : ∃ n p q, (∀ w, Calls Tryd.prog 14 #[.int .u32 a1, .int .u32 b1, .bool d] w fun e w' => e = .returned (.tuple #[.int .u32 n, .bool p, .bool q]) ∧ w = w') ∧ n = W.wd (a1 - b1 - (if d = true then 1 else 0)) := ⟨_, _, _, fun w => word_sub a1 b1 d w p1 q1 _ rfl, rfl⟩
  obtain ⟨p, hp⟩ : ∃ p, p = W.mulLo false a0 b0 := ⟨_, rfl⟩
  obtain ⟨q, hq⟩ : ∃ q, q = W.mulHi false a0 b0 := ⟨_, rfl⟩
  have h5 : ∀ w, Calls Tryd.prog 16 #[.int .u32 a0, .int .u32 b0, .bool false] w fun e w' => e = .returned (.tuple #[.int .u32 p, .int .u32 q]) ∧ w = w' := by rw [hp, hq]; exact fun w => word_mul a0 b0 false w p0 q0
  rw [← hc, ← hh, ← hl] at s1
  rw [← hd, ← hg, ← hm] at s2
  rw [← hq, ← hp] at s3
  have bl : 0 ≤ l ∧ l < 4294967296 := by rw [hl]; exact ⟨W.wd_lo _, W.wd_hi _⟩
  have bh : 0 ≤ h ∧ h < 4294967296 := by rw [hh]; exact ⟨W.wd_lo _, W.wd_hi _⟩
  have bm : 0 ≤ m ∧ m < 4294967296 := by rw [hm]; exact ⟨W.wd_lo _, W.wd_hi _⟩
  have bg : 0 ≤ g ∧ g < 4294967296 := by rw [hg]; exact ⟨W.wd_lo _, W.wd_hi _⟩
  have bp : 0 ≤ p ∧ p < 4294967296 := by rw [hp]; exact lo_bd _ _
  have hpq := W.mul_bd p0 q0
  have bq : 0 ≤ q ∧ q < 4294967296 := by rw [hq]; exact hi_bd p0 q0
  have z1 : a % 4294967296 = a0 := ha0.symm
  have z2 : a / 4294967296 = a1 := ha1.symm
  have z3 : b % 4294967296 = b0 := hb0.symm
  have z4 : b / 4294967296 = b1 := hb1.symm
  have z5 : a / 4294967296 % 4294967296 = a1 := by rw [high_mod ha]; exact z2
  have z6 : b / 4294967296 % 4294967296 = b1 := by rw [high_mod hb]; exact z4
  have H1 := Lib.hid h1
  have H2 := Lib.hid h2
  have H3 := Lib.hid h3
  have H4 := Lib.hid h4
  have H5 := Lib.hid h5
  rw [← IntKind.wrap_u64] at s1 s2
  have s4 : q * 4294967296 + p = IntKind.u64.wrap (a0 * b0) := by rw [s3, IntKind.wrap_u64]; exact (Int.emod_eq_of_lt hpq.1 (Int.lt_of_le_of_lt hpq.2 (by decide))).symm
  have S1 := Lib.hid s1
  have S2 := Lib.hid s2
  have S3 := Lib.hid s4
  clear h1 h2 h3 h4 h5 hl hc hh hm hd hg hp hq s1 s2 s3 s4 hpq ha0 ha1 hb0 hb1
  go_enter Tryd.func4, Tryd.ntmps4
  go_wp2_with fail
  (refine (H1.out _).mono ?_ ; rintro e w' ⟨rfl, rfl⟩ ; go_wp2_with fail)
  (refine (H2.out _).mono ?_ ; rintro e w' ⟨rfl, rfl⟩ ; go_wp2_with fail)
  (refine (H3.out _).mono ?_ ; rintro e w' ⟨rfl, rfl⟩ ; go_wp2_with fail)
  (refine (H4.out _).mono ?_ ; rintro e w' ⟨rfl, rfl⟩ ; go_wp2_with fail)
  refine (H5.out _).mono ?_
  rintro e w' ⟨rfl, rfl⟩
  have s1 := S1.out
  have s2 := S2.out
  have s3 := S3.out
  go_wp2_with fail
  (refine (known_walk _ HL.out).mono ?_ ; rintro e w' ⟨rfl, hb1⟩ ; go_wp2_with fail ; go_ret ; exact ⟨rfl, hb1⟩)

end Go.Proofs.YtomenhpdkghlgaaDoor
