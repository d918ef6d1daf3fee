/- The law WordDivides, walked. -/
import Derived.Test.YtomenhpdkghlgaaDoorWordLaws
namespace Go.Proofs.YtomenhpdkghlgaaDoor
set_option linter.unusedVariables false
set_option linter.unusedSimpArgs false
open Go.RowKit Go.Sort Go.Lib

/-- quotients, plainly. -/
theorem quo_plain {a b : Int} (ha : 0 ≤ a ∧ a < 4294967296) (hb : 0 < b ∧ b < 2147483648) : W.sg (W.quo a b) = W.sg a / b ∧ W.sg (W.rem a b) = W.sg a % b ∧ (0 ≤ W.quo a b ∧ W.quo a b < 4294967296) ∧ (0 ≤ W.rem a b ∧ W.rem a b < 4294967296) := by
  have hs := W.sg_bd ha.1 ha.2
  have h1 := Int.emod_nonneg (W.sg a) (show b ≠ 0 by omega)
  have h2 := Int.emod_lt_of_pos (W.sg a) hb.1
  have h3 := Int.mul_ediv_add_emod (W.sg a) b
  have hq : -2147483648 ≤ W.sg a / b ∧ W.sg a / b < 2147483648 := by
    constructor
    · refine (Int.le_ediv_iff_mul_le hb.1).2 ?_
      omega
    · refine Int.ediv_lt_of_lt_mul hb.1 ?_
      omega
  refine ⟨W.wd_sg hq.1 hq.2, ?_, ⟨W.wd_lo _, W.wd_hi _⟩, ?_⟩
  · unfold W.rem; generalize W.sg a % b = r at h1 h2; unfold W.sg; rw [if_neg (by omega)]
  · unfold W.rem; omega

/-- the law's facts: s the quotient, t what is left. -/
theorem div_facts {x y s t : Int} (hx : -2147483648 ≤ x ∧ x < 2147483648) (hy : 0 < y ∧ y < 2147483648) (hs : s = x / y) (ht : t = x % y) :
    s * y + t = x ∧ 0 ≤ t ∧ t < y ∧ y ≤ x - (s - 1) * y ∧ x - (s + 1) * y < 0 ∧ (-2147483648 ≤ s ∧ s < 2147483648) ∧ (-4294967296 ≤ s * y ∧ s * y ≤ 4294967296) := by
  have h1 := Int.emod_nonneg x (show y ≠ 0 by omega)
  have h2 := Int.emod_lt_of_pos x hy.1
  have h3 := Int.mul_ediv_add_emod x y
  rw [← hs, ← ht, Int.mul_comm] at h3
  rw [← ht] at h1 h2
  have e1 : (s - 1) * y = s * y - y := by rw [Int.sub_mul, Int.one_mul]
  have e2 : (s + 1) * y = s * y + y := by rw [Int.add_mul, Int.one_mul]
  have hq : -2147483648 ≤ s ∧ s < 2147483648 := by
    rw [hs]
    constructor
    · refine (Int.le_ediv_iff_mul_le hy.1).2 ?_
      omega
    · refine Int.ediv_lt_of_lt_mul hy.1 ?_
      omega
  generalize s * y = z at *
  rw [e1, e2]
  refine ⟨h3, h1, h2, by omega, by omega, hq, by omega, by omega⟩

theorem wrap64_id {n : Int} (h : -9223372036854775808 ≤ n ∧ n < 9223372036854775808) : wrap64 n = n := by unfold wrap64; omega
theorem div_wraps {x y s t : Int} (hx : -2147483648 ≤ x ∧ x < 2147483648) (hy : 0 < y ∧ y < 2147483648) (ht : 0 ≤ t ∧ t < y) (h1 : s * y + t = x) (h4 : y ≤ x - (s - 1) * y) (h5 : x - (s + 1) * y < 0) (h7 : -4294967296 ≤ s * y ∧ s * y ≤ 4294967296) :
    wrap64 (wrap64 (s * y) + t) = x ∧ y ≤ wrap64 (x - wrap64 ((s - 1) * y)) ∧ wrap64 (x - wrap64 ((s + 1) * y)) < 0 := by
  have e1 : (s - 1) * y = s * y - y := by rw [Int.sub_mul, Int.one_mul]
  have e2 : (s + 1) * y = s * y + y := by rw [Int.add_mul, Int.one_mul]
  rw [e1] at h4
  rw [e2] at h5
  rw [e1, e2]
  generalize s * y = z at *
  rw [wrap64_id (n := z) (by omega), wrap64_id (n := z + t) (by omega), wrap64_id (n := z - y) (by omega), wrap64_id (n := x - (z - y)) (by omega), wrap64_id (n := z + y) (by omega), wrap64_id (n := x - (z + y)) (by omega)]
  exact ⟨h1, h4, h5⟩

set_option maxRecDepth 100000 in
set_option maxHeartbeats 4000000 in
theorem divides_walk (a b : Int) (w : World) (hL : Laid w) (ha : 0 ≤ a ∧ a < 4294967296) (hb : 0 ≤ b ∧ b < 4294967296) : Calls Tryd.prog 5 #[.int .u32 a, .int .u32 b] w fun e w' => e = .returned (.bool true) ∧ Below w.heap.size w w' := by
  have HL := Lib.hid hL
  clear hL
  by_cases hs : W.sg b ≤ 0
  · have HN := Lib.hid (fun w => num_walk 2 w)
    have H1 := Lib.hid (fun w => word_div_no a b w hb hs)
    obtain ⟨t, h2, ht⟩ : ∃ t, (∀ w, Calls Tryd.prog 19 #[.int .u32 b] w fun e w' => e = .returned (.int .i64 t) ∧ w = w') ∧ t = W.sg b := ⟨_, fun w => ref_signed b w hb, rfl⟩
    have H2 := Lib.hid h2
    have d : decide (t ≤ 0) = true := decide_eq_true (by rw [ht]; exact hs)
    clear hs ht h2
    go_enter Tryd.func5, Tryd.ntmps5
    go_wp2_with fail
    (refine (H1.out _).mono ?_ ; rintro e w' ⟨rfl, rfl⟩ ; go_wp2_with fail)
    (refine (HN.out _).mono ?_ ; rintro e w' ⟨rfl, rfl⟩ ; go_wp2_with fail)
    (refine (H2.out _).mono ?_ ; rintro e w' ⟨rfl, rfl⟩ ; go_wp2_with fail)
    (refine (known_walk _ HL.out).mono ?_ ; rintro e w' ⟨rfl, hb1⟩ ; go_wp2_with fail ; go_ret ; exact ⟨rfl, hb1⟩)
  · have hp := sg_pos hb hs
    have hsb : W.sg b = b := by unfold W.sg; rw [if_neg (by omega)]
    have hx := W.sg_bd ha.1 ha.2
    obtain ⟨x, hxx⟩ : ∃ x, x = W.sg a := ⟨_, rfl⟩
    obtain ⟨q1, q2, q3, q4⟩ := quo_plain ha hp
    obtain ⟨q, hq⟩ : ∃ q, q = W.quo a b := ⟨_, rfl⟩
    obtain ⟨r, hr⟩ : ∃ r, r = W.rem a b := ⟨_, rfl⟩
    obtain ⟨s, hss⟩ : ∃ s, s = x / b := ⟨_, rfl⟩
    obtain ⟨t, htt⟩ : ∃ t, t = x % b := ⟨_, rfl⟩
    rw [← hxx] at hx
    have hf := div_facts hx hp hss htt
    rw [← hq, ← hxx, ← hss] at q1
    rw [← hr, ← hxx, ← htt] at q2
    rw [← hq] at q3
    rw [← hr] at q4
    have h1 := fun w => word_div a b w ha hp
    rw [← hq, ← hr] at h1
    have h3 := fun w => ref_signed a w ha
    rw [← hxx] at h3
    have h4 := fun w => ref_signed b w hb
    rw [hsb] at h4
    have h5 := fun w => ref_signed q w q3
    rw [q1] at h5
    have h6 := fun w => ref_signed r w q4
    rw [q2] at h6
    have h7 := fun w => word_div a 1 w ha (by omega)
    have h8 := fun w => word_div b b w hb hp
    have e1 : W.quo a 1 = a ∧ W.rem a 1 = 0 := by
      refine ⟨?_, ?_⟩
      · unfold W.quo; rw [Int.ediv_one]; exact W.sg_wd ha.1 ha.2
      · unfold W.rem; exact Int.emod_one _
    have e2 : W.quo b b = 1 ∧ W.rem b b = 0 := by
      unfold W.quo W.rem
      rw [hsb, Int.ediv_self (by omega), Int.emod_self]
      exact ⟨rfl, rfl⟩
    rw [e1.1, e1.2] at h7
    rw [e2.1, e2.2] at h8
    have HN := Lib.hid (fun w => num_walk 0 w)
    have H1 := Lib.hid h1
    have H3 := Lib.hid h3
    have H4 := Lib.hid h4
    have H5 := Lib.hid h5
    have H6 := Lib.hid h6
    have H7 := Lib.hid h7
    have H8 := Lib.hid h8
    obtain ⟨f1, f2, f3, f4, f5, f6, f7⟩ := hf
    have hw := div_wraps hx hp ⟨f2, f3⟩ f1 f4 f5 f7
    have F1 := Lib.hid hw.1
    have F4 : Hid (decide (b ≤ wrap64 (x - wrap64 ((s - 1) * b))) = true) := decide_eq_true hw.2.1
    have F5 : Hid (decide (wrap64 (x - wrap64 ((s + 1) * b)) < 0) = true) := decide_eq_true hw.2.2
    clear hw
    clear h1 h3 h4 h5 h6 h7 h8 e1 e2 q1 q2 hq hr hss htt hxx hsb hs f1 f4 f5 f7 hb ha
    go_enter Tryd.func5, Tryd.ntmps5
    go_wp2_with fail
    refine (H1.out _).mono ?_
    rintro e w' ⟨rfl, n, rfl⟩
    have B0 := Lib.hid (bel_drewN w n)
    generalize w.drewN n = w1 at *
    go_wp2_with fail
    (refine (HN.out _).mono ?_ ; rintro e w' ⟨rfl, rfl⟩ ; go_wp2_with fail)
    (refine (H3.out _).mono ?_ ; rintro e w' ⟨rfl, rfl⟩ ; go_wp2_with fail)
    (refine (H4.out _).mono ?_ ; rintro e w' ⟨rfl, rfl⟩ ; go_wp2_with fail)
    (refine (H5.out _).mono ?_ ; rintro e w' ⟨rfl, rfl⟩ ; go_wp2_with fail)
    (refine (H6.out _).mono ?_ ; rintro e w' ⟨rfl, rfl⟩ ; go_wp2_with fail)
    refine (H7.out _).mono ?_
    rintro e w' ⟨rfl, n2, rfl⟩
    have B1 := Lib.hid (bel_then B0.out (bel_drewN w1 n2))
    generalize w1.drewN n2 = w2 at *
    go_wp2_with fail
    refine (H8.out _).mono ?_
    rintro e w' ⟨rfl, n3, rfl⟩
    have B2 := Lib.hid (bel_then B1.out (bel_drewN w2 n3))
    generalize w2.drewN n3 = w3 at *
    have g1 := F1.out
    have g4 := F4.out
    have g5 := F5.out
    go_wp2_with fail
    (refine (HN.out _).mono ?_ ; rintro e w' ⟨rfl, rfl⟩ ; go_wp2_with fail)
    (refine (HN.out _).mono ?_ ; rintro e w' ⟨rfl, rfl⟩ ; go_wp2_with fail)
    refine (known_walk _ (HL.out.bel B2.out)).mono ?_
    rintro e w' ⟨rfl, hb1⟩
    go_wp2_with fail
    go_ret
    exact ⟨rfl, bel_then B2.out hb1⟩

end Go.Proofs.YtomenhpdkghlgaaDoor
