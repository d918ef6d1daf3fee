/- The laws WordProducts and WordWide, walked. -/
import Derived.Test.YtomenhpdkghlgaaDoorWordLaws
namespace Go.Proofs.YtomenhpdkghlgaaDoor
set_option linter.unusedVariables false
set_option linter.unusedSimpArgs false
open Go.RowKit Go.Sort Go.Lib

theorem sg_neg_iff {a : Int} (h : 0 ≤ a ∧ a < 4294967296) : W.sg a < 0 ↔ 2147483648 ≤ a := by unfold W.sg; split <;> omega
theorem mulLo_sg {a b : Int} (ha : 0 ≤ a ∧ a < 4294967296) (hb : 0 ≤ b ∧ b < 4294967296) : W.mulLo true a b = W.mulLo false a b := by
  have h := sg_mul a b
  unfold W.mulLo
  simp only [if_true, Bool.false_eq_true, if_false]
  generalize W.sg a * W.sg b = z at h
  generalize a * b = y at h
  split at h <;> split at h <;> split at h <;> omega
theorem mulHi_sg {a b : Int} (ha : 0 ≤ a ∧ a < 4294967296) (hb : 0 ≤ b ∧ b < 4294967296) : W.mulHi false a b = (W.mulHi true a b + (if W.sg a < 0 then b else 0) + (if W.sg b < 0 then a else 0)) % 4294967296 := by
  have h := sg_mul a b
  have hp := W.mul_bd ha hb
  have e1 := sg_neg_iff ha
  have e2 := sg_neg_iff hb
  unfold W.mulHi
  simp only [if_true, Bool.false_eq_true, if_false, e1, e2]
  generalize W.sg a * W.sg b = z at h
  generalize a * b = y at h hp
  by_cases A : 2147483648 ≤ a <;> by_cases B : 2147483648 ≤ b <;> simp only [A, B, if_true, if_false, and_self, and_true, and_false, true_and, false_and] at h ⊢ <;> omega
theorem mul_comm' (s : Bool) (a b : Int) : W.mulLo s b a = W.mulLo s a b ∧ W.mulHi s b a = W.mulHi s a b := by
  unfold W.mulLo W.mulHi
  rw [Int.mul_comm b a, Int.mul_comm (W.sg b)]
  exact ⟨rfl, rfl⟩

set_option maxRecDepth 100000 in
set_option maxHeartbeats 4000000 in
theorem products_walk (a b : Int) (w : World) (hL : Laid w) (ha : 0 ≤ a ∧ a < 4294967296) (hb : 0 ≤ b ∧ b < 4294967296) : Calls Tryd.prog 6 #[.int .u32 a, .int .u32 b] w fun e w' => e = .returned (.bool true) ∧ Below w.heap.size w w' := by
  have HL := Lib.hid hL
  clear hL
  obtain ⟨l, hl⟩ : ∃ l, l = W.mulLo true a b := ⟨_, rfl⟩
  obtain ⟨h, hh⟩ : ∃ h, h = W.mulHi true a b := ⟨_, rfl⟩
  obtain ⟨g, hg⟩ : ∃ g, g = W.mulHi false a b := ⟨_, rfl⟩
  have hc := mul_comm' true a b
  have hlo := mulLo_sg ha hb
  have hhi := mulHi_sg ha hb
  have hhb : 0 ≤ h ∧ h < 4294967296 := by rw [hh]; unfold W.mulHi; simp only [if_true]; omega
  rw [← hl] at hlo
  rw [← hg, ← hh] at hhi
  rw [← hl, ← hh] at hc
  have H1 := Lib.hid (fun w => word_mul a b true w ha hb)
  have H2 := Lib.hid (fun w => word_mul a b false w ha hb)
  have H3 := Lib.hid (fun w => word_mul b a true w hb ha)
  rw [← hl, ← hh] at H1
  rw [← hlo, ← hg] at H2
  rw [hc.1, hc.2] at H3
  obtain ⟨s, hs⟩ : ∃ s, s = W.sg a := ⟨_, rfl⟩
  obtain ⟨t, ht⟩ : ∃ t, t = W.sg b := ⟨_, rfl⟩
  have H4 := Lib.hid (fun w => ref_signed a w ha)
  have H5 := Lib.hid (fun w => ref_signed b w hb)
  rw [← hs] at H4 hhi
  rw [← ht] at H5 hhi
  clear hl hh hg hc hlo hs ht
  by_cases A : s < 0
  · obtain ⟨n1, p1, q1, h6, hn1⟩ : ∃ n p q, (∀ w, Calls Tryd.prog 12 #[.int .u32 h, .int .u32 b, .bool false] w fun e w' => e = .returned (.tuple #[.int .u32 n, .bool p, .bool q]) ∧ w = w') ∧ n = W.wd (h + b + 0) := ⟨_, _, _, fun w => word_add h b false w hhb hb 0 rfl, rfl⟩
    have H6 := Lib.hid h6
    have dA : decide (s < 0) = true := decide_eq_true A
    have hnb : 0 ≤ n1 ∧ n1 < 4294967296 := by rw [hn1]; exact ⟨W.wd_lo _, W.wd_hi _⟩
    clear h6
    by_cases B : t < 0
    · obtain ⟨n2, p2, q2, h7, hn2⟩ : ∃ n p q, (∀ w, Calls Tryd.prog 12 #[.int .u32 n1, .int .u32 a, .bool false] w fun e w' => e = .returned (.tuple #[.int .u32 n, .bool p, .bool q]) ∧ w = w') ∧ n = W.wd (n1 + a + 0) := ⟨_, _, _, fun w => word_add n1 a false w hnb ha 0 rfl, rfl⟩
      have H7 := Lib.hid h7
      have dB : decide (t < 0) = true := decide_eq_true B
      obtain rfl : n2 = g := by rw [hhi, if_pos A, if_pos B, hn2, hn1]; unfold W.wd; omega
      clear h7 hn1 hn2 hhi A B
      go_enter Tryd.func6, Tryd.ntmps6
      go_wp2_with fail
      (refine (H1.out _).mono ?_ ; rintro e w' ⟨rfl, rfl⟩ ; go_wp2_with fail)
      (refine (H2.out _).mono ?_ ; rintro e w' ⟨rfl, rfl⟩ ; go_wp2_with fail)
      (refine (H3.out _).mono ?_ ; rintro e w' ⟨rfl, rfl⟩ ; go_wp2_with fail)
      (refine (H4.out _).mono ?_ ; rintro e w' ⟨rfl, rfl⟩ ; go_wp2_with fail)
      (refine (H6.out _).mono ?_ ; rintro e w' ⟨rfl, rfl⟩ ; go_wp2_with fail)
      (refine (H5.out _).mono ?_ ; rintro e w' ⟨rfl, rfl⟩ ; go_wp2_with fail)
      (refine (H7.out _).mono ?_ ; rintro e w' ⟨rfl, rfl⟩ ; go_wp2_with fail)
      (refine (known_walk _ HL.out).mono ?_ ; rintro e w' ⟨rfl, hb1⟩ ; go_wp2_with fail ; go_ret ; exact ⟨rfl, hb1⟩)
    · have dB : decide (t < 0) = false := decide_eq_false B
      obtain rfl : n1 = g := by rw [hhi, if_pos A, if_neg B, hn1]; unfold W.wd; omega
      clear hn1 hhi A B
      go_enter Tryd.func6, Tryd.ntmps6
      go_wp2_with fail
      (refine (H1.out _).mono ?_ ; rintro e w' ⟨rfl, rfl⟩ ; go_wp2_with fail)
      (refine (H2.out _).mono ?_ ; rintro e w' ⟨rfl, rfl⟩ ; go_wp2_with fail)
      (refine (H3.out _).mono ?_ ; rintro e w' ⟨rfl, rfl⟩ ; go_wp2_with fail)
      (refine (H4.out _).mono ?_ ; rintro e w' ⟨rfl, rfl⟩ ; go_wp2_with fail)
      (refine (H6.out _).mono ?_ ; rintro e w' ⟨rfl, rfl⟩ ; go_wp2_with fail)
      (refine (H5.out _).mono ?_ ; rintro e w' ⟨rfl, rfl⟩ ; go_wp2_with fail)
      (refine (known_walk _ HL.out).mono ?_ ; rintro e w' ⟨rfl, hb1⟩ ; go_wp2_with fail ; go_ret ; exact ⟨rfl, hb1⟩)
  · have dA : decide (s < 0) = false := decide_eq_false A
    by_cases B : t < 0
    · obtain ⟨n2, p2, q2, h7, hn2⟩ : ∃ n p q, (∀ w, Calls Tryd.prog 12 #[.int .u32 h, .int .u32 a, .bool false] w fun e w' => e = .returned (.tuple #[.int .u32 n, .bool p, .bool q]) ∧ w = w') ∧ n = W.wd (h + a + 0) := ⟨_, _, _, fun w => word_add h a false w hhb ha 0 rfl, rfl⟩
      have H7 := Lib.hid h7
      have dB : decide (t < 0) = true := decide_eq_true B
      obtain rfl : n2 = g := by rw [hhi, if_neg A, if_pos B, hn2]; unfold W.wd; omega
      clear h7 hn2 hhi A B
      go_enter Tryd.func6, Tryd.ntmps6
      go_wp2_with fail
      (refine (H1.out _).mono ?_ ; rintro e w' ⟨rfl, rfl⟩ ; go_wp2_with fail)
      (refine (H2.out _).mono ?_ ; rintro e w' ⟨rfl, rfl⟩ ; go_wp2_with fail)
      (refine (H3.out _).mono ?_ ; rintro e w' ⟨rfl, rfl⟩ ; go_wp2_with fail)
      (refine (H4.out _).mono ?_ ; rintro e w' ⟨rfl, rfl⟩ ; go_wp2_with fail)
      (refine (H5.out _).mono ?_ ; rintro e w' ⟨rfl, rfl⟩ ; go_wp2_with fail)
      (refine (H7.out _).mono ?_ ; rintro e w' ⟨rfl, rfl⟩ ; go_wp2_with fail)
      (refine (known_walk _ HL.out).mono ?_ ; rintro e w' ⟨rfl, hb1⟩ ; go_wp2_with fail ; go_ret ; exact ⟨rfl, hb1⟩)
    · have dB : decide (t < 0) = false := decide_eq_false B
      obtain rfl : h = g := by rw [hhi, if_neg A, if_neg B]; omega
      clear hhi A B
      go_enter Tryd.func6, Tryd.ntmps6
      go_wp2_with fail
      (refine (H1.out _).mono ?_ ; rintro e w' ⟨rfl, rfl⟩ ; go_wp2_with fail)
      (refine (H2.out _).mono ?_ ; rintro e w' ⟨rfl, rfl⟩ ; go_wp2_with fail)
      (refine (H3.out _).mono ?_ ; rintro e w' ⟨rfl, rfl⟩ ; go_wp2_with fail)
      (refine (H4.out _).mono ?_ ; rintro e w' ⟨rfl, rfl⟩ ; go_wp2_with fail)
      (refine (H5.out _).mono ?_ ; rintro e w' ⟨rfl, rfl⟩ ; go_wp2_with fail)
      (refine (known_walk _ HL.out).mono ?_ ; rintro e w' ⟨rfl, hb1⟩ ; go_wp2_with fail ; go_ret ; exact ⟨rfl, hb1⟩)

end Go.Proofs.YtomenhpdkghlgaaDoor
