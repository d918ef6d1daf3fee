/- The laws WordSums and WordProducts, walked. -/
import Derived.Test.YtomenhpdkghlgaaDoorWordKnown
namespace Go.Proofs.YtomenhpdkghlgaaDoor
set_option linter.unusedVariables false
set_option linter.unusedSimpArgs false
open Go.RowKit Go.Sort Go.Lib

theorem sg_pos {b : Int} (h0 : 0 ≤ b ∧ b < 4294967296) (h : ¬ W.sg b ≤ 0) : 0 < b ∧ b < 2147483648 := by
  unfold W.sg at h; split at h <;> omega

set_option maxRecDepth 100000 in
set_option maxHeartbeats 4000000 in
theorem sums_walk (a b : Int) (c s : Bool) (w : World) (hL : Laid w) (ha : 0 ≤ a ∧ a < 4294967296) (hb : 0 ≤ b ∧ b < 4294967296) : Calls Tryd.prog 3 #[.int .u32 a, .int .u32 b, .bool c, .bool s] w fun e w' => e = .returned (.bool true) ∧ Below w.heap.size w w' := by
  have HL := Lib.hid hL
  clear hL
  obtain ⟨x, p, q, h1, h2⟩ : ∃ x p q, (∀ w, Calls Tryd.prog 12 #[.int .u32 a, .int .u32 b, .bool c] w fun e w' => e = .returned (.tuple #[.int .u32 x, .bool p, .bool q]) ∧ w = w') ∧ (∀ w, Calls Tryd.prog 13 #[.int .u32 a, .int .u32 b, .bool c] w fun e w' => e = .returned (.tuple #[.int .u32 x, .bool p, .bool q]) ∧ w = w') := ⟨_, _, _, fun w => word_add a b c w ha hb _ rfl, fun w => ref_add a b c w ha hb _ rfl⟩
  obtain ⟨x', p', q', h3, h4⟩ : ∃ x p q, (∀ w, Calls Tryd.prog 14 #[.int .u32 a, .int .u32 b, .bool c] w fun e w' => e = .returned (.tuple #[.int .u32 x, .bool p, .bool q]) ∧ w = w') ∧ (∀ w, Calls Tryd.prog 15 #[.int .u32 a, .int .u32 b, .bool c] w fun e w' => e = .returned (.tuple #[.int .u32 x, .bool p, .bool q]) ∧ w = w') := ⟨_, _, _, fun w => word_sub a b c w ha hb _ rfl, fun w => ref_sub a b c w ha hb _ rfl⟩
  obtain ⟨l, g, h5, h6⟩ : ∃ l g, (∀ w, Calls Tryd.prog 16 #[.int .u32 a, .int .u32 b, .bool s] w fun e w' => e = .returned (.tuple #[.int .u32 l, .int .u32 g]) ∧ w = w') ∧ (∀ w, Calls Tryd.prog 17 #[.int .u32 a, .int .u32 b, .bool s] w fun e w' => e = .returned (.tuple #[.int .u32 l, .int .u32 g]) ∧ w = w') := ⟨_, _, fun w => word_mul a b s w ha hb, fun w => ref_mul a b s w ha hb⟩
  obtain ⟨t, h7, h8⟩ : ∃ t, (∀ w, Calls Tryd.prog 19 #[.int .u32 b] w fun e w' => e = .returned (.int .i64 t) ∧ w = w') ∧ t = W.sg b := ⟨_, fun w => ref_signed b w hb, rfl⟩
  have H1 := Lib.hid h1
  have H2 := Lib.hid h2
  have H3 := Lib.hid h3
  have H4 := Lib.hid h4
  have H5 := Lib.hid h5
  have H6 := Lib.hid h6
  have H7 := Lib.hid h7
  clear h1 h2 h3 h4 h5 h6 h7
  by_cases hs : t ≤ 0
  · have h9 := Lib.hid (fun w => word_div_no a b w hb (by rw [← h8]; exact hs))
    have d : decide (t ≤ 0) = true := decide_eq_true hs
    clear h8 hs
    go_enter Tryd.func3, Tryd.ntmps3
    go_wp2_with (first | ((go_at_call 12 ; refine (H1.out _).mono ?_ ; rintro e w' ⟨rfl, rfl⟩)) | ((go_at_call 13 ; refine (H2.out _).mono ?_ ; rintro e w' ⟨rfl, rfl⟩)) | ((go_at_call 14 ; refine (H3.out _).mono ?_ ; rintro e w' ⟨rfl, rfl⟩)) | ((go_at_call 15 ; refine (H4.out _).mono ?_ ; rintro e w' ⟨rfl, rfl⟩)) | ((go_at_call 16 ; refine (H5.out _).mono ?_ ; rintro e w' ⟨rfl, rfl⟩)) | ((go_at_call 17 ; refine (H6.out _).mono ?_ ; rintro e w' ⟨rfl, rfl⟩)) | ((go_at_call 19 ; refine (H7.out _).mono ?_ ; rintro e w' ⟨rfl, rfl⟩)) | ((go_at_call 18 ; refine (h9.out _).mono ?_ ; rintro e w' ⟨rfl, rfl⟩)) | (go_at_call 20 ; refine (num_walk _ _).mono ?_ ; rintro e w' ⟨rfl, rfl⟩))
    refine (known_walk _ HL.out).mono ?_
    rintro e w' ⟨rfl, hb1⟩
    go_wp2_with fail
    go_ret
    exact ⟨rfl, hb1⟩
  · have hp := sg_pos hb (by rw [← h8]; exact hs)
    obtain ⟨m, r, h9, h10⟩ : ∃ m r, (∀ w, Calls Tryd.prog 18 #[.int .u32 a, .int .u32 b] w fun e w' => e = .returned (.tuple #[.int .u32 m, .int .u32 r, .int .i64 0]) ∧ ∃ n, w' = w.drewN n) ∧ (∀ w, Calls Tryd.prog 22 #[.int .u32 a, .int .u32 b] w fun e w' => e = .returned (.tuple #[.int .u32 m, .int .u32 r]) ∧ w = w') := ⟨_, _, fun w => word_div a b w ha hp, fun w => ref_div a b w ha hp⟩
    have H9 := Lib.hid h9
    have H10 := Lib.hid h10
    have d : decide (t ≤ 0) = false := decide_eq_false hs
    clear h8 hs h9 h10
    go_enter Tryd.func3, Tryd.ntmps3
    go_wp2_with (first | ((go_at_call 12 ; refine (H1.out _).mono ?_ ; rintro e w' ⟨rfl, rfl⟩)) | ((go_at_call 13 ; refine (H2.out _).mono ?_ ; rintro e w' ⟨rfl, rfl⟩)) | ((go_at_call 14 ; refine (H3.out _).mono ?_ ; rintro e w' ⟨rfl, rfl⟩)) | ((go_at_call 15 ; refine (H4.out _).mono ?_ ; rintro e w' ⟨rfl, rfl⟩)) | ((go_at_call 16 ; refine (H5.out _).mono ?_ ; rintro e w' ⟨rfl, rfl⟩)) | ((go_at_call 17 ; refine (H6.out _).mono ?_ ; rintro e w' ⟨rfl, rfl⟩)) | ((go_at_call 19 ; refine (H7.out _).mono ?_ ; rintro e w' ⟨rfl, rfl⟩)) | (go_at_call 18; refine (H9.out _).mono ?_; rintro e w' ⟨rfl, n, rfl⟩; have B0 := Lib.hid (bel_drewN w n); generalize w.drewN n = w1 at *) | ((go_at_call 22 ; refine (H10.out _).mono ?_ ; rintro e w' ⟨rfl, rfl⟩)) | (go_at_call 20 ; refine (num_walk _ _).mono ?_ ; rintro e w' ⟨rfl, rfl⟩))
    refine (known_walk _ (HL.out.bel B0.out)).mono ?_
    rintro e w' ⟨rfl, hb1⟩
    go_wp2_with fail
    go_ret
    exact ⟨rfl, bel_then B0.out hb1⟩

end Go.Proofs.YtomenhpdkghlgaaDoor
