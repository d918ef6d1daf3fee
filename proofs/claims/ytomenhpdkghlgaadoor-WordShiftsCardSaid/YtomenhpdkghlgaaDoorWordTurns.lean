/- The laws WordTurns and WordShifts, walked. -/
import Derived.Test.YtomenhpdkghlgaaDoorWordExt
namespace Go.Proofs.YtomenhpdkghlgaaDoor
set_option linter.unusedVariables false
set_option linter.unusedSimpArgs false
open Go.RowKit Go.Sort Go.Lib

set_option maxRecDepth 100000 in
set_option maxHeartbeats 4000000 in
theorem turns_walk (a b n : Int) (w : World) (hL : Laid w) (ha : 0 ≤ a ∧ a < 4294967296) (hb : 0 ≤ b ∧ b < 4294967296) (_hn : IntKind.i64.min ≤ n ∧ n ≤ IntKind.i64.max) : Calls Tryd.prog 8 #[.int .u32 a, .int .u32 b, .int .i64 n] w fun e w' => e = .returned (.bool true) ∧ Below w.heap.size w w' := by
  have HL := Lib.hid hL
  clear hL _hn
  obtain ⟨hm, hc⟩ := clamp_is n
  obtain ⟨x1, h1, h2⟩ : ∃ x, (∀ w, Calls Tryd.prog 24 #[.int .u32 a, .int .u32 b] w fun e w' => e = .returned (.int .u32 x) ∧ w = w') ∧ (∀ w, Calls Tryd.prog 26 #[.int .u32 a, .int .u32 b] w fun e w' => e = .returned (.int .u32 x) ∧ w = w') := ⟨_, fun w => word_left a b w hb, fun w => ref_left a b w ha hb⟩
  obtain ⟨x2, h3, h4⟩ : ∃ x, (∀ w, Calls Tryd.prog 25 #[.int .u32 a, .int .u32 b] w fun e w' => e = .returned (.int .u32 x) ∧ w = w') ∧ (∀ w, Calls Tryd.prog 27 #[.int .u32 a, .int .u32 b] w fun e w' => e = .returned (.int .u32 x) ∧ w = w') := ⟨_, fun w => word_right a b w ha hb, fun w => ref_right a b w ha hb⟩
  obtain ⟨x3, h5, h6⟩ : ∃ x, (∀ w, Calls Tryd.prog 28 #[.int .u32 a, .int .u32 b] w fun e w' => e = .returned (.int .u32 x) ∧ w = w') ∧ (∀ w, Calls Tryd.prog 29 #[.int .u32 a, .int .u32 b] w fun e w' => e = .returned (.int .u32 x) ∧ w = w') := ⟨_, fun w => word_turn a b w ha hb, fun w => ref_turn a b w ha hb⟩
  obtain ⟨x4, h7, h8⟩ : ∃ x, (∀ w, Calls Tryd.prog 23 #[.int .u32 a, .int .i64 n] w fun e w' => e = .returned (.int .u32 x) ∧ w = w') ∧ (∀ w, Calls Tryd.prog 30 #[.int .u32 a, .int .i64 n] w fun e w' => e = .returned (.int .u32 x) ∧ w = w') := ⟨_, fun w => word_extend a n (clamp n) w ha hm hc, fun w => rext_walk a n (clamp n) w ha hm hc⟩
  obtain ⟨s, t, h9, h10, h11⟩ : ∃ s t, (∀ w, Calls Tryd.prog 31 #[.int .u32 a, .int .u32 b] w fun e w' => e = .returned (.bool (decide (s < t))) ∧ w = w') ∧ (∀ w, Calls Tryd.prog 19 #[.int .u32 a] w fun e w' => e = .returned (.int .i64 s) ∧ w = w') ∧ (∀ w, Calls Tryd.prog 19 #[.int .u32 b] w fun e w' => e = .returned (.int .i64 t) ∧ w = w') := ⟨_, _, fun w => less_walk a b w ha hb, fun w => ref_signed a w ha, fun w => ref_signed b w hb⟩
  obtain ⟨f, hf⟩ : ∃ f, decide (s < t) = f := ⟨_, rfl⟩
  rw [hf] at h9
  have H1 := Lib.hid h1
  have H2 := Lib.hid h2
  have H3 := Lib.hid h3
  have H4 := Lib.hid h4
  have H5 := Lib.hid h5
  have H6 := Lib.hid h6
  have H7 := Lib.hid h7
  have H8 := Lib.hid h8
  have H9 := Lib.hid h9
  have H10 := Lib.hid h10
  have H11 := Lib.hid h11
  clear h1 h2 h3 h4 h5 h6 h7 h8 h9 h10 h11 hm hc ha hb
  go_enter Tryd.func8, Tryd.ntmps8
  go_wp2_with fail
  (refine (H1.out _).mono ?_ ; rintro e w' ⟨rfl, rfl⟩ ; go_wp2_with fail)
  (refine (H2.out _).mono ?_ ; rintro e w' ⟨rfl, rfl⟩ ; go_wp2_with fail)
  (refine (H3.out _).mono ?_ ; rintro e w' ⟨rfl, rfl⟩ ; go_wp2_with fail)
  (refine (H4.out _).mono ?_ ; rintro e w' ⟨rfl, rfl⟩ ; go_wp2_with fail)
  (refine (H5.out _).mono ?_ ; rintro e w' ⟨rfl, rfl⟩ ; go_wp2_with fail)
  (refine (H6.out _).mono ?_ ; rintro e w' ⟨rfl, rfl⟩ ; go_wp2_with fail)
  (refine (H7.out _).mono ?_ ; rintro e w' ⟨rfl, rfl⟩ ; go_wp2_with fail)
  (refine (H8.out _).mono ?_ ; rintro e w' ⟨rfl, rfl⟩ ; go_wp2_with fail)
  (refine (H9.out _).mono ?_ ; rintro e w' ⟨rfl, rfl⟩ ; go_wp2_with fail)
  (refine (H10.out _).mono ?_ ; rintro e w' ⟨rfl, rfl⟩ ; go_wp2_with fail)
  (refine (H11.out _).mono ?_ ; rintro e w' ⟨rfl, rfl⟩ ; go_wp2_with fail)
  (refine (known_walk _ HL.out).mono ?_ ; rintro e w' ⟨rfl, hb1⟩ ; go_wp2_with fail ; go_ret ; exact ⟨rfl, hb1⟩)

theorem shl_one (a : Int) : W.shl a 1 = W.wd (a + a + 0) := by unfold W.shl W.wd; omega
theorem sar_one (a : Int) : W.sar a 1 = W.quo a 2 := by unfold W.sar W.quo; simp

set_option maxRecDepth 100000 in
set_option maxHeartbeats 4000000 in
theorem shifts_walk (a n m : Int) (w : World) (hL : Laid w) (ha : 0 ≤ a ∧ a < 4294967296) (_hn : IntKind.i64.min ≤ n ∧ n ≤ IntKind.i64.max) (_hm : IntKind.i64.min ≤ m ∧ m ≤ IntKind.i64.max) : Calls Tryd.prog 7 #[.int .u32 a, .int .i64 n, .int .i64 m] w fun e w' => e = .returned (.bool true) ∧ Below w.heap.size w w' := by
  have HL := Lib.hid hL
  clear hL _hn _hm
  obtain ⟨hn1, hn2⟩ := clamp_is n
  obtain ⟨hm1, hm2⟩ := clamp_is m
  have hx := ext_bd a (clamp n)
  obtain ⟨d, p, q, h1, hd⟩ : ∃ d p q, (∀ w, Calls Tryd.prog 12 #[.int .u32 a, .int .u32 a, .bool false] w fun e w' => e = .returned (.tuple #[.int .u32 d, .bool p, .bool q]) ∧ w = w') ∧ d = W.wd (a + a + 0) := ⟨_, _, _, fun w => word_add a a false w ha ha 0 rfl, rfl⟩
  obtain ⟨h, r, h2, hh⟩ : ∃ h r, (∀ w, Calls Tryd.prog 18 #[.int .u32 a, .int .u32 2] w fun e w' => e = .returned (.tuple #[.int .u32 h, .int .u32 r, .int .i64 0]) ∧ ∃ n, w' = w.drewN n) ∧ h = W.quo a 2 := ⟨_, _, fun w => word_div a 2 w ha (by omega), rfl⟩
  have h3 := fun w => word_extend a n (clamp n) w ha hn1 hn2
  have h4 := fun w => word_left a 1 w (by omega)
  have h5 := fun w => word_right a 1 w ha (by omega)
  have h6 := fun w => word_extend (W.ext a (clamp n)) n (clamp n) w hx hn1 hn2
  have h7 := fun w => word_extend (W.ext a (clamp n)) m (clamp m) w hx hm1 hm2
  have h8 := fun w => word_extend a m (clamp m) w ha hm1 hm2
  rw [ext_ge a hn1.1 (Nat.le_refl _) hn1.2] at h6
  rw [show ((1 : Int) % 32).toNat = 1 from by decide, shl_one, ← hd] at h4
  rw [show ((1 : Int) % 32).toNat = 1 from by decide, sar_one, ← hh] at h5
  by_cases hmn : n ≤ m
  · rw [ext_ge a hn1.1 (clamp_mono hmn) hm1.2] at h7
    generalize W.ext a (clamp n) = x at h3 h6 h7 hx
    have H1 := Lib.hid h1
    have H2 := Lib.hid h2
    have H3 := Lib.hid h3
    have H4 := Lib.hid h4
    have H5 := Lib.hid h5
    have H6 := Lib.hid h6
    have H7 := Lib.hid h7
    have HN := Lib.hid (fun w => num_walk 0 w)
    have dd : decide (n ≤ m) = true := decide_eq_true hmn
    clear h1 h2 h3 h4 h5 h6 h7 h8 hd hh hmn hn1 hn2 hm1 hm2 ha hx
    go_enter Tryd.func7, Tryd.ntmps7
    go_wp2_with fail
    (refine (H1.out _).mono ?_ ; rintro e w' ⟨rfl, rfl⟩ ; go_wp2_with fail)
    refine (H2.out _).mono ?_
    rintro e w' ⟨rfl, k, rfl⟩
    have B0 := Lib.hid (bel_drewN w k)
    generalize w.drewN k = w1 at *
    go_wp2_with fail
    (refine (H3.out _).mono ?_ ; rintro e w' ⟨rfl, rfl⟩ ; go_wp2_with fail)
    (refine (H4.out _).mono ?_ ; rintro e w' ⟨rfl, rfl⟩ ; go_wp2_with fail)
    (refine (HN.out _).mono ?_ ; rintro e w' ⟨rfl, rfl⟩ ; go_wp2_with fail)
    (refine (H5.out _).mono ?_ ; rintro e w' ⟨rfl, rfl⟩ ; go_wp2_with fail)
    (refine (H6.out _).mono ?_ ; rintro e w' ⟨rfl, rfl⟩ ; go_wp2_with fail)
    (refine (H7.out _).mono ?_ ; rintro e w' ⟨rfl, rfl⟩ ; go_wp2_with fail)
    refine (known_walk _ (HL.out.bel B0.out)).mono ?_
    rintro e w' ⟨rfl, hb1⟩
    go_wp2_with fail
    go_ret
    exact ⟨rfl, bel_then B0.out hb1⟩
  · rw [ext_le a hm1.1 (clamp_mono (show m ≤ n by omega)) hn1.2] at h7
    generalize W.ext a (clamp n) = x at h3 h6 h7 hx
    generalize W.ext a (clamp m) = y at h7 h8
    have H1 := Lib.hid h1
    have H2 := Lib.hid h2
    have H3 := Lib.hid h3
    have H4 := Lib.hid h4
    have H5 := Lib.hid h5
    have H6 := Lib.hid h6
    have H7 := Lib.hid h7
    have H8 := Lib.hid h8
    have HN := Lib.hid (fun w => num_walk 0 w)
    have dd : decide (n ≤ m) = false := decide_eq_false hmn
    clear h1 h2 h3 h4 h5 h6 h7 h8 hd hh hmn hn1 hn2 hm1 hm2 ha hx
    go_enter Tryd.func7, Tryd.ntmps7
    go_wp2_with fail
    (refine (H1.out _).mono ?_ ; rintro e w' ⟨rfl, rfl⟩ ; go_wp2_with fail)
    refine (H2.out _).mono ?_
    rintro e w' ⟨rfl, k, rfl⟩
    have B0 := Lib.hid (bel_drewN w k)
    generalize w.drewN k = w1 at *
    go_wp2_with fail
    (refine (H3.out _).mono ?_ ; rintro e w' ⟨rfl, rfl⟩ ; go_wp2_with fail)
    (refine (H4.out _).mono ?_ ; rintro e w' ⟨rfl, rfl⟩ ; go_wp2_with fail)
    (refine (HN.out _).mono ?_ ; rintro e w' ⟨rfl, rfl⟩ ; go_wp2_with fail)
    (refine (H5.out _).mono ?_ ; rintro e w' ⟨rfl, rfl⟩ ; go_wp2_with fail)
    (refine (H6.out _).mono ?_ ; rintro e w' ⟨rfl, rfl⟩ ; go_wp2_with fail)
    (refine (H7.out _).mono ?_ ; rintro e w' ⟨rfl, rfl⟩ ; go_wp2_with fail)
    (refine (H8.out _).mono ?_ ; rintro e w' ⟨rfl, rfl⟩ ; go_wp2_with fail)
    refine (known_walk _ (HL.out.bel B0.out)).mono ?_
    rintro e w' ⟨rfl, hb1⟩
    go_wp2_with fail
    go_ret
    exact ⟨rfl, bel_then B0.out hb1⟩

end Go.Proofs.YtomenhpdkghlgaaDoor
