/- The law's 'known': the chapter's rows. -/
import Derived.Test.YtomenhpdkghlgaaDoorWordHex
namespace Go.Proofs.YtomenhpdkghlgaaDoor
set_option linter.unusedVariables false
set_option linter.unusedSimpArgs false
open Go.RowKit Go.Sort Go.Lib

theorem num_walk (n : Int) (w : World) : Calls Tryd.prog 20 #[.int .i64 n] w fun e w' => e = .returned (.int .i64 n) ∧ w = w' := by
  go_enter Tryd.func20, Tryd.ntmps20
  go_wp2
  go_ret
  exact ⟨rfl, rfl⟩

theorem ofdec_a : ofDecV ⟨#[45, 48]⟩ = (0, 4) := by kernel_rfl
theorem ofdec_b : ofDecV ⟨#[50, 49, 52, 55, 52, 56, 51, 54, 52, 56]⟩ = (0, 4) := by kernel_rfl
theorem dec_a : decB 4294967291 = ⟨#[45, 53]⟩ := by kernel_rfl
theorem hex_a : hexB 10 = ⟨#[48, 48, 48, 48, 48, 48, 48, 97]⟩ := by kernel_rfl

theorem k_add (w : World) : Calls Tryd.prog 12 #[.int .u32 4294967295, .int .u32 1, .bool false] w fun e w' => e = .returned (.tuple #[.int .u32 0, .bool true, .bool false]) ∧ w = w' :=
  (word_add 4294967295 1 false w (by omega) (by omega) 0 rfl).mono fun e w' ⟨he, hw⟩ => ⟨he.trans (by kernel_rfl), hw⟩
theorem k_sub (w : World) : Calls Tryd.prog 14 #[.int .u32 0, .int .u32 1, .bool false] w fun e w' => e = .returned (.tuple #[.int .u32 4294967295, .bool true, .bool false]) ∧ w = w' :=
  (word_sub 0 1 false w (by omega) (by omega) 0 rfl).mono fun e w' ⟨he, hw⟩ => ⟨he.trans (by kernel_rfl), hw⟩
theorem k_div (w : World) : Calls Tryd.prog 18 #[.int .u32 4294967289, .int .u32 2] w fun e w' => e = .returned (.tuple #[.int .u32 4294967292, .int .u32 1, .int .i64 0]) ∧ ∃ n, w' = w.drewN n :=
  (word_div 4294967289 2 w (by omega) (by omega)).mono fun e w' ⟨he, hw⟩ => ⟨he.trans (by kernel_rfl), hw⟩
theorem k_mul (w : World) : Calls Tryd.prog 16 #[.int .u32 4294967295, .int .u32 2, .bool true] w fun e w' => e = .returned (.tuple #[.int .u32 4294967294, .int .u32 4294967295]) ∧ w = w' :=
  (word_mul 4294967295 2 true w (by omega) (by omega)).mono fun e w' ⟨he, hw⟩ => ⟨he.trans (by kernel_rfl), hw⟩
theorem k_ofdec_a (w : World) (hL : Laid w) : Calls Tryd.prog 35 #[.string ⟨#[45, 48]⟩] w fun e w' => e = .returned (.tuple #[.int .u32 0, .int .i64 4]) ∧ Below w.heap.size w w' :=
  (ofdec_walk _ w (by decide) hL).mono fun e w' ⟨he, hw⟩ => ⟨by rw [ofdec_a] at he; exact he, hw⟩
theorem k_ofdec_b (w : World) (hL : Laid w) : Calls Tryd.prog 35 #[.string ⟨#[50, 49, 52, 55, 52, 56, 51, 54, 52, 56]⟩] w fun e w' => e = .returned (.tuple #[.int .u32 0, .int .i64 4]) ∧ Below w.heap.size w w' :=
  (ofdec_walk _ w (by decide) hL).mono fun e w' ⟨he, hw⟩ => ⟨by rw [ofdec_b] at he; exact he, hw⟩
theorem k_dec (w : World) (hL : Laid w) : Calls Tryd.prog 39 #[.int .u32 4294967291] w fun e w' => e = .returned (.string ⟨#[45, 53]⟩) ∧ Below w.heap.size w w' :=
  (dec_walk _ w (by omega) hL).mono fun e w' ⟨he, hw⟩ => ⟨by rw [dec_a] at he; exact he, hw⟩
theorem k_hex (w : World) : Calls Tryd.prog 41 #[.int .u32 10] w fun e w' => e = .returned (.string ⟨#[48, 48, 48, 48, 48, 48, 48, 97]⟩) ∧ Below w.heap.size w w' :=
  (hex_walk _ w (by omega)).mono fun e w' ⟨he, hw⟩ => ⟨by rw [hex_a] at he; exact he, hw⟩
theorem bel_drewN (w : World) (n : Nat) : Below w.heap.size w (w.drewN n) := ⟨rfl, rfl, rfl, Nat.le_refl _, fun _ _ => rfl⟩

set_option maxRecDepth 100000 in
set_option maxHeartbeats 4000000 in
theorem known_walk (w : World) (hL : Laid w) : Calls Tryd.prog 21 #[] w fun e w' => e = .returned (.bool true) ∧ Below w.heap.size w w' := by
  have HL := Lib.hid hL
  clear hL
  go_enter Tryd.func21, Tryd.ntmps21
  go_wp2_with (first
    | (go_at_call 12; refine (k_add _).mono ?_; rintro e w' ⟨rfl, rfl⟩)
    | (go_at_call 14; refine (k_sub _).mono ?_; rintro e w' ⟨rfl, rfl⟩)
    | (go_at_call 18; refine (k_div _).mono ?_; rintro e w' ⟨rfl, n, rfl⟩; have B0 := Lib.hid (bel_drewN w n); generalize w.drewN n = w1 at *)
    | (go_at_call 16; refine (k_mul _).mono ?_; rintro e w' ⟨rfl, rfl⟩)
    | (go_at_call 20; refine (num_walk _ _).mono ?_; rintro e w' ⟨rfl, rfl⟩))
  refine (k_ofdec_a _ (HL.out.bel B0.out)).mono ?_
  rintro e w2 ⟨rfl, hb2⟩
  have B2 := Lib.hid (bel_then B0.out hb2)
  clear hb2
  go_wp2_with fail
  refine (k_ofdec_b _ (HL.out.bel B2.out)).mono ?_
  rintro e w3 ⟨rfl, hb3⟩
  have B3 := Lib.hid (bel_then B2.out hb3)
  clear hb3
  go_wp2_with (first
    | (go_at_call 20; refine (num_walk _ _).mono ?_; rintro e w' ⟨rfl, rfl⟩))
  refine (k_dec _ (HL.out.bel B3.out)).mono ?_
  rintro e w4 ⟨rfl, hb4⟩
  have B4 := Lib.hid (bel_then B3.out hb4)
  clear hb4
  go_wp2_with (first
    | (go_at_call 20; refine (num_walk _ _).mono ?_; rintro e w' ⟨rfl, rfl⟩))
  refine (k_hex _).mono ?_
  rintro e w5 ⟨rfl, hb5⟩
  have B5 := Lib.hid (bel_then B4.out hb5)
  clear hb5
  go_wp2_with fail
  go_ret
  exact ⟨rfl, B5.out⟩

end Go.Proofs.YtomenhpdkghlgaaDoor
