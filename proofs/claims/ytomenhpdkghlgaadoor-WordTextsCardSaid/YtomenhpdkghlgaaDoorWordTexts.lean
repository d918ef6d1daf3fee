/- The law WordTexts, walked. -/
import Derived.Test.YtomenhpdkghlgaaDoorWordRefOfDec
import Derived.Test.YtomenhpdkghlgaaDoorWordLaws
namespace Go.Proofs.YtomenhpdkghlgaaDoor
set_option linter.unusedVariables false
set_option linter.unusedSimpArgs false
open Go.RowKit Go.Sort Go.Lib

set_option maxRecDepth 100000 in
set_option maxHeartbeats 8000000 in
theorem texts_walk (a : Int) (s t : ByteArray) (w : World) (hL : Laid w) (ha : 0 ≤ a ∧ a < 4294967296) (hs0 : s.size ≤ maxLen) (ht0 : t.size ≤ maxLen) : Calls Tryd.prog 10 #[.int .u32 a, .string s, .string t] w fun e w' => e = .returned (.bool true) ∧ Below w.heap.size w w' := by
  have HL := Lib.hid hL
  clear hL
  by_cases h1 : 9000 < s.size
  · have d1 : decide (9000 < (s.size : Int)) = true := decide_eq_true (by omega)
    clear hs0 ht0
    ( go_enter Tryd.func10, Tryd.ntmps10 ; go_wp2_with fail ; refine (known_walk _ HL.out).mono ?_ ; rintro e w9 ⟨rfl, hb9⟩ ; go_wp2_with fail ; go_ret ; exact ⟨rfl, hb9⟩)
  · have d1 : decide (9000 < (s.size : Int)) = false := decide_eq_false (by omega)
    by_cases h2 : 9000 < t.size
    · have d2 : decide (9000 < (t.size : Int)) = true := decide_eq_true (by omega)
      clear hs0 ht0
      ( go_enter Tryd.func10, Tryd.ntmps10 ; go_wp2_with fail ; refine (known_walk _ HL.out).mono ?_ ; rintro e w9 ⟨rfl, hb9⟩ ; go_wp2_with fail ; go_ret ; exact ⟨rfl, hb9⟩)
    · have d2 : decide (9000 < (t.size : Int)) = false := decide_eq_false (by omega)
      have hA1 := fun w hL => ofdec_walk s w (by omega) hL
      have hA2 := fun w => rofdec_walk s w (by omega)
      have hB1 := fun w => ofhex_walk t w (by omega)
      have hB2 := fun w => rofhex_walk t w (by omega)
      rw [ofdec_ref s] at hA1
      rw [ofhex_ref t] at hB1
      have HC1 := Lib.hid (fun w hL => dec_walk a w ha hL)
      have HC2 := Lib.hid (fun w => rdec_walk a w ha)
      have HD1 := Lib.hid (fun w => hex_walk a w ha)
      have HD2 := Lib.hid (fun w => rhex_walk a w ha)
      generalize decB a = u at HC1 HC2
      generalize hexB a = v at HD1 HD2
      generalize ((decB (rdecV s)).toList == s.toList) = p at hA1 hA2
      generalize ((hexB (rhexV t)).toList == t.toList) = q at hB1 hB2
      generalize rdecV s = x at hA1 hA2
      generalize rhexV t = y at hB1 hB2
      clear hs0 ht0 h1 h2
      cases p <;> cases q
      all_goals
        simp only [if_true, Bool.false_eq_true, if_false] at hA1 hB1
        have HA1 := Lib.hid hA1
        have HA2 := Lib.hid hA2
        have HB1 := Lib.hid hB1
        have HB2 := Lib.hid hB2
        clear hA1 hA2 hB1 hB2
        ( go_enter Tryd.func10, Tryd.ntmps10 ; go_wp2_with fail ; refine (HA1.out _ HL.out).mono ?_ ; rintro e w1 ⟨rfl, hb1⟩ ; have B1 := Lib.hid hb1 ; clear hb1 ; go_wp2_with fail ; refine (HA2.out _).mono ?_ ; rintro e w2 ⟨rfl, hb2⟩ ; have B2 := Lib.hid (bel_then B1.out hb2) ; clear hb2 ; go_wp2_with fail ; refine (HB1.out _).mono ?_ ; rintro e w3 ⟨rfl, hb3⟩ ; have B3 := Lib.hid (bel_then B2.out hb3) ; clear hb3 ; go_wp2_with fail ; refine (HB2.out _).mono ?_ ; rintro e w4 ⟨rfl, hb4⟩ ; have B4 := Lib.hid (bel_then B3.out hb4) ; clear hb4 ; go_wp2_with fail ; refine (HC1.out _ (HL.out.bel B4.out)).mono ?_ ; rintro e w5 ⟨rfl, hb5⟩ ; have B5 := Lib.hid (bel_then B4.out hb5) ; clear hb5 ; go_wp2_with fail ; refine (HC2.out _).mono ?_ ; rintro e w6 ⟨rfl, hb6⟩ ; have B6 := Lib.hid (bel_then B5.out hb6) ; clear hb6 ; go_wp2_with fail ; refine (HD1.out _).mono ?_ ; rintro e w7 ⟨rfl, hb7⟩ ; have B7 := Lib.hid (bel_then B6.out hb7) ; clear hb7 ; go_wp2_with fail ; refine (HD2.out _).mono ?_ ; rintro e w8 ⟨rfl, hb8⟩ ; have B8 := Lib.hid (bel_then B7.out hb8) ; clear hb8 ; go_wp2_with (go_at_call 20 ; refine (num_walk _ _).mono ?_ ; rintro e w' ⟨rfl, rfl⟩) ; refine (known_walk _ (HL.out.bel B8.out)).mono ?_ ; rintro e w9 ⟨rfl, hb9⟩ ; go_wp2_with fail ; go_ret ; exact ⟨rfl, bel_then B8.out hb9⟩)

end Go.Proofs.YtomenhpdkghlgaaDoor
