/- Contract: skip. -/
import Derived.Test.YtdgiijidgjagbaaScanPut
import Derived.Deep.LoopGhost
import Derived.Outline
namespace Go.Proofs.Ytdgiijidgjagbaa
set_option linter.unusedVariables false
set_option linter.unusedSimpArgs false
open Go.RowKit

variable {F : Nat → Prop} {w w' : World} {g : Nat} {s : Sc} {a : Option Addr} {c : Nat} {n : Value} {m : Nat}

def Sc.to (s : Sc) (i : Nat) : Sc := { s with at' := i }
def Sc.skipped (s : Sc) : Sc := if (blank s.src s.at').1 then s.to (blank s.src s.at').2 else (s.to s.src.length).markAt 5 (blank s.src s.at').2
def SkipIs (F : Nat → Prop) (w : World) (g : Nat) (s : Sc) (a : Option Addr) (c : Nat) (n : Value) (m : Nat) (e : Ending) (w' : World) : Prop :=
  e = .returned (.bool (blank s.src s.at').1) ∧ ScnX F w' g s.skipped a c n m ∧ Ke (· = g) w w'

theorem ke_bel {G : Nat → Prop} {w w1 w2 : World} (h : Ke G w w1) (k : Below w1.heap.size w1 w2) : Ke G w w2 := h.trans (Ke.below G k)

/-- what the walk of the scanner's place asks. -/
theorem wrapAt {i len : Nat} (h : i ≤ len) (hl : len ≤ 65535) : (IntKind.i64.wrap ((i : Int) + 1) = (i : Int) + 1 ∧ IntKind.i64.wrap ((i : Int) + 2) = (i : Int) + 2) ∧ ((0 : Int) ≤ (i : Int) + 1 ∧ ((i : Int) + 1).toNat = i + 1) ∧ (0 : Int) ≤ i ∧ (i : Int) ≤ 65535 ∧ (len : Int) ≤ 65535 :=
  ⟨⟨IntWalk.i64_in _ (by omega), IntWalk.i64_in _ (by omega)⟩, by omega, by omega, by omega, by omega⟩

set_option maxRecDepth 20000 in
set_option maxHeartbeats 8000000 in
theorem skip_walk (H : ScnX F w g s a c n m) (he : s.err = 0) :
    Calls Try.prog 28 #[.pointer (some ⟨g, 0, none⟩)] w (SkipIs F w g s a c n m) := by
  have HH := Lib.hid H
  have HE := Lib.hid he
  have hl := H.ok.len
  have HL := Lib.hid hl
  clear H he hl
  go_enter Try.func28, Try.ntmps28
  go_wp2
  go_loopg [] s.src.length (fun gk wr => ∃ i, i ≤ s.src.length ∧ s.src.length - i ≤ gk ∧ blank s.src i = blank s.src s.at' ∧ ScnX F wr g (s.to i) a c n m ∧ Ke (· = g) w wr)
  case atStart => exact ⟨s.at', HH.out.ok.le, Nat.sub_le _ _, rfl, HH.out, Ke.refl _ _⟩
  case round =>
    obtain ⟨go, rfl⟩ : ∃ go, go = gk := ⟨_, rfl⟩
    obtain ⟨wo, rfl⟩ : ∃ wo, wo = wr := ⟨_, rfl⟩
    obtain ⟨i, hi, hgk, hb, hx, hk⟩ := hrel
    have HB := Lib.hid hb
    have HX := Lib.hid hx
    have HK := Lib.hid hk
    have HG := Lib.hid hgk
    obtain ⟨⟨q1, q2⟩, ⟨q3, q4⟩, q5, q6, q7⟩ := wrapAt hi HL.out
    have c0 : wo.cell? ⟨g, 0, none⟩ = some (.slice a s.src.length c) := (hx.at'.cell 0).trans rfl
    have c1 : wo.cell? ⟨g, 1, none⟩ = some (.int .i64 i) := (hx.at'.cell 1).trans rfl
    by_cases hlt : i < s.src.length
    · have i3 : (i : Int) < s.src.length := by omega
      obtain ⟨b, rfl, hc⟩ := hx.bytes (show 0 < s.src.length by omega)
      have hb0 : wo.cell? ⟨b, i, none⟩ = some (.int .u8 (s.src.getD i 0)) := hc i hlt
      have HC := Lib.hid hc
      obtain ⟨v, hv⟩ : ∃ v, v = s.src.getD i 0 := ⟨_, rfl⟩
      rw [← hv] at hb0
      have HV := Lib.hid hv
      have hbi := blank_in hlt
      by_cases h32 : v ≤ 32
      · rw [← hv, if_pos h32] at hbi
        have HN := Lib.hid (hbi.symm.trans HB.out)
        clear hb hx hk hgk hv hbi hc q2 q3 q4
        go_wp2
        go_quiet (fail)
        go_wp2
        go_quiet (fail)
        go_wp2_with (refine scn_store1 rfl 3 (.tmp 32) (.tmp 30) rfl (HX.out.bel (belN _ _)) (s.to (i + 1)) rfl rfl rfl (by kernel_rfl) rfl rfl rfl rfl hlt ?_; intro w1 h1 k1 z1; have H1 := Lib.hid h1; have K1 := Lib.hid ((ke_bel HK.out (belN _ _)).trans k1); clear h1 k1 z1)
        go_roundg (go - 1)
        case measure => have := HG.out; omega
        case rel => exact ⟨i + 1, hlt, by have := HG.out; omega, HN.out, H1.out, K1.out⟩
      · by_cases ho : opens s.src i = true
        · have hlo := opens_lt ho
          rw [← hv, if_neg h32, if_pos ho] at hbi
          have HN := Lib.hid (HB.out.symm.trans hbi)
          have HO := Lib.hid ho
          have HLO := Lib.hid hlo
          clear hb hx hk hgk hv hbi hc q3 q4 hlo
          go_wp2
          go_quiet (fail)
          go_wp2
          go_quiet (fail)
          have f1 : True := trivial
          go_wp2_with (first | (have _f := f1; refine (opens_walk (HX.out.bel (belN _ _)) hlt).mono ?_; rw [show opens (s.to i).src (s.to i).at' = true from ho]; rintro e w1 ⟨rfl, hb1⟩; have hx1 := HX.out.bel (bel_then (belN _ _) hb1); have HX1 := Lib.hid hx1; have HK1 := Lib.hid (ke_bel HK.out (bel_then (belN _ _) hb1)); have c1' : w1.cell? ⟨g, 1, none⟩ = some (.int .i64 i) := (hx1.at'.cell 1).trans rfl; clear hb1 hx1 c0 c1 hb0 _f f1) | (refine scn_store1 rfl 3 (.tmp 46) (.tmp 44) rfl HX1.out (s.to (i + 2)) rfl rfl rfl (by kernel_rfl) rfl rfl rfl rfl HLO.out ?_; intro w2 h2 k2 z2; have HX2 := Lib.hid h2; have HK2 := Lib.hid (HK1.out.trans k2); clear h2 k2 z2 c1'))
          go_frame
          go_loopg [4] s.src.length (fun gj d wq => ∃ (j κ : Nat), j ≤ s.src.length ∧ s.src.length - j ≤ gj ∧ i + 2 ≤ j ∧ d = .int .i64 κ ∧ κ ≤ j ∧ com s.src κ j = com s.src 1 (i + 2) ∧ ScnX F wq g (s.to j) (some ⟨b, 0, none⟩) c n m ∧ Ke (· = g) w wq)
          case atStart => exact ⟨i + 2, 1, HLO.out, Nat.sub_le _ _, Nat.le_refl _, rfl, by omega, rfl, HX2.out, HK2.out⟩
          case round =>
            obtain ⟨j, κ, hj, hgj, hij, rfl, hκj, hcom, hxj, hkj⟩ := hrel
            have HCM := Lib.hid hcom
            have HXJ := Lib.hid hxj
            have HKJ := Lib.hid hkj
            have HGJ := Lib.hid hgj
            have HIJ := Lib.hid hij
            have HJ := Lib.hid hj
            have HKA := Lib.hid hκj
            obtain ⟨⟨p1, p2⟩, ⟨p3, p4⟩, p5, p6, p7⟩ := wrapAt hj HL.out
            have r1 : (0 : Int) ≤ κ := by omega
            have r2 : (κ : Int) ≤ 65535 := by have := HL.out; omega
            have d0 : wr.cell? ⟨g, 0, none⟩ = some (.slice (some ⟨b, 0, none⟩) s.src.length c) := (hxj.at'.cell 0).trans rfl
            have d1 : wr.cell? ⟨g, 1, none⟩ = some (.int .i64 j) := (hxj.at'.cell 1).trans rfl
            by_cases hκ : κ = 0
            · subst hκ
              have hr : blank s.src j = blank s.src s.at' := by
                have h1 := HN.out
                rw [← HCM.out, com_zero] at h1
                exact h1.symm
              have HR := Lib.hid hr
              clear hcom hxj hkj hgj hij hκj p1 p2 p3 p4 hr i3 hlt hi hj q1 q2 q5 q6 q7
              go_wp2
              go_quiet (fail)
              go_wp2
              go_roundg (go - 1)
              case measure => have := HG.out; have := HIJ.out; have := HLO.out; omega
              case rel => exact ⟨j, HJ.out, by have := HG.out; have := HIJ.out; have := HLO.out; omega, HR.out, HXJ.out.bel (belN _ _), ke_bel HKJ.out (belN _ _)⟩
            · have r3 : 0 < κ := by omega
              have hκ1 : ∃ κ', κ = κ' + 1 := ⟨κ - 1, by omega⟩
              have HK1' := Lib.hid hκ1
              by_cases hjl : j < s.src.length
              · have j3 : (j : Int) < s.src.length := by omega
                have HJL := Lib.hid hjl
                have hcj := HC.out
                obtain ⟨v2, hv2⟩ : ∃ v2, v2 = s.src.getD j 0 := ⟨_, rfl⟩
                have e0 : wr.cell? ⟨b, j, none⟩ = some (.int .u8 v2) := by
                  rw [hv2]
                  obtain ⟨b', hb', hc'⟩ := hxj.bytes (show 0 < s.src.length by omega)
                  obtain rfl : b = b' := by simpa using hb'
                  exact hc' j hjl
                have HV2 := Lib.hid hv2
                have HC2 : Hid (com s.src κ j = if opens s.src j then com s.src (κ + 1) (j + 2) else if closes s.src j then com s.src (κ - 1) (j + 2) else com s.src κ (j + 1)) := by
                  obtain ⟨κ', rfl⟩ := hκ1
                  exact Lib.hid (com_in hjl)
                by_cases ho2 : opens s.src j = true
                · have hlo2 := opens_lt ho2
                  have HN2 : Hid (com s.src (κ + 1) (j + 2) = com s.src 1 (i + 2)) := Lib.hid (by rw [← HCM.out, HC2.out, if_pos ho2])
                  have HLO2 := Lib.hid hlo2
                  clear hcom hxj hkj hgj hij hκj p1 p3 p4 i3 hlt hi hj q1 q2 q5 q6 q7 hκ1 hκ hcj hv2 e0 hlo2
                  have f2 : True := trivial
                  go_wp2
                  go_quiet (fail)
                  go_wp2_with (first | (have _f := f2; refine (opens_walk (HXJ.out.bel (belN _ _)) hjl).mono ?_; rw [show opens (s.to j).src (s.to j).at' = true from ho2]; rintro e w3 ⟨rfl, hb3⟩; have hx3 := HXJ.out.bel (bel_then (belN _ _) hb3); have HX3 := Lib.hid hx3; have HK3 := Lib.hid (ke_bel HKJ.out (bel_then (belN _ _) hb3)); have d1' : w3.cell? ⟨g, 1, none⟩ = some (.int .i64 j) := (hx3.at'.cell 1).trans rfl; clear hb3 hx3 d0 d1 _f f2) | (refine scn_store1 rfl 3 (.tmp 79) (.tmp 77) rfl HX3.out (s.to (j + 2)) rfl rfl rfl (by kernel_rfl) rfl rfl rfl rfl HLO2.out ?_; intro w4 h2 k2 z2; have HX4 := Lib.hid h2; have HK4 := Lib.hid (HK3.out.trans k2); clear h2 k2 z2 d1'))
                  go_frame
                  go_roundg (gk - 1)
                  case measure => have := HGJ.out; omega
                  case rel => exact ⟨j + 2, κ + 1, HLO2.out, by have := HGJ.out; omega, by have := HIJ.out; omega, by go_num, by have := HKA.out; omega, HN2.out, HX4.out, HK4.out⟩
                · have ho2' : opens s.src j = false := by simpa using ho2
                  have LTS := Lib.hid (show 0 < s.src.length by omega)
                  have JTS := Lib.hid hjl
                  by_cases hcl : closes s.src j = true
                  · have hlo2 := closes_lt hcl
                    have HN2 : Hid (com s.src (κ - 1) (j + 2) = com s.src 1 (i + 2)) := Lib.hid (by rw [← HCM.out, HC2.out, if_neg ho2, if_pos hcl])
                    have HLO2 := Lib.hid hlo2
                    have hv42 : v2 = 42 := by unfold closes at hcl; simp only [Bool.and_eq_true, decide_eq_true_eq] at hcl; rw [hv2]; exact hcl.1
                    have HU := Lib.hid (show s.src.getD (j + 1) 0 = 41 by unfold closes at hcl; simp only [Bool.and_eq_true, decide_eq_true_eq] at hcl; exact hcl.2)
                    have j4 : (j : Int) + 1 < s.src.length := by omega
                    have j5 : j + 1 < s.src.length := hlo2
                    subst hv42
                    clear hcom hxj hkj hgj hij hκj i3 hlt hi hj q1 q2 q5 q6 q7 hκ1 hκ hcj hv2 e0 hlo2 hcl
                    have f2 : True := trivial
                    go_wp2
                    go_quiet (fail)
                    go_wp2_with fail
                    refine (opens_walk (HXJ.out.bel (belN _ _)) hjl).mono ?_
                    rw [show opens (s.to j).src (s.to j).at' = false from ho2']
                    rintro e w3 ⟨rfl, hb3⟩
                    have hx3 := HXJ.out.bel (bel_then (belN _ _) hb3)
                    have HX3 := Lib.hid hx3
                    have HK3 := Lib.hid (ke_bel HKJ.out (bel_then (belN _ _) hb3))
                    have d0' : w3.cell? ⟨g, 0, none⟩ = some (.slice (some ⟨b, 0, none⟩) s.src.length c) := (hx3.at'.cell 0).trans rfl
                    have d1' : w3.cell? ⟨g, 1, none⟩ = some (.int .i64 j) := (hx3.at'.cell 1).trans rfl
                    obtain ⟨b', hb', hc'⟩ := hx3.bytes (show 0 < (s.to j).src.length from LTS.out)
                    obtain rfl : b = b' := (by simpa using hb')
                    have e0' : w3.cell? ⟨b, j, none⟩ = some (.int .u8 42) := (hc' j JTS.out).trans (by rw [HV2.out]; rfl)
                    have e1' : w3.cell? ⟨b, j + 1, none⟩ = some (.int .u8 41) := (hc' (j + 1) HLO2.out).trans (by rw [show (s.to j).src = s.src from rfl, HU.out])
                    clear hb3 hx3 d0 d1 hb' hc' f2
                    go_wp2
                    go_quiet (fail)
                    go_wp2_with (refine scn_store1 rfl 3 (.tmp 127) (.tmp 125) rfl (HX3.out.bel (belN _ _)) (s.to (j + 2)) rfl rfl rfl (by kernel_rfl) rfl rfl rfl rfl HLO2.out ?_; intro w4 h2 k2 z2; have HX4 := Lib.hid h2; have HK4 := Lib.hid ((ke_bel HK3.out (belN _ _)).trans k2); clear h2 k2 z2 d0' d1')
                    go_frame
                    go_roundg (gk - 1)
                    case measure => have := HGJ.out; have := JTS.out; omega
                    case rel => exact ⟨j + 2, κ - 1, HLO2.out, by have := HGJ.out; omega, by have := HIJ.out; omega, by rw [show ((κ - 1 : Nat) : Int) = (κ : Int) - 1 by omega], by have := HKA.out; omega, HN2.out, HX4.out, HK4.out⟩
                  · have HN2 : Hid (com s.src κ (j + 1) = com s.src 1 (i + 2)) := Lib.hid (by rw [← HCM.out, HC2.out, if_neg ho2, if_neg hcl])
                    by_cases hv42 : v2 = 42
                    · by_cases j5 : j + 1 < s.src.length
                      · have j4 : (j : Int) + 1 < s.src.length := by omega
                        obtain ⟨u2, hu2⟩ : ∃ u2, u2 = s.src.getD (j + 1) 0 := ⟨_, rfl⟩
                        have hu41 : ¬ u2 = 41 := fun h => hcl (by unfold closes; rw [← hv2, ← hu2, hv42, h]; rfl)
                        have g41 : (u2 == 41) = false := by simpa using hu41
                        have HU := Lib.hid hu2
                        have HLO2 := Lib.hid j5
                        subst hv42
                        clear hcom hxj hkj hgj hij hκj i3 hlt hi hj q1 q2 q5 q6 q7 hκ1 hκ hcj hv2 e0 hcl hu2
                        have f2 : True := trivial
                        go_wp2
                        go_quiet (fail)
                        go_wp2_with fail
                        refine (opens_walk (HXJ.out.bel (belN _ _)) hjl).mono ?_
                        rw [show opens (s.to j).src (s.to j).at' = false from ho2']
                        rintro e w3 ⟨rfl, hb3⟩
                        have hx3 := HXJ.out.bel (bel_then (belN _ _) hb3)
                        have HX3 := Lib.hid hx3
                        have HK3 := Lib.hid (ke_bel HKJ.out (bel_then (belN _ _) hb3))
                        have d0' : w3.cell? ⟨g, 0, none⟩ = some (.slice (some ⟨b, 0, none⟩) s.src.length c) := (hx3.at'.cell 0).trans rfl
                        have d1' : w3.cell? ⟨g, 1, none⟩ = some (.int .i64 j) := (hx3.at'.cell 1).trans rfl
                        obtain ⟨b', hb', hc'⟩ := hx3.bytes (show 0 < (s.to j).src.length from LTS.out)
                        obtain rfl : b = b' := (by simpa using hb')
                        have e0' : w3.cell? ⟨b, j, none⟩ = some (.int .u8 42) := (hc' j JTS.out).trans (by rw [HV2.out]; rfl)
                        have e1' : w3.cell? ⟨b, j + 1, none⟩ = some (.int .u8 u2) := (hc' (j + 1) HLO2.out).trans (by rw [show (s.to j).src = s.src from rfl, HU.out])
                        clear hb3 hx3 d0 d1 hb' hc' f2
                        go_wp2
                        go_quiet (fail)
                        go_wp2_with (refine scn_store1 rfl 3 (.tmp 67) (.tmp 65) rfl (HX3.out.bel (belN _ _)) (s.to (j + 1)) rfl rfl rfl (by kernel_rfl) rfl rfl rfl rfl JTS.out ?_; intro w4 h2 k2 z2; have HX4 := Lib.hid h2; have HK4 := Lib.hid ((ke_bel HK3.out (belN _ _)).trans k2); clear h2 k2 z2 d0' d1')
                        go_frame
                        go_roundg (gk - 1)
                        case measure => have := HGJ.out; have := JTS.out; omega
                        case rel => exact ⟨j + 1, κ, JTS.out, by have := HGJ.out; omega, by have := HIJ.out; omega, rfl, by have := HKA.out; omega, HN2.out, HX4.out, HK4.out⟩
                      · have j4 : decide ((j : Int) + 1 < s.src.length) = false := decide_eq_false (by omega)
                        subst hv42
                        clear hcom hxj hkj hgj hij hκj i3 hlt hi hj q1 q2 q5 q6 q7 hκ1 hκ hcj hv2 e0 hcl
                        have f2 : True := trivial
                        go_wp2
                        go_quiet (fail)
                        go_wp2_with fail
                        refine (opens_walk (HXJ.out.bel (belN _ _)) hjl).mono ?_
                        rw [show opens (s.to j).src (s.to j).at' = false from ho2']
                        rintro e w3 ⟨rfl, hb3⟩
                        have hx3 := HXJ.out.bel (bel_then (belN _ _) hb3)
                        have HX3 := Lib.hid hx3
                        have HK3 := Lib.hid (ke_bel HKJ.out (bel_then (belN _ _) hb3))
                        have d0' : w3.cell? ⟨g, 0, none⟩ = some (.slice (some ⟨b, 0, none⟩) s.src.length c) := (hx3.at'.cell 0).trans rfl
                        have d1' : w3.cell? ⟨g, 1, none⟩ = some (.int .i64 j) := (hx3.at'.cell 1).trans rfl
                        obtain ⟨b', hb', hc'⟩ := hx3.bytes (show 0 < (s.to j).src.length from LTS.out)
                        obtain rfl : b = b' := (by simpa using hb')
                        have e0' : w3.cell? ⟨b, j, none⟩ = some (.int .u8 42) := (hc' j JTS.out).trans (by rw [HV2.out]; rfl)
                        clear hb3 hx3 d0 d1 hb' hc' f2
                        go_wp2
                        go_quiet (fail)
                        go_wp2_with (refine scn_store1 rfl 3 (.tmp 67) (.tmp 65) rfl (HX3.out.bel (belN _ _)) (s.to (j + 1)) rfl rfl rfl (by kernel_rfl) rfl rfl rfl rfl JTS.out ?_; intro w4 h2 k2 z2; have HX4 := Lib.hid h2; have HK4 := Lib.hid ((ke_bel HK3.out (belN _ _)).trans k2); clear h2 k2 z2 d0' d1')
                        go_frame
                        go_roundg (gk - 1)
                        case measure => have := HGJ.out; have := JTS.out; omega
                        case rel => exact ⟨j + 1, κ, JTS.out, by have := HGJ.out; omega, by have := HIJ.out; omega, rfl, by have := HKA.out; omega, HN2.out, HX4.out, HK4.out⟩
                    · have g42 : (v2 == 42) = false := by simpa using hv42
                      clear hcom hxj hkj hgj hij hκj i3 hlt hi hj q1 q2 q5 q6 q7 hκ1 hκ hcj hv2 e0 hcl
                      have f2 : True := trivial
                      go_wp2
                      go_quiet (fail)
                      go_wp2_with fail
                      refine (opens_walk (HXJ.out.bel (belN _ _)) hjl).mono ?_
                      rw [show opens (s.to j).src (s.to j).at' = false from ho2']
                      rintro e w3 ⟨rfl, hb3⟩
                      have hx3 := HXJ.out.bel (bel_then (belN _ _) hb3)
                      have HX3 := Lib.hid hx3
                      have HK3 := Lib.hid (ke_bel HKJ.out (bel_then (belN _ _) hb3))
                      have d0' : w3.cell? ⟨g, 0, none⟩ = some (.slice (some ⟨b, 0, none⟩) s.src.length c) := (hx3.at'.cell 0).trans rfl
                      have d1' : w3.cell? ⟨g, 1, none⟩ = some (.int .i64 j) := (hx3.at'.cell 1).trans rfl
                      obtain ⟨b', hb', hc'⟩ := hx3.bytes (show 0 < (s.to j).src.length from LTS.out)
                      obtain rfl : b = b' := (by simpa using hb')
                      have e0' : w3.cell? ⟨b, j, none⟩ = some (.int .u8 v2) := (hc' j JTS.out).trans (by rw [HV2.out]; rfl)
                      clear hb3 hx3 d0 d1 hb' hc' f2
                      go_wp2
                      go_quiet (fail)
                      go_wp2_with (refine scn_store1 rfl 3 (.tmp 67) (.tmp 65) rfl (HX3.out.bel (belN _ _)) (s.to (j + 1)) rfl rfl rfl (by kernel_rfl) rfl rfl rfl rfl JTS.out ?_; intro w4 h2 k2 z2; have HX4 := Lib.hid h2; have HK4 := Lib.hid ((ke_bel HK3.out (belN _ _)).trans k2); clear h2 k2 z2 d0' d1')
                      go_frame
                      go_roundg (gk - 1)
                      case measure => have := HGJ.out; have := JTS.out; omega
                      case rel => exact ⟨j + 1, κ, JTS.out, by have := HGJ.out; omega, by have := HIJ.out; omega, rfl, by have := HKA.out; omega, HN2.out, HX4.out, HK4.out⟩
              · have j3 : decide ((j : Int) < s.src.length) = false := decide_eq_false (by omega)
                have hz : blank s.src s.at' = (false, i) ∧ j = s.src.length := by
                  obtain ⟨κ', rfl⟩ := hκ1
                  have h1 := HN.out
                  rw [← HCM.out, com_end (by omega)] at h1
                  exact ⟨h1, by omega⟩
                have HZ := Lib.hid hz
                clear hcom hxj hkj hgj hij hκj p1 p2 p3 p4 i3 hlt hi hj q1 q2 q5 q6 q7 hz hκ1 hκ
                go_wp2
                go_quiet (fail)
                go_wp2_with (refine (markat_walk (HXJ.out.bel (belN _ _)) 5 i).mono ?_; rintro e w3 ⟨rfl, h1, h2, h3⟩; have HX3 := Lib.hid h1; have HK3 := Lib.hid ((ke_bel HKJ.out (belN _ _)).trans h2); clear h1 h2 h3)
                go_ret
                refine ⟨by rw [HZ.out.1]; rfl, ?_, HK3.out⟩
                have e : s.skipped = (s.to j).markAt 5 i := by unfold Sc.skipped; rw [HZ.out.1, HZ.out.2]; rfl
                rw [e]; exact HX3.out
        · have ho' : opens s.src i = false := by simpa using ho
          rw [← hv, if_neg h32, if_neg ho] at hbi
          have HZ := Lib.hid (HB.out.symm.trans hbi)
          clear hb hx hk hgk hv hbi hc q1 q2 q3 q4
          go_wp2
          go_quiet (fail)
          go_wp2
          go_quiet (fail)
          go_wp2_with (refine (opens_walk (HX.out.bel (belN _ _)) hlt).mono ?_; rw [show opens (s.to i).src (s.to i).at' = false from ho']; rintro e w1 ⟨rfl, hb1⟩)
          have HB1 := Lib.hid (bel_then (belN _ _) hb1)
          clear hb1
          go_wp2
          go_ret
          refine ⟨by rw [HZ.out]; rfl, ?_, ke_bel HK.out HB1.out⟩
          have e : s.skipped = s.to i := by unfold Sc.skipped; rw [HZ.out]; rfl
          rw [e]; exact HX.out.bel HB1.out
    · have i3 : decide ((i : Int) < s.src.length) = false := decide_eq_false (by omega)
      have hbe := blank_end (s := s.src) (i := i) (by omega)
      have HZ := Lib.hid (HB.out.symm.trans hbe)
      clear hb hx hk hgk hbe q1 q2 q3 q4
      go_wp2
      go_quiet (fail)
      go_wp2
      go_ret
      refine ⟨by rw [HZ.out]; rfl, ?_, ke_bel HK.out (belN _ _)⟩
      have e : s.skipped = s.to i := by unfold Sc.skipped; rw [HZ.out]; rfl
      rw [e]; exact HX.out.bel (belN _ _)

end Go.Proofs.Ytdgiijidgjagbaa
