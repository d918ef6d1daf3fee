/- Contract: SymfileSame. Printed by bin/gen_symsamelaw.py. -/
import Derived.Test.YtfnibpkojhgflaaFaceRSame
import Derived.Test.YtfnibpkojhgflaaFaceA
namespace Go.Proofs.Ytfnibpkojhgflaa
set_option linter.unusedVariables false
set_option linter.unusedSimpArgs false
open Go.RowKit

set_option maxRecDepth 100000 in
set_option maxHeartbeats 8000000 in
theorem samelaw_walk (x y : Fc) (s : ByteArray) (w : World) (hx : x.Rd w) (hy : y.Rd w) (hs : s.size ≤ maxLen) :
    Calls Try.prog 4 #[x.val, y.val, .string s] w fun e w' => e = .returned (.bool true) ∧ Below w.heap.size w w' := by
  unfold maxLen at hs
  have HX := Lib.hid hx
  have HY := Lib.hid hy
  clear hx hy
  obtain ⟨p0, p1, p2, p3, hcx⟩ : ∃ p0 p1 p2 p3, x.cells = #[p0, p1, p2, p3] := ⟨_, _, _, _, rfl⟩
  obtain ⟨r0, r1, r2, r3, hcy⟩ : ∃ r0 r1 r2 r3, y.cells = #[r0, r1, r2, r3] := ⟨_, _, _, _, rfl⟩
  have HCX : Hid (x.val = .agg #[p0, p1, p2, p3]) := Lib.hid (by unfold Fc.val; rw [hcx])
  have HCY : Hid (y.val = .agg #[r0, r1, r2, r3]) := Lib.hid (by unfold Fc.val; rw [hcy])
  have HP0 : Hid (p0 = .string x.name) := Lib.hid (by have := congrArg (fun a : Array Value => a.getD 0 undef) hcx; exact this.symm)
  have HR0 : Hid (r0 = .string y.name) := Lib.hid (by have := congrArg (fun a : Array Value => a.getD 0 undef) hcy; exact this.symm)
  rw [HCX.out, HCY.out]
  have HB0 := Lib.hid (bel2 w (.cells #[p0, p1, p2, p3] 26) (.cells #[r0, r1, r2, r3] 26))
  have HGX : Hid (At ((w.alloc (.cells #[p0, p1, p2, p3] 26)).alloc (.cells #[r0, r1, r2, r3] 26)) w.heap.size #[p0, p1, p2, p3] 26) := Lib.hid ((At.new w _ 26).old _)
  have HGY : Hid (At ((w.alloc (.cells #[p0, p1, p2, p3] 26)).alloc (.cells #[r0, r1, r2, r3] 26)) (w.heap.size + 1) #[r0, r1, r2, r3] 26) := Lib.hid (by have := At.new (w.alloc (.cells #[p0, p1, p2, p3] 26)) #[r0, r1, r2, r3] 26; rwa [show (w.alloc (.cells #[p0, p1, p2, p3] 26)).heap.size = w.heap.size + 1 by simp] at this)
  clear hcx hcy
  have HUX : Hid (∀ W, Below w.heap.size w W → Calls Try.prog 9 #[.agg #[p0, p1, p2, p3]] W fun e w' => e = .returned (.bool (muchF x.d)) ∧ Below W.heap.size W w') := Lib.hid (fun W k => by rw [← HCX.out]; exact muchF_walk x W (HX.out.bel k))
  have HUY : Hid (∀ W, Below w.heap.size w W → Calls Try.prog 9 #[.agg #[r0, r1, r2, r3]] W fun e w' => e = .returned (.bool (muchF y.d)) ∧ Below W.heap.size W w') := Lib.hid (fun W k => by rw [← HCY.out]; exact muchF_walk y W (HY.out.bel k))
  have HMX : Hid (∀ W, Below w.heap.size w W → Calls Try.prog 15 #[.agg #[p0, p1, p2, p3]] W fun e w' => e = .returned (.bool (mayFace x.d)) ∧ Below W.heap.size W w') := Lib.hid (fun W k => by rw [← HCX.out]; exact rmay_walk x W (HX.out.bel k))
  have HXY : Hid (∀ W, Below w.heap.size w W → Calls Try.prog 13 #[.agg #[p0, p1, p2, p3], .agg #[r0, r1, r2, r3]] W fun e w' => e = .returned (.bool (sameF x.d y.d)) ∧ Below W.heap.size W w') := Lib.hid (fun W k => by rw [← HCX.out, ← HCY.out]; exact faceSame_walk x y W (HX.out.bel k) (HY.out.bel k))
  have HYX : Hid (∀ W, Below w.heap.size w W → Calls Try.prog 13 #[.agg #[r0, r1, r2, r3], .agg #[p0, p1, p2, p3]] W fun e w' => e = .returned (.bool (sameF x.d y.d)) ∧ Below W.heap.size W w') := Lib.hid (fun W k => by rw [← HCY.out, ← HCX.out]; exact (sameF_symm y.d x.d ▸ faceSame_walk y x W (HY.out.bel k) (HX.out.bel k)))
  have HLS : Hid (∀ W, Below w.heap.size w W → Calls Try.prog 14 #[.agg #[p0, p1, p2, p3], .agg #[r0, r1, r2, r3]] W fun e w' => e = .returned (.bool (sameF x.d y.d)) ∧ Below W.heap.size W w') := Lib.hid (fun W k => by rw [← HCX.out, ← HCY.out]; exact lawSame_walk x y W (HX.out.bel k) (HY.out.bel k))
  have HXX : Hid (∀ W, Below w.heap.size w W → Calls Try.prog 13 #[.agg #[p0, p1, p2, p3], .agg #[p0, p1, p2, p3]] W fun e w' => e = .returned (.bool (mayFace x.d)) ∧ Below W.heap.size W w') := Lib.hid (fun W k => by rw [← HCX.out, ← sameF_self x.d]; exact faceSame_walk x x W (HX.out.bel k) (HX.out.bel k))
  obtain ⟨U, hU⟩ : ∃ v, v = muchF x.d := ⟨_, rfl⟩
  rw [← hU] at HUX
  clear hU
  obtain ⟨V, hV⟩ : ∃ v, v = muchF y.d := ⟨_, rfl⟩
  rw [← hV] at HUY
  clear hV
  obtain ⟨M, hM⟩ : ∃ v, v = mayFace x.d := ⟨_, rfl⟩
  rw [← hM] at HMX HXX
  clear hM
  obtain ⟨S, hS⟩ : ∃ v, v = sameF x.d y.d := ⟨_, rfl⟩
  rw [← hS] at HXY HYX HLS
  clear hS
  clear HX HY HCX HCY HP0 HR0
  cases U
  rotate_left
  · skip
    go_enter Try.func4, Try.ntmps4
    have fl1 : True := trivial
    have fl2 : True := trivial
    have fl3 : True := trivial
    go_wp2_with (first | (have _f := fl1; refine load_sep (cs := #[p0, p1, p2, p3]) rfl 26 (.tmp 3) rfl (Sep.one HGX.out) 0 rfl rfl Try.underlying26 rfl (by kernel_rfl) ?_; clear _f fl1) | (have _f := fl2; refine (HUX.out _ HB0.out).mono ?_; rintro e w1 ⟨rfl, hb⟩; have HB1 := Lib.hid (bel_then HB0.out hb); have HGX1 := Lib.hid (HGX.out.bel hb); have HGY1 := Lib.hid (HGY.out.bel hb); clear hb; clear _f fl2) | (have _f := fl3; refine (known_walk _).mono ?_; rintro e w2 ⟨rfl, hb⟩; have HB2 := Lib.hid (bel_then HB1.out hb); have HGX2 := Lib.hid (HGX1.out.bel hb); have HGY2 := Lib.hid (HGY1.out.bel hb); clear hb; clear _f fl3))
    go_ret
    exact ⟨rfl, HB2.out⟩
  cases V
  rotate_left
  · skip
    go_enter Try.func4, Try.ntmps4
    have fl4 : True := trivial
    have fl5 : True := trivial
    have fl6 : True := trivial
    have fl7 : True := trivial
    have fl8 : True := trivial
    go_wp2_with (first | (have _f := fl4; refine load_sep (cs := #[p0, p1, p2, p3]) rfl 26 (.tmp 3) rfl (Sep.one HGX.out) 0 rfl rfl Try.underlying26 rfl (by kernel_rfl) ?_; clear _f fl4) | (have _f := fl5; refine (HUX.out _ HB0.out).mono ?_; rintro e w3 ⟨rfl, hb⟩; have HB3 := Lib.hid (bel_then HB0.out hb); have HGX3 := Lib.hid (HGX.out.bel hb); have HGY3 := Lib.hid (HGY.out.bel hb); clear hb; clear _f fl5) | (have _f := fl6; refine guard_off (by kernel_rfl) ?_; refine load_sep (cs := #[r0, r1, r2, r3]) rfl 26 (.tmp 4) rfl (Sep.one HGY3.out) 0 rfl rfl Try.underlying26 rfl (by kernel_rfl) ?_; clear _f fl6) | (have _f := fl7; refine (HUY.out _ HB3.out).mono ?_; rintro e w4 ⟨rfl, hb⟩; have HB4 := Lib.hid (bel_then HB3.out hb); have HGX4 := Lib.hid (HGX3.out.bel hb); have HGY4 := Lib.hid (HGY3.out.bel hb); clear hb; clear _f fl7) | (have _f := fl8; refine (known_walk _).mono ?_; rintro e w5 ⟨rfl, hb⟩; have HB5 := Lib.hid (bel_then HB4.out hb); have HGX5 := Lib.hid (HGX4.out.bel hb); have HGY5 := Lib.hid (HGY4.out.bel hb); clear hb; clear _f fl8))
    go_ret
    exact ⟨rfl, HB5.out⟩
  by_cases hl : (100 : Int) < s.size
  · have d1 : decide ((100 : Int) < s.size) = true := decide_eq_true hl
    have d2 : decide (100 < s.size) = true := decide_eq_true (by omega)
    clear hl
    go_enter Try.func4, Try.ntmps4
    have fl9 : True := trivial
    have fl10 : True := trivial
    have fl11 : True := trivial
    have fl12 : True := trivial
    have fl13 : True := trivial
    go_wp2_with (first | (have _f := fl9; refine load_sep (cs := #[p0, p1, p2, p3]) rfl 26 (.tmp 3) rfl (Sep.one HGX.out) 0 rfl rfl Try.underlying26 rfl (by kernel_rfl) ?_; clear _f fl9) | (have _f := fl10; refine (HUX.out _ HB0.out).mono ?_; rintro e w6 ⟨rfl, hb⟩; have HB6 := Lib.hid (bel_then HB0.out hb); have HGX6 := Lib.hid (HGX.out.bel hb); have HGY6 := Lib.hid (HGY.out.bel hb); clear hb; clear _f fl10) | (have _f := fl11; refine guard_off (by kernel_rfl) ?_; refine load_sep (cs := #[r0, r1, r2, r3]) rfl 26 (.tmp 4) rfl (Sep.one HGY6.out) 0 rfl rfl Try.underlying26 rfl (by kernel_rfl) ?_; clear _f fl11) | (have _f := fl12; refine (HUY.out _ HB6.out).mono ?_; rintro e w7 ⟨rfl, hb⟩; have HB7 := Lib.hid (bel_then HB6.out hb); have HGX7 := Lib.hid (HGX6.out.bel hb); have HGY7 := Lib.hid (HGY6.out.bel hb); clear hb; clear _f fl12) | (have _f := fl13; refine (known_walk _).mono ?_; rintro e w8 ⟨rfl, hb⟩; have HB8 := Lib.hid (bel_then HB7.out hb); have HGX8 := Lib.hid (HGX7.out.bel hb); have HGY8 := Lib.hid (HGY7.out.bel hb); clear hb; clear _f fl13))
    go_ret
    exact ⟨rfl, HB8.out⟩
  have d1 : decide ((100 : Int) < s.size) = false := decide_eq_false hl
  have d2 : decide (100 < s.size) = false := decide_eq_false (by omega)
  have HF : Hid (∀ W, Calls Try.prog 16 #[.string s] W fun e w' => e = .returned (.string (s ++ ⟨#[46, 115]⟩)) ∧ Below W.heap.size W w') := Lib.hid (fun W => (file8_walk s W (by omega)).mono (by rintro e w' ⟨h, rfl⟩; exact ⟨h, Below.refl _ _⟩))
  have hov : ¬ 9223372036854775807 < s.size + 2 := by omega
  clear hl
  have hq1 : (S == S) = true := beq_self_eq_true S
  have hq2 : (M == M) = true := beq_self_eq_true M
  have hso : ((s ++ (⟨#[46, 115]⟩ : ByteArray)).toList == (s ++ (⟨#[46, 115]⟩ : ByteArray)).toList) = true := by simp
  go_enter Try.func4, Try.ntmps4
  have fl14 : True := trivial
  have fl15 : True := trivial
  have fl16 : True := trivial
  have fl17 : True := trivial
  go_wp2_with (first | (have _f := fl14; refine load_sep (cs := #[p0, p1, p2, p3]) rfl 26 (.tmp 3) rfl (Sep.one HGX.out) 0 rfl rfl Try.underlying26 rfl (by kernel_rfl) ?_; clear _f fl14) | (have _f := fl15; refine (HUX.out _ HB0.out).mono ?_; rintro e w9 ⟨rfl, hb⟩; have HB9 := Lib.hid (bel_then HB0.out hb); have HGX9 := Lib.hid (HGX.out.bel hb); have HGY9 := Lib.hid (HGY.out.bel hb); clear hb; clear _f fl15) | (have _f := fl16; refine guard_off (by kernel_rfl) ?_; refine load_sep (cs := #[r0, r1, r2, r3]) rfl 26 (.tmp 4) rfl (Sep.one HGY9.out) 0 rfl rfl Try.underlying26 rfl (by kernel_rfl) ?_; clear _f fl16) | (have _f := fl17; refine (HUY.out _ HB9.out).mono ?_; rintro e w10 ⟨rfl, hb⟩; have HB10 := Lib.hid (bel_then HB9.out hb); have HGX10 := Lib.hid (HGX9.out.bel hb); have HGY10 := Lib.hid (HGY9.out.bel hb); clear hb; clear _f fl17))
  refine wp_region_mix' [([0, 1, 3, 4], 2), ([], 5), ([6, 7, 8, 9, 11, 12], 10), ([], 13), ([14, 15, 16, 17, 18, 20], 19), ([], 21), ([22, 23, 24, 25, 27, 28], 26), ([29, 30, 31], 32)] [33, 34] (by kernel_rfl) (by kernel_rfl) (fun _ _ d _ _ h => by cases d <;> exact h) ?_
  intro wd hbd
  have HB11 := Lib.hid (bel_then HB10.out hbd)
  have HGX11 := Lib.hid (HGX10.out.bel hbd)
  have HGY11 := Lib.hid (HGY10.out.bel hbd)
  clear hbd
  refine mix_step ?_
  have ls0 := fun y => (HGX11.out.laterB y).loads (P := Try.prog) Try.underlying26 rfl (by kernel_rfl)
  have ls1 := fun y => (HGY11.out.laterB y).loads (P := Try.prog) Try.underlying26 rfl (by kernel_rfl)
  have ls2 := fun y => (HGX11.out.laterB y).loads (P := Try.prog) Try.underlying26 rfl (by kernel_rfl)
  have ls3 := fun y => (HGY11.out.laterB y).loads (P := Try.prog) Try.underlying26 rfl (by kernel_rfl)
  simp only [pickOps, nth, Act.put, List.setIfInBounds_toArray, List.set_cons_succ, List.set_cons_zero]
  (repeat (go_big_quiet_step (fail)))
  (go_big_quiet_want; refine quiet_row 26 (.tmp 3) rfl rfl ls0 ?_; go_big_quiet_on)
  simp only [pickOps, nth, Act.put, List.setIfInBounds_toArray, List.set_cons_succ, List.set_cons_zero]
  (repeat (go_big_quiet_step (fail)))
  (go_big_quiet_want; refine quiet_row 26 (.tmp 4) rfl rfl ls1 ?_; go_big_quiet_on)
  simp only [pickOps, nth, Act.put, List.setIfInBounds_toArray, List.set_cons_succ, List.set_cons_zero]
  (repeat (go_big_quiet_step (fail)))
  (go_big_quiet_want; refine quiet_row 26 (.tmp 3) rfl rfl ls2 ?_; go_big_quiet_on)
  simp only [pickOps, nth, Act.put, List.setIfInBounds_toArray, List.set_cons_succ, List.set_cons_zero]
  (repeat (go_big_quiet_step (fail)))
  (go_big_quiet_want; refine quiet_row 26 (.tmp 4) rfl rfl ls3 ?_; go_big_quiet_on)
  simp only [pickOps, nth, Act.put, List.setIfInBounds_toArray, List.set_cons_succ, List.set_cons_zero]
  (repeat (go_big_quiet_step (fail)))
  refine wpQuiet_nil ?_
  clear ls0 ls1 ls2 ls3
  go_wp2_with (refine (HXY.out _ HB11.out).mono ?_; rintro e w12 ⟨rfl, hb⟩; have HBs := Lib.hid hb; have HB12 := Lib.hid (bel_then HB11.out hb); have HGX12 := Lib.hid (HGX11.out.bel hb); have HGY12 := Lib.hid (HGY11.out.bel hb); clear hb)
  refine ⟨HBs.out, mix_step ?_⟩
  simp only [pickOps, nth, Act.put, List.setIfInBounds_toArray, List.set_cons_succ, List.set_cons_zero]
  (repeat (go_big_quiet_step (fail)))
  refine wpQuiet_nil ?_
  go_wp2_with (refine (HLS.out _ HB12.out).mono ?_; rintro e w13 ⟨rfl, hb⟩; have HBs := Lib.hid hb; have HB13 := Lib.hid (bel_then HB12.out hb); have HGX13 := Lib.hid (HGX12.out.bel hb); have HGY13 := Lib.hid (HGY12.out.bel hb); clear hb)
  refine ⟨HBs.out, mix_step ?_⟩
  have ls0 := fun y => (HGY13.out.laterB y).loads (P := Try.prog) Try.underlying26 rfl (by kernel_rfl)
  have ls1 := fun y => (HGX13.out.laterB y).loads (P := Try.prog) Try.underlying26 rfl (by kernel_rfl)
  have ls2 := fun y => (HGX13.out.laterB y).loads (P := Try.prog) Try.underlying26 rfl (by kernel_rfl)
  have ls3 := fun y => (HGY13.out.laterB y).loads (P := Try.prog) Try.underlying26 rfl (by kernel_rfl)
  simp only [pickOps, nth, Act.put, List.setIfInBounds_toArray, List.set_cons_succ, List.set_cons_zero]
  (repeat (go_big_quiet_step (fail)))
  (go_big_quiet_want; refine quiet_row 26 (.tmp 4) rfl rfl ls0 ?_; go_big_quiet_on)
  simp only [pickOps, nth, Act.put, List.setIfInBounds_toArray, List.set_cons_succ, List.set_cons_zero]
  (repeat (go_big_quiet_step (fail)))
  (go_big_quiet_want; refine quiet_row 26 (.tmp 3) rfl rfl ls1 ?_; go_big_quiet_on)
  simp only [pickOps, nth, Act.put, List.setIfInBounds_toArray, List.set_cons_succ, List.set_cons_zero]
  (repeat (go_big_quiet_step (fail)))
  (go_big_quiet_want; refine quiet_row 26 (.tmp 3) rfl rfl ls2 ?_; go_big_quiet_on)
  simp only [pickOps, nth, Act.put, List.setIfInBounds_toArray, List.set_cons_succ, List.set_cons_zero]
  (repeat (go_big_quiet_step (fail)))
  (go_big_quiet_want; refine quiet_row 26 (.tmp 4) rfl rfl ls3 ?_; go_big_quiet_on)
  simp only [pickOps, nth, Act.put, List.setIfInBounds_toArray, List.set_cons_succ, List.set_cons_zero]
  (repeat (go_big_quiet_step (fail)))
  refine wpQuiet_nil ?_
  clear ls0 ls1 ls2 ls3
  go_wp2_with (refine (HYX.out _ HB13.out).mono ?_; rintro e w14 ⟨rfl, hb⟩; have HBs := Lib.hid hb; have HB14 := Lib.hid (bel_then HB13.out hb); have HGX14 := Lib.hid (HGX13.out.bel hb); have HGY14 := Lib.hid (HGY13.out.bel hb); clear hb)
  refine ⟨HBs.out, mix_step ?_⟩
  simp only [pickOps, nth, Act.put, List.setIfInBounds_toArray, List.set_cons_succ, List.set_cons_zero]
  (repeat (go_big_quiet_step (fail)))
  refine wpQuiet_nil ?_
  go_wp2_with (refine (HLS.out _ HB14.out).mono ?_; rintro e w15 ⟨rfl, hb⟩; have HBs := Lib.hid hb; have HB15 := Lib.hid (bel_then HB14.out hb); have HGX15 := Lib.hid (HGX14.out.bel hb); have HGY15 := Lib.hid (HGY14.out.bel hb); clear hb)
  refine ⟨HBs.out, mix_step ?_⟩
  have ls0 := fun y => (HGX15.out.laterB y).loads (P := Try.prog) Try.underlying26 rfl (by kernel_rfl)
  have ls1 := fun y => (HGX15.out.laterB y).loads (P := Try.prog) Try.underlying26 rfl (by kernel_rfl)
  have ls2 := fun y => (HGX15.out.laterB y).loads (P := Try.prog) Try.underlying26 rfl (by kernel_rfl)
  simp only [pickOps, nth, Act.put, List.setIfInBounds_toArray, List.set_cons_succ, List.set_cons_zero]
  (repeat (go_big_quiet_step (fail)))
  (go_big_quiet_want; refine quiet_row 26 (.tmp 3) rfl rfl ls0 ?_; go_big_quiet_on)
  simp only [pickOps, nth, Act.put, List.setIfInBounds_toArray, List.set_cons_succ, List.set_cons_zero]
  (repeat (go_big_quiet_step (fail)))
  (go_big_quiet_want; refine quiet_row 26 (.tmp 3) rfl rfl ls1 ?_; go_big_quiet_on)
  simp only [pickOps, nth, Act.put, List.setIfInBounds_toArray, List.set_cons_succ, List.set_cons_zero]
  (repeat (go_big_quiet_step (fail)))
  (go_big_quiet_want; refine quiet_row 26 (.tmp 3) rfl rfl ls2 ?_; go_big_quiet_on)
  simp only [pickOps, nth, Act.put, List.setIfInBounds_toArray, List.set_cons_succ, List.set_cons_zero]
  (repeat (go_big_quiet_step (fail)))
  refine wpQuiet_nil ?_
  clear ls0 ls1 ls2
  go_wp2_with (refine (HXX.out _ HB15.out).mono ?_; rintro e w16 ⟨rfl, hb⟩; have HBs := Lib.hid hb; have HB16 := Lib.hid (bel_then HB15.out hb); have HGX16 := Lib.hid (HGX15.out.bel hb); have HGY16 := Lib.hid (HGY15.out.bel hb); clear hb)
  refine ⟨HBs.out, mix_step ?_⟩
  simp only [pickOps, nth, Act.put, List.setIfInBounds_toArray, List.set_cons_succ, List.set_cons_zero]
  (repeat (go_big_quiet_step (fail)))
  refine wpQuiet_nil ?_
  go_wp2_with (refine (HMX.out _ HB16.out).mono ?_; rintro e w17 ⟨rfl, hb⟩; have HBs := Lib.hid hb; have HB17 := Lib.hid (bel_then HB16.out hb); have HGX17 := Lib.hid (HGX16.out.bel hb); have HGY17 := Lib.hid (HGY16.out.bel hb); clear hb)
  refine ⟨HBs.out, mix_step ?_⟩
  simp only [pickOps, nth, Act.put, List.setIfInBounds_toArray, List.set_cons_succ, List.set_cons_zero]
  (repeat (go_big_quiet_step (fail)))
  refine wpQuiet_nil ?_
  go_wp2_with (refine (HF.out _).mono ?_; rintro e w18 ⟨rfl, hb⟩; have HBs := Lib.hid hb; have HB18 := Lib.hid (bel_then HB17.out hb); have HGX18 := Lib.hid (HGX17.out.bel hb); have HGY18 := Lib.hid (HGY17.out.bel hb); clear hb)
  refine ⟨HBs.out, mix_step ?_⟩
  simp only [pickOps, nth, Act.put, List.setIfInBounds_toArray, List.set_cons_succ, List.set_cons_zero]
  (repeat (go_big_quiet_step (fail)))
  refine wpQuiet_nil ?_
  go_wp2_with (refine (known_walk _).mono ?_; rintro e w19 ⟨rfl, hb⟩; have HBs := Lib.hid hb; have HB19 := Lib.hid (bel_then HB18.out hb); have HGX19 := Lib.hid (HGX18.out.bel hb); have HGY19 := Lib.hid (HGY18.out.bel hb); clear hb)
  refine ⟨HBs.out, mix_end ?_⟩
  simp only [pickOps, nth, Act.put, List.setIfInBounds_toArray, List.set_cons_succ, List.set_cons_zero]
  (repeat (go_big_quiet_step (fail)))
  refine wpQuiet_nil ?_
  go_wp2_with (fail)
  go_ret
  exact ⟨rfl, HB19.out⟩
end Go.Proofs.Ytfnibpkojhgflaa
