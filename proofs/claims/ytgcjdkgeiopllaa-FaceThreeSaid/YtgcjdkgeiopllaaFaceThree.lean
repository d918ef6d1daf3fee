/- Contract: FaceThree. Printed by bin/gen_facethree.py. -/
import Derived.Test.YtgcjdkgeiopllaaFaceFew
import Derived.Test.YtgcjdkgeiopllaaFaceKnown20
namespace Go.Proofs.Ytgcjdkgeiopllaa
set_option linter.unusedVariables false
set_option linter.unusedSimpArgs false
open Go.RowKit

set_option maxRecDepth 100000 in
set_option maxHeartbeats 8000000 in
theorem three_walk (x y z : Fc) (w : World) (hx : x.Rd w) (hy : y.Rd w) (hz : z.Rd w) :
    Calls Try.prog 3 #[x.val, y.val, z.val] w fun e w' => e = .returned (.bool true) ∧ Below w.heap.size w w' := by
  have HF1 : Hid (∀ W, Below w.heap.size w W → Calls Try.prog 7 #[x.val, y.val] W fun e w' => e = .returned (.bool (fewF x.d y.d)) ∧ Below W.heap.size W w') := Lib.hid (fun W k => few_walk x y W (hx.bel k) (hy.bel k))
  have HF2 : Hid (∀ W, Below w.heap.size w W → Calls Try.prog 7 #[z.val, z.val] W fun e w' => e = .returned (.bool (fewF z.d z.d)) ∧ Below W.heap.size W w') := Lib.hid (fun W k => few_walk z z W (hz.bel k) (hz.bel k))
  have HP : Hid (∀ W, Below w.heap.size w W → Calls Try.prog 9 #[x.val, y.val] W fun e w' => e = .returned (.bool (showsB x.d y.d)) ∧ Below W.heap.size W w') := Lib.hid (fun W k => shows_walk x y W (hx.bel k) (hy.bel k))
  have HQ : Hid (∀ W, Below w.heap.size w W → Calls Try.prog 9 #[y.val, z.val] W fun e w' => e = .returned (.bool (showsB y.d z.d)) ∧ Below W.heap.size W w') := Lib.hid (fun W k => shows_walk y z W (hy.bel k) (hz.bel k))
  have HR : Hid (∀ W, Below w.heap.size w W → Calls Try.prog 9 #[x.val, z.val] W fun e w' => e = .returned (.bool (showsB x.d z.d)) ∧ Below W.heap.size W w') := Lib.hid (fun W k => shows_walk x z W (hx.bel k) (hz.bel k))
  have HTH := Lib.hid (three x.d y.d z.d)
  clear hx hy hz
  obtain ⟨F1, hF1⟩ : ∃ v, v = fewF x.d y.d := ⟨_, rfl⟩
  rw [← hF1] at HF1
  clear hF1
  obtain ⟨F2, hF2⟩ : ∃ v, v = fewF z.d z.d := ⟨_, rfl⟩
  rw [← hF2] at HF2
  clear hF2
  obtain ⟨P, hP⟩ : ∃ v, v = showsB x.d y.d := ⟨_, rfl⟩
  rw [← hP] at HP HTH
  clear hP
  obtain ⟨Q, hQ⟩ : ∃ v, v = showsB y.d z.d := ⟨_, rfl⟩
  rw [← hQ] at HQ HTH
  clear hQ
  obtain ⟨R, hR⟩ : ∃ v, v = showsB x.d z.d := ⟨_, rfl⟩
  rw [← hR] at HR HTH
  clear hR
  obtain ⟨xn, ⟨xa1, xc1, xl1⟩, ⟨xa2, xc2, xl2⟩, ⟨xa3, xc3, xl3⟩⟩ := x
  obtain ⟨yn, ⟨ya1, yc1, yl1⟩, ⟨ya2, yc2, yl2⟩, ⟨ya3, yc3, yl3⟩⟩ := y
  obtain ⟨zn, ⟨za1, zc1, zl1⟩, ⟨za2, zc2, zl2⟩, ⟨za3, zc3, zl3⟩⟩ := z
  replace HF1 : Hid (∀ W, Below w.heap.size w W → Calls Try.prog 7 #[.agg #[.string xn, .slice xa1 xl1.length xc1, .slice xa2 xl2.length xc2, .slice xa3 xl3.length xc3], .agg #[.string yn, .slice ya1 yl1.length yc1, .slice ya2 yl2.length yc2, .slice ya3 yl3.length yc3]] W fun e w' => e = .returned (.bool F1) ∧ Below W.heap.size W w') := HF1
  replace HF2 : Hid (∀ W, Below w.heap.size w W → Calls Try.prog 7 #[.agg #[.string zn, .slice za1 zl1.length zc1, .slice za2 zl2.length zc2, .slice za3 zl3.length zc3], .agg #[.string zn, .slice za1 zl1.length zc1, .slice za2 zl2.length zc2, .slice za3 zl3.length zc3]] W fun e w' => e = .returned (.bool F2) ∧ Below W.heap.size W w') := HF2
  replace HP : Hid (∀ W, Below w.heap.size w W → Calls Try.prog 9 #[.agg #[.string xn, .slice xa1 xl1.length xc1, .slice xa2 xl2.length xc2, .slice xa3 xl3.length xc3], .agg #[.string yn, .slice ya1 yl1.length yc1, .slice ya2 yl2.length yc2, .slice ya3 yl3.length yc3]] W fun e w' => e = .returned (.bool P) ∧ Below W.heap.size W w') := HP
  replace HQ : Hid (∀ W, Below w.heap.size w W → Calls Try.prog 9 #[.agg #[.string yn, .slice ya1 yl1.length yc1, .slice ya2 yl2.length yc2, .slice ya3 yl3.length yc3], .agg #[.string zn, .slice za1 zl1.length zc1, .slice za2 zl2.length zc2, .slice za3 zl3.length zc3]] W fun e w' => e = .returned (.bool Q) ∧ Below W.heap.size W w') := HQ
  replace HR : Hid (∀ W, Below w.heap.size w W → Calls Try.prog 9 #[.agg #[.string xn, .slice xa1 xl1.length xc1, .slice xa2 xl2.length xc2, .slice xa3 xl3.length xc3], .agg #[.string zn, .slice za1 zl1.length zc1, .slice za2 zl2.length zc2, .slice za3 zl3.length zc3]] W fun e w' => e = .returned (.bool R) ∧ Below W.heap.size W w') := HR
  show Calls _ _ #[.agg #[.string xn, .slice xa1 xl1.length xc1, .slice xa2 xl2.length xc2, .slice xa3 xl3.length xc3], .agg #[.string yn, .slice ya1 yl1.length yc1, .slice ya2 yl2.length yc2, .slice ya3 yl3.length yc3], .agg #[.string zn, .slice za1 zl1.length zc1, .slice za2 zl2.length zc2, .slice za3 zl3.length zc3]] w _
  have HB0 := Lib.hid (bel3 w (.cells #[.string xn, .slice xa1 xl1.length xc1, .slice xa2 xl2.length xc2, .slice xa3 xl3.length xc3] 26) (.cells #[.string yn, .slice ya1 yl1.length yc1, .slice ya2 yl2.length yc2, .slice ya3 yl3.length yc3] 26) (.cells #[.string zn, .slice za1 zl1.length zc1, .slice za2 zl2.length zc2, .slice za3 zl3.length zc3] 26))
  have hSP := (Sep.nil w).alloc3 #[.string xn, .slice xa1 xl1.length xc1, .slice xa2 xl2.length xc2, .slice xa3 xl3.length xc3] #[.string yn, .slice ya1 yl1.length yc1, .slice ya2 yl2.length yc2, .slice ya3 yl3.length yc3] #[.string zn, .slice za1 zl1.length zc1, .slice za2 zl2.length zc2, .slice za3 zl3.length zc3] 26 26 26
  have HGX := Lib.hid (hSP.at 2 rfl)
  have HGY := Lib.hid (hSP.at 1 rfl)
  have HGZ := Lib.hid (hSP.at 0 rfl)
  clear hSP
  cases F1
  · skip
    go_enter Try.func3, Try.ntmps3
    have fl1 : True := trivial
    have fl2 : True := trivial
    have fl3 : True := trivial
    have fl4 : True := trivial
    go_wp2_with (first | (have _f := fl1; refine load_sep (cs := #[.string xn, .slice xa1 xl1.length xc1, .slice xa2 xl2.length xc2, .slice xa3 xl3.length xc3]) rfl 26 (.tmp 3) rfl (Sep.one HGX.out) 0 rfl rfl Try.underlying26 rfl (by kernel_rfl) ?_; clear _f fl1) | (have _f := fl2; refine load_sep (cs := #[.string yn, .slice ya1 yl1.length yc1, .slice ya2 yl2.length yc2, .slice ya3 yl3.length yc3]) rfl 26 (.tmp 4) rfl (Sep.one HGY.out) 0 rfl rfl Try.underlying26 rfl (by kernel_rfl) ?_; clear _f fl2) | (have _f := fl3; refine (HF1.out _ HB0.out).mono ?_; rintro e w1 ⟨rfl, hb⟩; have HB1 := Lib.hid (bel_then HB0.out hb); have HGX1 := Lib.hid (HGX.out.bel hb); have HGY1 := Lib.hid (HGY.out.bel hb); have HGZ1 := Lib.hid (HGZ.out.bel hb); clear hb; clear _f fl3) | (have _f := fl4; refine (known20_walk _).mono ?_; rintro e w2 ⟨rfl, hb⟩; have HB2 := Lib.hid (bel_then HB1.out hb); have HGX2 := Lib.hid (HGX1.out.bel hb); have HGY2 := Lib.hid (HGY1.out.bel hb); have HGZ2 := Lib.hid (HGZ1.out.bel hb); clear hb; clear _f fl4))
    go_ret
    exact ⟨rfl, HB2.out⟩
  cases F2
  · skip
    go_enter Try.func3, Try.ntmps3
    have fl5 : True := trivial
    have fl6 : True := trivial
    have fl7 : True := trivial
    have fl8 : True := trivial
    have fl9 : True := trivial
    have fl10 : True := trivial
    have fl11 : True := trivial
    go_wp2_with (first | (have _f := fl5; refine load_sep (cs := #[.string xn, .slice xa1 xl1.length xc1, .slice xa2 xl2.length xc2, .slice xa3 xl3.length xc3]) rfl 26 (.tmp 3) rfl (Sep.one HGX.out) 0 rfl rfl Try.underlying26 rfl (by kernel_rfl) ?_; clear _f fl5) | (have _f := fl6; refine load_sep (cs := #[.string yn, .slice ya1 yl1.length yc1, .slice ya2 yl2.length yc2, .slice ya3 yl3.length yc3]) rfl 26 (.tmp 4) rfl (Sep.one HGY.out) 0 rfl rfl Try.underlying26 rfl (by kernel_rfl) ?_; clear _f fl6) | (have _f := fl7; refine (HF1.out _ HB0.out).mono ?_; rintro e w3 ⟨rfl, hb⟩; have HB3 := Lib.hid (bel_then HB0.out hb); have HGX3 := Lib.hid (HGX.out.bel hb); have HGY3 := Lib.hid (HGY.out.bel hb); have HGZ3 := Lib.hid (HGZ.out.bel hb); clear hb; clear _f fl7) | (have _f := fl8; refine guard_off (by kernel_rfl) ?_; refine load_sep (cs := #[.string zn, .slice za1 zl1.length zc1, .slice za2 zl2.length zc2, .slice za3 zl3.length zc3]) rfl 26 (.tmp 5) rfl (Sep.one HGZ3.out) 0 rfl rfl Try.underlying26 rfl (by kernel_rfl) ?_; clear _f fl8) | (have _f := fl9; refine guard_off (by kernel_rfl) ?_; refine load_sep (cs := #[.string zn, .slice za1 zl1.length zc1, .slice za2 zl2.length zc2, .slice za3 zl3.length zc3]) rfl 26 (.tmp 5) rfl (Sep.one HGZ3.out) 0 rfl rfl Try.underlying26 rfl (by kernel_rfl) ?_; clear _f fl9) | (have _f := fl10; refine (HF2.out _ HB3.out).mono ?_; rintro e w4 ⟨rfl, hb⟩; have HB4 := Lib.hid (bel_then HB3.out hb); have HGX4 := Lib.hid (HGX3.out.bel hb); have HGY4 := Lib.hid (HGY3.out.bel hb); have HGZ4 := Lib.hid (HGZ3.out.bel hb); clear hb; clear _f fl10) | (have _f := fl11; refine (known20_walk _).mono ?_; rintro e w5 ⟨rfl, hb⟩; have HB5 := Lib.hid (bel_then HB4.out hb); have HGX5 := Lib.hid (HGX4.out.bel hb); have HGY5 := Lib.hid (HGY4.out.bel hb); have HGZ5 := Lib.hid (HGZ4.out.bel hb); clear hb; clear _f fl11))
    go_ret
    exact ⟨rfl, HB5.out⟩
  go_enter Try.func3, Try.ntmps3
  have fl12 : True := trivial
  have fl13 : True := trivial
  have fl14 : True := trivial
  have fl15 : True := trivial
  have fl16 : True := trivial
  have fl17 : True := trivial
  go_wp2_with (first | (have _f := fl12; refine load_sep (cs := #[.string xn, .slice xa1 xl1.length xc1, .slice xa2 xl2.length xc2, .slice xa3 xl3.length xc3]) rfl 26 (.tmp 3) rfl (Sep.one HGX.out) 0 rfl rfl Try.underlying26 rfl (by kernel_rfl) ?_; clear _f fl12) | (have _f := fl13; refine load_sep (cs := #[.string yn, .slice ya1 yl1.length yc1, .slice ya2 yl2.length yc2, .slice ya3 yl3.length yc3]) rfl 26 (.tmp 4) rfl (Sep.one HGY.out) 0 rfl rfl Try.underlying26 rfl (by kernel_rfl) ?_; clear _f fl13) | (have _f := fl14; refine (HF1.out _ HB0.out).mono ?_; rintro e w6 ⟨rfl, hb⟩; have HB6 := Lib.hid (bel_then HB0.out hb); have HGX6 := Lib.hid (HGX.out.bel hb); have HGY6 := Lib.hid (HGY.out.bel hb); have HGZ6 := Lib.hid (HGZ.out.bel hb); clear hb; clear _f fl14) | (have _f := fl15; refine guard_off (by kernel_rfl) ?_; refine load_sep (cs := #[.string zn, .slice za1 zl1.length zc1, .slice za2 zl2.length zc2, .slice za3 zl3.length zc3]) rfl 26 (.tmp 5) rfl (Sep.one HGZ6.out) 0 rfl rfl Try.underlying26 rfl (by kernel_rfl) ?_; clear _f fl15) | (have _f := fl16; refine guard_off (by kernel_rfl) ?_; refine load_sep (cs := #[.string zn, .slice za1 zl1.length zc1, .slice za2 zl2.length zc2, .slice za3 zl3.length zc3]) rfl 26 (.tmp 5) rfl (Sep.one HGZ6.out) 0 rfl rfl Try.underlying26 rfl (by kernel_rfl) ?_; clear _f fl16) | (have _f := fl17; refine (HF2.out _ HB6.out).mono ?_; rintro e w7 ⟨rfl, hb⟩; have HB7 := Lib.hid (bel_then HB6.out hb); have HGX7 := Lib.hid (HGX6.out.bel hb); have HGY7 := Lib.hid (HGY6.out.bel hb); have HGZ7 := Lib.hid (HGZ6.out.bel hb); clear hb; clear _f fl17))
  refine wp_region_mix' [([0, 1, 3, 4, 6, 7], 2), ([], 5), ([], 8)] [9, 10, 11] (by kernel_rfl) (by kernel_rfl) (fun _ _ d _ _ h => by cases d <;> exact h) ?_
  intro wd hbd
  have HB8 := Lib.hid (bel_then HB7.out hbd)
  have HGX8 := Lib.hid (HGX7.out.bel hbd)
  have HGY8 := Lib.hid (HGY7.out.bel hbd)
  have HGZ8 := Lib.hid (HGZ7.out.bel hbd)
  clear hbd
  refine mix_step ?_
  have ls0 := fun y => (HGX8.out.laterB y).loads (P := Try.prog) Try.underlying26 rfl (by kernel_rfl)
  have ls1 := fun y => (HGY8.out.laterB y).loads (P := Try.prog) Try.underlying26 rfl (by kernel_rfl)
  have ls2 := fun y => (HGY8.out.laterB y).loads (P := Try.prog) Try.underlying26 rfl (by kernel_rfl)
  have ls3 := fun y => (HGZ8.out.laterB y).loads (P := Try.prog) Try.underlying26 rfl (by kernel_rfl)
  have ls4 := fun y => (HGX8.out.laterB y).loads (P := Try.prog) Try.underlying26 rfl (by kernel_rfl)
  have ls5 := fun y => (HGZ8.out.laterB y).loads (P := Try.prog) Try.underlying26 rfl (by kernel_rfl)
  simp only [pickOps, nth, Act.put, List.setIfInBounds_toArray, List.set_cons_succ, List.set_cons_zero]
  (repeat (go_big_quiet_step (fail)))
  (go_big_quiet_want; refine quiet_row 26 (.tmp 3) rfl rfl ls0 ?_; go_big_quiet_on)
  simp only [pickOps, nth, Act.put, List.setIfInBounds_toArray, List.set_cons_succ, List.set_cons_zero]
  (repeat (go_big_quiet_step (fail)))
  (go_big_quiet_want; refine quiet_row 26 (.tmp 4) rfl rfl ls1 ?_; go_big_quiet_on)
  simp only [pickOps, nth, Act.put, List.setIfInBounds_toArray, List.set_cons_succ, List.set_cons_zero]
  (repeat (go_big_quiet_step (fail)))
  (go_big_quiet_want; refine quiet_row 26 (.tmp 4) rfl rfl ls2 ?_; go_big_quiet_on)
  simp only [pickOps, nth, Act.put, List.setIfInBounds_toArray, List.set_cons_succ, List.set_cons_zero]
  (repeat (go_big_quiet_step (fail)))
  (go_big_quiet_want; refine quiet_row 26 (.tmp 5) rfl rfl ls3 ?_; go_big_quiet_on)
  simp only [pickOps, nth, Act.put, List.setIfInBounds_toArray, List.set_cons_succ, List.set_cons_zero]
  (repeat (go_big_quiet_step (fail)))
  (go_big_quiet_want; refine quiet_row 26 (.tmp 3) rfl rfl ls4 ?_; go_big_quiet_on)
  simp only [pickOps, nth, Act.put, List.setIfInBounds_toArray, List.set_cons_succ, List.set_cons_zero]
  (repeat (go_big_quiet_step (fail)))
  (go_big_quiet_want; refine quiet_row 26 (.tmp 5) rfl rfl ls5 ?_; go_big_quiet_on)
  simp only [pickOps, nth, Act.put, List.setIfInBounds_toArray, List.set_cons_succ, List.set_cons_zero]
  (repeat (go_big_quiet_step (fail)))
  refine wpQuiet_nil ?_
  clear ls0 ls1 ls2 ls3 ls4 ls5
  go_wp2_with (refine (HP.out _ HB8.out).mono ?_; rintro e w9 ⟨rfl, hb⟩; have HBs := Lib.hid hb; have HB9 := Lib.hid (bel_then HB8.out hb); have HGX9 := Lib.hid (HGX8.out.bel hb); have HGY9 := Lib.hid (HGY8.out.bel hb); have HGZ9 := Lib.hid (HGZ8.out.bel hb); clear hb)
  refine ⟨HBs.out, mix_step ?_⟩
  simp only [pickOps, nth, Act.put, List.setIfInBounds_toArray, List.set_cons_succ, List.set_cons_zero]
  (repeat (go_big_quiet_step (fail)))
  refine wpQuiet_nil ?_
  go_wp2_with (refine (HQ.out _ HB9.out).mono ?_; rintro e w10 ⟨rfl, hb⟩; have HBs := Lib.hid hb; have HB10 := Lib.hid (bel_then HB9.out hb); have HGX10 := Lib.hid (HGX9.out.bel hb); have HGY10 := Lib.hid (HGY9.out.bel hb); have HGZ10 := Lib.hid (HGZ9.out.bel hb); clear hb)
  refine ⟨HBs.out, mix_step ?_⟩
  simp only [pickOps, nth, Act.put, List.setIfInBounds_toArray, List.set_cons_succ, List.set_cons_zero]
  (repeat (go_big_quiet_step (fail)))
  refine wpQuiet_nil ?_
  go_wp2_with (refine (HR.out _ HB10.out).mono ?_; rintro e w11 ⟨rfl, hb⟩; have HBs := Lib.hid hb; have HB11 := Lib.hid (bel_then HB10.out hb); have HGX11 := Lib.hid (HGX10.out.bel hb); have HGY11 := Lib.hid (HGY10.out.bel hb); have HGZ11 := Lib.hid (HGZ10.out.bel hb); clear hb)
  refine ⟨HBs.out, mix_end ?_⟩
  simp only [pickOps, nth, Act.put, List.setIfInBounds_toArray, List.set_cons_succ, List.set_cons_zero]
  (repeat (go_big_quiet_step (fail)))
  refine wpQuiet_nil ?_
  have fl18 : True := trivial
  have HTT := HTH.out
  clear HTH HP HQ HR HF1 HF2
  cases P <;> cases Q <;> cases R <;> first | (exfalso; revert HTT; decide) | (clear HTT; go_wp2_with (first | (have _f := fl18; refine (known20_walk _).mono ?_; rintro e w12 ⟨rfl, hb⟩; have HB12 := Lib.hid (bel_then HB11.out hb); have HGX12 := Lib.hid (HGX11.out.bel hb); have HGY12 := Lib.hid (HGY11.out.bel hb); have HGZ12 := Lib.hid (HGZ11.out.bel hb); clear hb; clear _f fl18)); go_ret; exact ⟨rfl, HB12.out⟩)
end Go.Proofs.Ytgcjdkgeiopllaa
