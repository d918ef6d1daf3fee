/- Contract: law 20's few. Printed by bin/gen_facethree.py. -/
import Derived.Test.YtgcjdkgeiopllaaFaceA
namespace Go.Proofs.Ytgcjdkgeiopllaa
set_option linter.unusedVariables false
set_option linter.unusedSimpArgs false
open Go.RowKit

def fewF (x y : FD) : Bool := !muchF x && !muchF y && decide (x.types.length ≤ 12 ∧ y.types.length ≤ 12 ∧ x.objs.length ≤ 30 ∧ y.objs.length ≤ 30)
theorem few_no {x y : FD} (h : ¬ (muchF x = false ∧ muchF y = false ∧ x.types.length ≤ 12 ∧ y.types.length ≤ 12 ∧ x.objs.length ≤ 30 ∧ y.objs.length ≤ 30)) : fewF x y = false := by
  unfold fewF
  cases h1 : muchF x
  · cases h2 : muchF y
    · rw [decide_eq_false (fun q => h ⟨h1, h2, q⟩)]; rfl
    · rfl
  · rfl
theorem few_yes {x y : FD} (h1 : muchF x = false) (h2 : muchF y = false) (h : x.types.length ≤ 12 ∧ y.types.length ≤ 12 ∧ x.objs.length ≤ 30 ∧ y.objs.length ≤ 30) : fewF x y = true := by
  unfold fewF; rw [h1, h2, decide_eq_true h]; rfl
set_option maxRecDepth 100000 in
set_option maxHeartbeats 4000000 in
theorem few_walk (x y : Fc) (w : World) (hx : x.Rd w) (hy : y.Rd w) :
    Calls Try.prog 7 #[x.val, y.val] w fun e w' => e = .returned (.bool (fewF x.d y.d)) ∧ Below w.heap.size w w' := by
  have HMX : Hid (∀ W, Below w.heap.size w W → Calls Try.prog 19 #[x.val] W fun e w' => e = .returned (.bool (muchF x.d)) ∧ Below W.heap.size W w') := Lib.hid (fun W k => muchF_walk x W (hx.bel k))
  have HMY : Hid (∀ W, Below w.heap.size w W → Calls Try.prog 19 #[y.val] W fun e w' => e = .returned (.bool (muchF y.d)) ∧ Below W.heap.size W w') := Lib.hid (fun W k => muchF_walk y W (hy.bel k))
  have i2 := hx.types.len
  have j2 := hy.types.len
  have i3 := hx.objs.len
  have j3 := hy.objs.len
  have e1 : x.d.types.length = x.types.l.length ∧ y.d.types.length = y.types.l.length ∧ x.d.objs.length = x.objs.l.length ∧ y.d.objs.length = y.objs.l.length := ⟨List.length_map .., List.length_map .., List.length_map .., List.length_map ..⟩
  have HNO : Hid (¬ (muchF x.d = false ∧ muchF y.d = false ∧ x.types.l.length ≤ 12 ∧ y.types.l.length ≤ 12 ∧ x.objs.l.length ≤ 30 ∧ y.objs.l.length ≤ 30) → fewF x.d y.d = false) := Lib.hid (fun h => few_no (by rw [e1.1, e1.2.1, e1.2.2.1, e1.2.2.2]; exact h))
  have HYS : Hid (muchF x.d = false → muchF y.d = false → (x.types.l.length ≤ 12 ∧ y.types.l.length ≤ 12 ∧ x.objs.l.length ≤ 30 ∧ y.objs.l.length ≤ 30) → fewF x.d y.d = true) := Lib.hid (fun a b h => few_yes a b (by rw [e1.1, e1.2.1, e1.2.2.1, e1.2.2.2]; exact h))
  clear hx hy e1
  obtain ⟨R, hR⟩ : ∃ R, R = fewF x.d y.d := ⟨_, rfl⟩
  obtain ⟨MX, hX⟩ : ∃ R, R = muchF x.d := ⟨_, rfl⟩
  obtain ⟨MY, hY⟩ : ∃ R, R = muchF y.d := ⟨_, rfl⟩
  rw [← hR] at HNO HYS ⊢
  rw [← hX] at HNO HYS HMX
  rw [← hY] at HNO HYS HMY
  clear hR hX hY
  obtain ⟨xn, ⟨xa1, xc1, xl1⟩, ⟨xa2, xc2, xl2⟩, ⟨xa3, xc3, xl3⟩⟩ := x
  obtain ⟨yn, ⟨ya1, yc1, yl1⟩, ⟨ya2, yc2, yl2⟩, ⟨ya3, yc3, yl3⟩⟩ := y
  dsimp only at i2 j2 i3 j3 HNO HYS
  replace HMX : Hid (∀ W, Below w.heap.size w W → Calls Try.prog 19 #[.agg #[.string xn, .slice xa1 xl1.length xc1, .slice xa2 xl2.length xc2, .slice xa3 xl3.length xc3]] W fun e w' => e = .returned (.bool MX) ∧ Below W.heap.size W w') := HMX
  replace HMY : Hid (∀ W, Below w.heap.size w W → Calls Try.prog 19 #[.agg #[.string yn, .slice ya1 yl1.length yc1, .slice ya2 yl2.length yc2, .slice ya3 yl3.length yc3]] W fun e w' => e = .returned (.bool MY) ∧ Below W.heap.size W w') := HMY
  show Calls _ _ #[.agg #[.string xn, .slice xa1 xl1.length xc1, .slice xa2 xl2.length xc2, .slice xa3 xl3.length xc3], .agg #[.string yn, .slice ya1 yl1.length yc1, .slice ya2 yl2.length yc2, .slice ya3 yl3.length yc3]] w _
  have HB0 := Lib.hid (bel2 w (.cells #[.string xn, .slice xa1 xl1.length xc1, .slice xa2 xl2.length xc2, .slice xa3 xl3.length xc3] 26) (.cells #[.string yn, .slice ya1 yl1.length yc1, .slice ya2 yl2.length yc2, .slice ya3 yl3.length yc3] 26))
  have hSP := (Sep.nil w).alloc2 #[.string xn, .slice xa1 xl1.length xc1, .slice xa2 xl2.length xc2, .slice xa3 xl3.length xc3] #[.string yn, .slice ya1 yl1.length yc1, .slice ya2 yl2.length yc2, .slice ya3 yl3.length yc3] 26 26
  have HGX := Lib.hid (hSP.at 1 rfl)
  have HGY := Lib.hid (hSP.at 0 rfl)
  clear hSP
  cases MX
  rotate_left
  · obtain rfl : R = false := HNO.out (fun q => by cases q.1)
    go_enter Try.func7, Try.ntmps7
    have fl1 : True := trivial
    have fl2 : True := trivial
    go_wp2_with (first | (have _f := fl1; refine load_sep (cs := #[.string xn, .slice xa1 xl1.length xc1, .slice xa2 xl2.length xc2, .slice xa3 xl3.length xc3]) rfl 26 (.tmp 2) rfl (Sep.one HGX.out) 0 rfl rfl Try.underlying26 rfl (by kernel_rfl) ?_; clear _f fl1) | (have _f := fl2; refine (HMX.out _ HB0.out).mono ?_; rintro e w1 ⟨rfl, hb⟩; have HB1 := Lib.hid (bel_then HB0.out hb); have HGX1 := Lib.hid (HGX.out.bel hb); have HGY1 := Lib.hid (HGY.out.bel hb); clear hb; clear _f fl2))
    go_ret
    exact ⟨rfl, HB1.out⟩
  cases MY
  rotate_left
  · obtain rfl : R = false := HNO.out (fun q => by cases q.2.1)
    go_enter Try.func7, Try.ntmps7
    have fl3 : True := trivial
    have fl4 : True := trivial
    have fl5 : True := trivial
    have fl6 : True := trivial
    go_wp2_with (first | (have _f := fl3; refine load_sep (cs := #[.string xn, .slice xa1 xl1.length xc1, .slice xa2 xl2.length xc2, .slice xa3 xl3.length xc3]) rfl 26 (.tmp 2) rfl (Sep.one HGX.out) 0 rfl rfl Try.underlying26 rfl (by kernel_rfl) ?_; clear _f fl3) | (have _f := fl4; refine (HMX.out _ HB0.out).mono ?_; rintro e w2 ⟨rfl, hb⟩; have HB2 := Lib.hid (bel_then HB0.out hb); have HGX2 := Lib.hid (HGX.out.bel hb); have HGY2 := Lib.hid (HGY.out.bel hb); clear hb; clear _f fl4) | (have _f := fl5; refine guard_off (by kernel_rfl) ?_; refine load_sep (cs := #[.string yn, .slice ya1 yl1.length yc1, .slice ya2 yl2.length yc2, .slice ya3 yl3.length yc3]) rfl 26 (.tmp 3) rfl (Sep.one HGY2.out) 0 rfl rfl Try.underlying26 rfl (by kernel_rfl) ?_; clear _f fl5) | (have _f := fl6; refine (HMY.out _ HB2.out).mono ?_; rintro e w3 ⟨rfl, hb⟩; have HB3 := Lib.hid (bel_then HB2.out hb); have HGX3 := Lib.hid (HGX2.out.bel hb); have HGY3 := Lib.hid (HGY2.out.bel hb); have cx2 := (HGX3.out.cell 2).trans (show _ = some (.slice xa2 xl2.length xc2) from rfl); have cx3 := (HGX3.out.cell 3).trans (show _ = some (.slice xa3 xl3.length xc3) from rfl); have cy2 := (HGY3.out.cell 2).trans (show _ = some (.slice ya2 yl2.length yc2) from rfl); have cy3 := (HGY3.out.cell 3).trans (show _ = some (.slice ya3 yl3.length yc3) from rfl); clear hb; clear _f fl6))
    go_ret
    exact ⟨rfl, HB3.out⟩
  by_cases a1 : xl2.length ≤ 12
  rotate_left
  · have h1 : decide ((xl2.length : Int) ≤ 12) = false := decide_eq_false (by omega)
    have h2 : decide (xl2.length ≤ 12) = false := decide_eq_false a1
    obtain rfl : R = false := HNO.out (fun q => a1 q.2.2.1)
    clear a1
    go_enter Try.func7, Try.ntmps7
    have fl7 : True := trivial
    have fl8 : True := trivial
    have fl9 : True := trivial
    have fl10 : True := trivial
    go_wp2_with (first | (have _f := fl7; refine load_sep (cs := #[.string xn, .slice xa1 xl1.length xc1, .slice xa2 xl2.length xc2, .slice xa3 xl3.length xc3]) rfl 26 (.tmp 2) rfl (Sep.one HGX.out) 0 rfl rfl Try.underlying26 rfl (by kernel_rfl) ?_; clear _f fl7) | (have _f := fl8; refine (HMX.out _ HB0.out).mono ?_; rintro e w4 ⟨rfl, hb⟩; have HB4 := Lib.hid (bel_then HB0.out hb); have HGX4 := Lib.hid (HGX.out.bel hb); have HGY4 := Lib.hid (HGY.out.bel hb); clear hb; clear _f fl8) | (have _f := fl9; refine guard_off (by kernel_rfl) ?_; refine load_sep (cs := #[.string yn, .slice ya1 yl1.length yc1, .slice ya2 yl2.length yc2, .slice ya3 yl3.length yc3]) rfl 26 (.tmp 3) rfl (Sep.one HGY4.out) 0 rfl rfl Try.underlying26 rfl (by kernel_rfl) ?_; clear _f fl9) | (have _f := fl10; refine (HMY.out _ HB4.out).mono ?_; rintro e w5 ⟨rfl, hb⟩; have HB5 := Lib.hid (bel_then HB4.out hb); have HGX5 := Lib.hid (HGX4.out.bel hb); have HGY5 := Lib.hid (HGY4.out.bel hb); have cx2 := (HGX5.out.cell 2).trans (show _ = some (.slice xa2 xl2.length xc2) from rfl); have cx3 := (HGX5.out.cell 3).trans (show _ = some (.slice xa3 xl3.length xc3) from rfl); have cy2 := (HGY5.out.cell 2).trans (show _ = some (.slice ya2 yl2.length yc2) from rfl); have cy3 := (HGY5.out.cell 3).trans (show _ = some (.slice ya3 yl3.length yc3) from rfl); clear hb; clear _f fl10))
    go_ret
    exact ⟨rfl, HB5.out⟩
  have ha1 : decide ((xl2.length : Int) ≤ 12) = true := decide_eq_true (by omega)
  have ga1 : decide (xl2.length ≤ 12) = true := decide_eq_true a1
  have Aa1 := Lib.hid a1
  clear a1
  by_cases a2 : yl2.length ≤ 12
  rotate_left
  · have h1 : decide ((yl2.length : Int) ≤ 12) = false := decide_eq_false (by omega)
    have h2 : decide (yl2.length ≤ 12) = false := decide_eq_false a2
    obtain rfl : R = false := HNO.out (fun q => a2 q.2.2.2.1)
    clear a2
    go_enter Try.func7, Try.ntmps7
    have fl11 : True := trivial
    have fl12 : True := trivial
    have fl13 : True := trivial
    have fl14 : True := trivial
    go_wp2_with (first | (have _f := fl11; refine load_sep (cs := #[.string xn, .slice xa1 xl1.length xc1, .slice xa2 xl2.length xc2, .slice xa3 xl3.length xc3]) rfl 26 (.tmp 2) rfl (Sep.one HGX.out) 0 rfl rfl Try.underlying26 rfl (by kernel_rfl) ?_; clear _f fl11) | (have _f := fl12; refine (HMX.out _ HB0.out).mono ?_; rintro e w6 ⟨rfl, hb⟩; have HB6 := Lib.hid (bel_then HB0.out hb); have HGX6 := Lib.hid (HGX.out.bel hb); have HGY6 := Lib.hid (HGY.out.bel hb); clear hb; clear _f fl12) | (have _f := fl13; refine guard_off (by kernel_rfl) ?_; refine load_sep (cs := #[.string yn, .slice ya1 yl1.length yc1, .slice ya2 yl2.length yc2, .slice ya3 yl3.length yc3]) rfl 26 (.tmp 3) rfl (Sep.one HGY6.out) 0 rfl rfl Try.underlying26 rfl (by kernel_rfl) ?_; clear _f fl13) | (have _f := fl14; refine (HMY.out _ HB6.out).mono ?_; rintro e w7 ⟨rfl, hb⟩; have HB7 := Lib.hid (bel_then HB6.out hb); have HGX7 := Lib.hid (HGX6.out.bel hb); have HGY7 := Lib.hid (HGY6.out.bel hb); have cx2 := (HGX7.out.cell 2).trans (show _ = some (.slice xa2 xl2.length xc2) from rfl); have cx3 := (HGX7.out.cell 3).trans (show _ = some (.slice xa3 xl3.length xc3) from rfl); have cy2 := (HGY7.out.cell 2).trans (show _ = some (.slice ya2 yl2.length yc2) from rfl); have cy3 := (HGY7.out.cell 3).trans (show _ = some (.slice ya3 yl3.length yc3) from rfl); clear hb; clear _f fl14))
    go_ret
    exact ⟨rfl, HB7.out⟩
  have ha2 : decide ((yl2.length : Int) ≤ 12) = true := decide_eq_true (by omega)
  have ga2 : decide (yl2.length ≤ 12) = true := decide_eq_true a2
  have Aa2 := Lib.hid a2
  clear a2
  by_cases a3 : xl3.length ≤ 30
  rotate_left
  · have h1 : decide ((xl3.length : Int) ≤ 30) = false := decide_eq_false (by omega)
    have h2 : decide (xl3.length ≤ 30) = false := decide_eq_false a3
    obtain rfl : R = false := HNO.out (fun q => a3 q.2.2.2.2.1)
    clear a3
    go_enter Try.func7, Try.ntmps7
    have fl15 : True := trivial
    have fl16 : True := trivial
    have fl17 : True := trivial
    have fl18 : True := trivial
    go_wp2_with (first | (have _f := fl15; refine load_sep (cs := #[.string xn, .slice xa1 xl1.length xc1, .slice xa2 xl2.length xc2, .slice xa3 xl3.length xc3]) rfl 26 (.tmp 2) rfl (Sep.one HGX.out) 0 rfl rfl Try.underlying26 rfl (by kernel_rfl) ?_; clear _f fl15) | (have _f := fl16; refine (HMX.out _ HB0.out).mono ?_; rintro e w8 ⟨rfl, hb⟩; have HB8 := Lib.hid (bel_then HB0.out hb); have HGX8 := Lib.hid (HGX.out.bel hb); have HGY8 := Lib.hid (HGY.out.bel hb); clear hb; clear _f fl16) | (have _f := fl17; refine guard_off (by kernel_rfl) ?_; refine load_sep (cs := #[.string yn, .slice ya1 yl1.length yc1, .slice ya2 yl2.length yc2, .slice ya3 yl3.length yc3]) rfl 26 (.tmp 3) rfl (Sep.one HGY8.out) 0 rfl rfl Try.underlying26 rfl (by kernel_rfl) ?_; clear _f fl17) | (have _f := fl18; refine (HMY.out _ HB8.out).mono ?_; rintro e w9 ⟨rfl, hb⟩; have HB9 := Lib.hid (bel_then HB8.out hb); have HGX9 := Lib.hid (HGX8.out.bel hb); have HGY9 := Lib.hid (HGY8.out.bel hb); have cx2 := (HGX9.out.cell 2).trans (show _ = some (.slice xa2 xl2.length xc2) from rfl); have cx3 := (HGX9.out.cell 3).trans (show _ = some (.slice xa3 xl3.length xc3) from rfl); have cy2 := (HGY9.out.cell 2).trans (show _ = some (.slice ya2 yl2.length yc2) from rfl); have cy3 := (HGY9.out.cell 3).trans (show _ = some (.slice ya3 yl3.length yc3) from rfl); clear hb; clear _f fl18))
    go_ret
    exact ⟨rfl, HB9.out⟩
  have ha3 : decide ((xl3.length : Int) ≤ 30) = true := decide_eq_true (by omega)
  have ga3 : decide (xl3.length ≤ 30) = true := decide_eq_true a3
  have Aa3 := Lib.hid a3
  clear a3
  by_cases a4 : yl3.length ≤ 30
  rotate_left
  · have h1 : decide ((yl3.length : Int) ≤ 30) = false := decide_eq_false (by omega)
    have h2 : decide (yl3.length ≤ 30) = false := decide_eq_false a4
    obtain rfl : R = false := HNO.out (fun q => a4 q.2.2.2.2.2)
    clear a4
    go_enter Try.func7, Try.ntmps7
    have fl19 : True := trivial
    have fl20 : True := trivial
    have fl21 : True := trivial
    have fl22 : True := trivial
    go_wp2_with (first | (have _f := fl19; refine load_sep (cs := #[.string xn, .slice xa1 xl1.length xc1, .slice xa2 xl2.length xc2, .slice xa3 xl3.length xc3]) rfl 26 (.tmp 2) rfl (Sep.one HGX.out) 0 rfl rfl Try.underlying26 rfl (by kernel_rfl) ?_; clear _f fl19) | (have _f := fl20; refine (HMX.out _ HB0.out).mono ?_; rintro e w10 ⟨rfl, hb⟩; have HB10 := Lib.hid (bel_then HB0.out hb); have HGX10 := Lib.hid (HGX.out.bel hb); have HGY10 := Lib.hid (HGY.out.bel hb); clear hb; clear _f fl20) | (have _f := fl21; refine guard_off (by kernel_rfl) ?_; refine load_sep (cs := #[.string yn, .slice ya1 yl1.length yc1, .slice ya2 yl2.length yc2, .slice ya3 yl3.length yc3]) rfl 26 (.tmp 3) rfl (Sep.one HGY10.out) 0 rfl rfl Try.underlying26 rfl (by kernel_rfl) ?_; clear _f fl21) | (have _f := fl22; refine (HMY.out _ HB10.out).mono ?_; rintro e w11 ⟨rfl, hb⟩; have HB11 := Lib.hid (bel_then HB10.out hb); have HGX11 := Lib.hid (HGX10.out.bel hb); have HGY11 := Lib.hid (HGY10.out.bel hb); have cx2 := (HGX11.out.cell 2).trans (show _ = some (.slice xa2 xl2.length xc2) from rfl); have cx3 := (HGX11.out.cell 3).trans (show _ = some (.slice xa3 xl3.length xc3) from rfl); have cy2 := (HGY11.out.cell 2).trans (show _ = some (.slice ya2 yl2.length yc2) from rfl); have cy3 := (HGY11.out.cell 3).trans (show _ = some (.slice ya3 yl3.length yc3) from rfl); clear hb; clear _f fl22))
    go_ret
    exact ⟨rfl, HB11.out⟩
  have ha4 : decide ((yl3.length : Int) ≤ 30) = true := decide_eq_true (by omega)
  have ga4 : decide (yl3.length ≤ 30) = true := decide_eq_true a4
  have Aa4 := Lib.hid a4
  clear a4
  obtain rfl : R = true := HYS.out rfl rfl ⟨Aa1.out, Aa2.out, Aa3.out, Aa4.out⟩
  go_enter Try.func7, Try.ntmps7
  have fl23 : True := trivial
  have fl24 : True := trivial
  have fl25 : True := trivial
  have fl26 : True := trivial
  go_wp2_with (first | (have _f := fl23; refine load_sep (cs := #[.string xn, .slice xa1 xl1.length xc1, .slice xa2 xl2.length xc2, .slice xa3 xl3.length xc3]) rfl 26 (.tmp 2) rfl (Sep.one HGX.out) 0 rfl rfl Try.underlying26 rfl (by kernel_rfl) ?_; clear _f fl23) | (have _f := fl24; refine (HMX.out _ HB0.out).mono ?_; rintro e w12 ⟨rfl, hb⟩; have HB12 := Lib.hid (bel_then HB0.out hb); have HGX12 := Lib.hid (HGX.out.bel hb); have HGY12 := Lib.hid (HGY.out.bel hb); clear hb; clear _f fl24) | (have _f := fl25; refine guard_off (by kernel_rfl) ?_; refine load_sep (cs := #[.string yn, .slice ya1 yl1.length yc1, .slice ya2 yl2.length yc2, .slice ya3 yl3.length yc3]) rfl 26 (.tmp 3) rfl (Sep.one HGY12.out) 0 rfl rfl Try.underlying26 rfl (by kernel_rfl) ?_; clear _f fl25) | (have _f := fl26; refine (HMY.out _ HB12.out).mono ?_; rintro e w13 ⟨rfl, hb⟩; have HB13 := Lib.hid (bel_then HB12.out hb); have HGX13 := Lib.hid (HGX12.out.bel hb); have HGY13 := Lib.hid (HGY12.out.bel hb); have cx2 := (HGX13.out.cell 2).trans (show _ = some (.slice xa2 xl2.length xc2) from rfl); have cx3 := (HGX13.out.cell 3).trans (show _ = some (.slice xa3 xl3.length xc3) from rfl); have cy2 := (HGY13.out.cell 2).trans (show _ = some (.slice ya2 yl2.length yc2) from rfl); have cy3 := (HGY13.out.cell 3).trans (show _ = some (.slice ya3 yl3.length yc3) from rfl); clear hb; clear _f fl26))
  go_ret
  exact ⟨rfl, HB13.out⟩
end Go.Proofs.Ytgcjdkgeiopllaa
