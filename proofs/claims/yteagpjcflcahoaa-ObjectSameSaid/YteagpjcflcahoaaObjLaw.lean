/- Contract: the law ObjectSame. Printed by bin/gen_objlaw.py. -/
import Derived.Test.YteagpjcflcahoaaObjRefSame
import Derived.Test.YteagpjcflcahoaaObjKnown
import Derived.Test.YteagpjcflcahoaaObjCodec
import Derived.Test.YteagpjcflcahoaaObjNames
namespace Go.Proofs.Yteagpjcflcahoaa
set_option linter.unusedVariables false
set_option linter.unusedSimpArgs false
open Go.RowKit

theorem eqB_refl {α : Type} (x : α) : eqB x x = true := eqB_yes rfl
theorem eqB_symm {α : Type} (x y : α) : eqB x y = eqB y x := by
  by_cases h : x = y
  · rw [eqB_yes h, eqB_yes h.symm]
  · rw [eqB_no h, eqB_no (fun e => h e.symm)]
theorem sameR_eq {x y : Obj} {w : World} (hx : x.Rd w) (hy : y.Rd w) (hm : mayObj x.d = true) (hn : mayObj y.d = true) : eqB x.d y.d = sameR x.d y.d := by
  unfold sameR
  rw [hm, hn]
  show eqB x.d y.d = eqB x.d.bytes y.d.bytes
  by_cases h : x.d = y.d
  · rw [eqB_yes h, eqB_yes (congrArg OD.bytes h)]
  · rw [eqB_no h, eqB_no (fun e => h (OD.In.inj (OD.In.of hx hm) (OD.In.of hy hn) e))]
theorem box_load0 {w : World} {g : Nat} {cs : Array Value} (h : At w g cs 29) (hs : cs.size = 8) : (Instr.loadAt 29 (.pointer (some ⟨g, 0, none⟩))).run Try.prog w = .ok (.agg cs) w :=
  h.loads Try.underlying29 rfl (by rw [hs]; kernel_rfl)

set_option maxRecDepth 100000 in
set_option maxHeartbeats 8000000 in
theorem law_walk (x y : Obj) (s : ByteArray) (w : World) (hx : x.Rd w) (hy : y.Rd w) (hs : s.size ≤ maxLen) :
    Calls Try.prog 3 #[x.val, y.val, .string s] w fun e w' => e = .returned (.bool true) ∧ Below w.heap.size w w' := by
  have HX := Lib.hid hx
  have HY := Lib.hid hy
  clear hx hy
  unfold maxLen at hs
  obtain ⟨p0, p1, p2, p3, p4, p5, p6, p7, hcx⟩ : ∃ p0 p1 p2 p3 p4 p5 p6 p7, x.cells = #[p0, p1, p2, p3, p4, p5, p6, p7] := ⟨_, _, _, _, _, _, _, _, rfl⟩
  obtain ⟨q0, q1, q2, q3, q4, q5, q6, q7, hcy⟩ : ∃ q0 q1 q2 q3 q4 q5 q6 q7, y.cells = #[q0, q1, q2, q3, q4, q5, q6, q7] := ⟨_, _, _, _, _, _, _, _, rfl⟩
  have HCX : Hid (x.val = .agg #[p0, p1, p2, p3, p4, p5, p6, p7]) := Lib.hid (by unfold Obj.val; rw [hcx])
  have HCY : Hid (y.val = .agg #[q0, q1, q2, q3, q4, q5, q6, q7]) := Lib.hid (by unfold Obj.val; rw [hcy])
  have HSX : Hid (#[p0, p1, p2, p3, p4, p5, p6, p7].size = 8) := Lib.hid rfl
  have HSY : Hid (#[q0, q1, q2, q3, q4, q5, q6, q7].size = 8) := Lib.hid rfl
  rw [HCX.out, HCY.out]
  have HUX : Hid (∀ W, Below w.heap.size w W → Calls Try.prog 5 #[.agg #[p0, p1, p2, p3, p4, p5, p6, p7]] W fun e w' => e = .returned (.bool (muchB x.d)) ∧ Below W.heap.size W w') := Lib.hid (fun W k => by rw [← HCX.out]; exact much_walk x W (HX.out.bel k))
  have HUY : Hid (∀ W, Below w.heap.size w W → Calls Try.prog 5 #[.agg #[q0, q1, q2, q3, q4, q5, q6, q7]] W fun e w' => e = .returned (.bool (muchB y.d)) ∧ Below W.heap.size W w') := Lib.hid (fun W k => by rw [← HCY.out]; exact much_walk y W (HY.out.bel k))
  have HMX : Hid (∀ W, Below w.heap.size w W → Calls Try.prog 11 #[.agg #[p0, p1, p2, p3, p4, p5, p6, p7]] W fun e w' => e = .returned (.bool (mayObj x.d)) ∧ Below W.heap.size W w') := Lib.hid (fun W k => by rw [← HCX.out]; exact refMay_walk x W (HX.out.bel k))
  have HMY : Hid (∀ W, Below w.heap.size w W → Calls Try.prog 11 #[.agg #[q0, q1, q2, q3, q4, q5, q6, q7]] W fun e w' => e = .returned (.bool (mayObj y.d)) ∧ Below W.heap.size W w') := Lib.hid (fun W k => by rw [← HCY.out]; exact refMay_walk y W (HY.out.bel k))
  have HXX : Hid (∀ W, Below w.heap.size w W → Calls Try.prog 10 #[.agg #[p0, p1, p2, p3, p4, p5, p6, p7], .agg #[p0, p1, p2, p3, p4, p5, p6, p7]] W fun e w' => e = .returned (.bool true) ∧ Below W.heap.size W w') := Lib.hid (fun W k => by rw [← HCX.out, ← eqB_refl x.d]; exact same_walk x x W (HX.out.bel k) (HX.out.bel k))
  have HXY : Hid (∀ W, Below w.heap.size w W → Calls Try.prog 10 #[.agg #[p0, p1, p2, p3, p4, p5, p6, p7], .agg #[q0, q1, q2, q3, q4, q5, q6, q7]] W fun e w' => e = .returned (.bool (eqB x.d y.d)) ∧ Below W.heap.size W w') := Lib.hid (fun W k => by rw [← HCX.out, ← HCY.out]; exact same_walk x y W (HX.out.bel k) (HY.out.bel k))
  have HYX : Hid (∀ W, Below w.heap.size w W → Calls Try.prog 10 #[.agg #[q0, q1, q2, q3, q4, q5, q6, q7], .agg #[p0, p1, p2, p3, p4, p5, p6, p7]] W fun e w' => e = .returned (.bool (eqB x.d y.d)) ∧ Below W.heap.size W w') := Lib.hid (fun W k => by rw [← HCX.out, ← HCY.out, eqB_symm]; exact same_walk y x W (HY.out.bel k) (HX.out.bel k))
  have HRS : Hid (∀ W, Below w.heap.size w W → Calls Try.prog 12 #[.agg #[p0, p1, p2, p3, p4, p5, p6, p7], .agg #[q0, q1, q2, q3, q4, q5, q6, q7]] W fun e w' => e = .returned (.bool (sameR x.d y.d)) ∧ Below W.heap.size W w') := Lib.hid (fun W k => by rw [← HCX.out, ← HCY.out]; exact refsame_walk x y W (HX.out.bel k) (HY.out.bel k))
  have HB0 := Lib.hid (bel2 w (.cells #[p0, p1, p2, p3, p4, p5, p6, p7] 29) (.cells #[q0, q1, q2, q3, q4, q5, q6, q7] 29))
  have HGX : Hid (At ((w.alloc (.cells #[p0, p1, p2, p3, p4, p5, p6, p7] 29)).alloc (.cells #[q0, q1, q2, q3, q4, q5, q6, q7] 29)) w.heap.size #[p0, p1, p2, p3, p4, p5, p6, p7] 29) := Lib.hid ((At.new w _ 29).old _)
  have HGY : Hid (At ((w.alloc (.cells #[p0, p1, p2, p3, p4, p5, p6, p7] 29)).alloc (.cells #[q0, q1, q2, q3, q4, q5, q6, q7] 29)) (w.heap.size + 1) #[q0, q1, q2, q3, q4, q5, q6, q7] 29) := Lib.hid (by have := At.new (w.alloc (.cells #[p0, p1, p2, p3, p4, p5, p6, p7] 29)) #[q0, q1, q2, q3, q4, q5, q6, q7] 29; rwa [show (w.alloc (.cells #[p0, p1, p2, p3, p4, p5, p6, p7] 29)).heap.size = w.heap.size + 1 by simp] at this)
  clear hcx hcy
  have f1 : True := trivial
  have f2 : True := trivial
  have f9 : True := trivial
  cases ha : muchB x.d with
  | true =>
    rw [ha] at HUX
    clear ha
    go_enter Try.func3, Try.ntmps3
    go_wp2_with (first | (have _f := f1; refine (HUX.out _ HB0.out).mono ?_; rintro e w2 ⟨rfl, hb⟩; have HB2 := Lib.hid (bel_then HB0.out hb); have HGX2 := Lib.hid (HGX.out.bel hb); have HGY2 := Lib.hid (HGY.out.bel hb); have gy0 := (HGY2.out.cell 0).trans (show _ = some _ from rfl); have gy1 := (HGY2.out.cell 1).trans (show _ = some _ from rfl); have gy2 := (HGY2.out.cell 2).trans (show _ = some _ from rfl); have gy3 := (HGY2.out.cell 3).trans (show _ = some _ from rfl); have gy4 := (HGY2.out.cell 4).trans (show _ = some _ from rfl); have gy5 := (HGY2.out.cell 5).trans (show _ = some _ from rfl); have gy6 := (HGY2.out.cell 6).trans (show _ = some _ from rfl); have gy7 := (HGY2.out.cell 7).trans (show _ = some _ from rfl); clear hb _f f1) | (have _f := f9; with_reducible refine (known_walk _).mono ?_; rintro e w9 ⟨rfl, hb⟩; have HB9 := Lib.hid (bel_then HB2.out hb); clear hb _f f9))
    go_ret
    exact ⟨rfl, HB9.out⟩
  | false =>
  rw [ha] at HUX
  clear ha
  cases hb : muchB y.d with
  | true =>
    rw [hb] at HUY
    clear hb
    go_enter Try.func3, Try.ntmps3
    go_wp2_with (first | (have _f := f1; refine (HUX.out _ HB0.out).mono ?_; rintro e w2 ⟨rfl, hb⟩; have HB2 := Lib.hid (bel_then HB0.out hb); have HGX2 := Lib.hid (HGX.out.bel hb); have HGY2 := Lib.hid (HGY.out.bel hb); have gy0 := (HGY2.out.cell 0).trans (show _ = some _ from rfl); have gy1 := (HGY2.out.cell 1).trans (show _ = some _ from rfl); have gy2 := (HGY2.out.cell 2).trans (show _ = some _ from rfl); have gy3 := (HGY2.out.cell 3).trans (show _ = some _ from rfl); have gy4 := (HGY2.out.cell 4).trans (show _ = some _ from rfl); have gy5 := (HGY2.out.cell 5).trans (show _ = some _ from rfl); have gy6 := (HGY2.out.cell 6).trans (show _ = some _ from rfl); have gy7 := (HGY2.out.cell 7).trans (show _ = some _ from rfl); clear hb _f f1) | (have _f := f2; refine (HUY.out _ HB2.out).mono ?_; rintro e w3 ⟨rfl, hb⟩; have HB3 := Lib.hid (bel_then HB2.out hb); have HGX3 := Lib.hid (HGX2.out.bel hb); have HGY3 := Lib.hid (HGY2.out.bel hb); clear hb _f f2) | (have _f := f9; with_reducible refine (known_walk _).mono ?_; rintro e w9 ⟨rfl, hb⟩; have HB9 := Lib.hid (bel_then HB3.out hb); clear hb _f f9))
    go_ret
    exact ⟨rfl, HB9.out⟩
  | false =>
  rw [hb] at HUY
  clear hb
  by_cases hl : (100 : Int) < s.size
  · go_enter Try.func3, Try.ntmps3
    go_wp2_with (first | (have _f := f1; refine (HUX.out _ HB0.out).mono ?_; rintro e w2 ⟨rfl, hb⟩; have HB2 := Lib.hid (bel_then HB0.out hb); have HGX2 := Lib.hid (HGX.out.bel hb); have HGY2 := Lib.hid (HGY.out.bel hb); have gy0 := (HGY2.out.cell 0).trans (show _ = some _ from rfl); have gy1 := (HGY2.out.cell 1).trans (show _ = some _ from rfl); have gy2 := (HGY2.out.cell 2).trans (show _ = some _ from rfl); have gy3 := (HGY2.out.cell 3).trans (show _ = some _ from rfl); have gy4 := (HGY2.out.cell 4).trans (show _ = some _ from rfl); have gy5 := (HGY2.out.cell 5).trans (show _ = some _ from rfl); have gy6 := (HGY2.out.cell 6).trans (show _ = some _ from rfl); have gy7 := (HGY2.out.cell 7).trans (show _ = some _ from rfl); clear hb _f f1) | (have _f := f2; refine (HUY.out _ HB2.out).mono ?_; rintro e w3 ⟨rfl, hb⟩; have HB3 := Lib.hid (bel_then HB2.out hb); have HGX3 := Lib.hid (HGX2.out.bel hb); have HGY3 := Lib.hid (HGY2.out.bel hb); clear hb _f f2) | (have _f := f9; with_reducible refine (known_walk _).mono ?_; rintro e w9 ⟨rfl, hb⟩; have HB9 := Lib.hid (bel_then HB3.out hb); clear hb _f f9))
    go_ret
    exact ⟨rfl, HB9.out⟩
  have hs2 : s.size ≤ 1000 := by omega
  have hs' : s.size ≤ maxLen := by unfold maxLen; exact hs
  have f3 : True := trivial
  have f4 : True := trivial
  have f5 : True := trivial
  have hmn : (mayName s != mayName s) = false := by cases mayName s <;> rfl
  have HRE : Hid (mayObj x.d = true → mayObj y.d = true → eqB x.d y.d = sameR x.d y.d) := Lib.hid (fun a b => sameR_eq HX.out HY.out a b)
  have HF : Hid (∀ W, Calls Try.prog 9 #[.string s] W fun e w' => e = .returned (.string (s ++ ⟨#[46, 111]⟩)) ∧ W = w') := Lib.hid (fun W => by rw [show (⟨#[46, 111]⟩ : ByteArray) = ".o".toUTF8 by kernel_rfl]; exact file_any s W hs2)
  have hso : ((s ++ (⟨#[46, 111]⟩ : ByteArray)).toList != (s ++ (⟨#[46, 111]⟩ : ByteArray)).toList) = false := by simp
  have hq : (eqB x.d y.d != eqB x.d y.d) = false := by cases eqB x.d y.d <;> rfl
  cases hma : mayObj x.d with
  | false =>
    rw [hma] at HMX
    clear hma
    go_enter Try.func3, Try.ntmps3
    go_wp2_with (first | (have _f := f1; refine (HUX.out _ HB0.out).mono ?_; rintro e w2 ⟨rfl, hb⟩; have HB2 := Lib.hid (bel_then HB0.out hb); have HGX2 := Lib.hid (HGX.out.bel hb); have HGY2 := Lib.hid (HGY.out.bel hb); have gy0 := (HGY2.out.cell 0).trans (show _ = some _ from rfl); have gy1 := (HGY2.out.cell 1).trans (show _ = some _ from rfl); have gy2 := (HGY2.out.cell 2).trans (show _ = some _ from rfl); have gy3 := (HGY2.out.cell 3).trans (show _ = some _ from rfl); have gy4 := (HGY2.out.cell 4).trans (show _ = some _ from rfl); have gy5 := (HGY2.out.cell 5).trans (show _ = some _ from rfl); have gy6 := (HGY2.out.cell 6).trans (show _ = some _ from rfl); have gy7 := (HGY2.out.cell 7).trans (show _ = some _ from rfl); clear hb _f f1) | (have _f := f2; refine (HUY.out _ HB2.out).mono ?_; rintro e w3 ⟨rfl, hb⟩; have HB3 := Lib.hid (bel_then HB2.out hb); have HGX3 := Lib.hid (HGX2.out.bel hb); have HGY3 := Lib.hid (HGY2.out.bel hb); clear hb _f f2) | (have _f := f3; with_reducible refine (mayName_any s _ hs').mono ?_; rintro e w4 ⟨rfl, rfl⟩; clear _f f3) | (have _f := f4; with_reducible refine (refMayName_any s _ hs').mono ?_; rintro e w4 ⟨rfl, rfl⟩; clear _f f4) | (have _f := f5; with_reducible refine (HF.out _).mono ?_; rintro e w4 ⟨rfl, rfl⟩; clear _f f5))
    refine wp_region_mix' [([0, 1], 2), ([3, 4, 5, 6, 8, 9], 7), ([], 10)] [11, 12] (by kernel_rfl) (by kernel_rfl) (fun _ _ d _ _ h => by cases d <;> exact h) ?_
    intro wd hbd
    have HB4 := Lib.hid (bel_then HB3.out hbd)
    have HGX4 := Lib.hid (HGX3.out.bel hbd)
    have HGY4 := Lib.hid (HGY3.out.bel hbd)
    clear hbd
    refine mix_step ?_
    simp only [pickOps, nth, Act.put, List.setIfInBounds_toArray, List.set_cons_succ, List.set_cons_zero]
    (repeat (go_big_quiet_step (fail)))
    go_big_quiet_want
    refine quiet_load 29 _ rfl rfl (fun x => box_load HGX4.out HSX.out x) ?_
    go_big_quiet_on
    simp only [pickOps, nth, Act.put, List.setIfInBounds_toArray, List.set_cons_succ, List.set_cons_zero]
    (repeat (go_big_quiet_step (fail)))
    go_big_quiet_want
    refine quiet_load 29 _ rfl rfl (fun x => box_load HGX4.out HSX.out x) ?_
    go_big_quiet_on
    simp only [pickOps, nth, Act.put, List.setIfInBounds_toArray, List.set_cons_succ, List.set_cons_zero]
    (repeat (go_big_quiet_step (fail)))
    refine wpQuiet_nil ?_
    go_wp2_with (refine (HXX.out _ HB4.out).mono ?_; rintro e w5 ⟨rfl, hb⟩; have HBs := Lib.hid hb; have HB5 := Lib.hid (bel_then HB4.out hb); have HGX5 := Lib.hid (HGX4.out.bel hb); have HGY5 := Lib.hid (HGY4.out.bel hb); clear hb)
    refine ⟨HBs.out, mix_step ?_⟩
    simp only [pickOps, nth, Act.put, List.setIfInBounds_toArray, List.set_cons_succ, List.set_cons_zero]
    (repeat (go_big_quiet_step (fail)))
    go_big_quiet_want
    refine quiet_load 29 _ rfl rfl (fun x => box_load HGX5.out HSX.out x) ?_
    go_big_quiet_on
    simp only [pickOps, nth, Act.put, List.setIfInBounds_toArray, List.set_cons_succ, List.set_cons_zero]
    (repeat (go_big_quiet_step (fail)))
    go_big_quiet_want
    refine quiet_load 29 _ rfl rfl (fun x => box_load HGY5.out HSY.out x) ?_
    go_big_quiet_on
    simp only [pickOps, nth, Act.put, List.setIfInBounds_toArray, List.set_cons_succ, List.set_cons_zero]
    (repeat (go_big_quiet_step (fail)))
    go_big_quiet_want
    refine quiet_load 29 _ rfl rfl (fun x => box_load HGY5.out HSY.out x) ?_
    go_big_quiet_on
    simp only [pickOps, nth, Act.put, List.setIfInBounds_toArray, List.set_cons_succ, List.set_cons_zero]
    (repeat (go_big_quiet_step (fail)))
    go_big_quiet_want
    refine quiet_load 29 _ rfl rfl (fun x => box_load HGX5.out HSX.out x) ?_
    go_big_quiet_on
    simp only [pickOps, nth, Act.put, List.setIfInBounds_toArray, List.set_cons_succ, List.set_cons_zero]
    (repeat (go_big_quiet_step (fail)))
    refine wpQuiet_nil ?_
    go_wp2_with (refine (HXY.out _ HB5.out).mono ?_; rintro e w6 ⟨rfl, hb⟩; have HBs := Lib.hid hb; have HB6 := Lib.hid (bel_then HB5.out hb); have HGX6 := Lib.hid (HGX5.out.bel hb); have HGY6 := Lib.hid (HGY5.out.bel hb); clear hb)
    refine ⟨HBs.out, mix_step ?_⟩
    simp only [pickOps, nth, Act.put, List.setIfInBounds_toArray, List.set_cons_succ, List.set_cons_zero]
    (repeat (go_big_quiet_step (fail)))
    refine wpQuiet_nil ?_
    go_wp2_with (refine (HYX.out _ HB6.out).mono ?_; rintro e w7 ⟨rfl, hb⟩; have HBs := Lib.hid hb; have HB7 := Lib.hid (bel_then HB6.out hb); have HGX7 := Lib.hid (HGX6.out.bel hb); have HGY7 := Lib.hid (HGY6.out.bel hb); clear hb)
    refine ⟨HBs.out, mix_end ?_⟩
    simp only [pickOps, nth, Act.put, List.setIfInBounds_toArray, List.set_cons_succ, List.set_cons_zero]
    (repeat (go_big_quiet_step (fail)))
    refine wpQuiet_nil ?_
    go_wp2
    refine wp_region_mix' [([0], 1), ([2, 3], 4), ([5, 6, 7, 8, 10, 11], 9), ([], 12)] [13, 14] (by kernel_rfl) (by kernel_rfl) (fun _ _ d _ _ h => by cases d <;> exact h) ?_
    intro wd hbd
    have HB8 := Lib.hid (bel_then HB7.out hbd)
    have HGX8 := Lib.hid (HGX7.out.bel hbd)
    have HGY8 := Lib.hid (HGY7.out.bel hbd)
    clear hbd
    refine mix_step ?_
    simp only [pickOps, nth, Act.put, List.setIfInBounds_toArray, List.set_cons_succ, List.set_cons_zero]
    (repeat (go_big_quiet_step (fail)))
    go_big_quiet_want
    refine quiet_load 29 _ rfl rfl (fun x => box_load HGX8.out HSX.out x) ?_
    go_big_quiet_on
    simp only [pickOps, nth, Act.put, List.setIfInBounds_toArray, List.set_cons_succ, List.set_cons_zero]
    (repeat (go_big_quiet_step (fail)))
    refine wpQuiet_nil ?_
    go_wp2_with (refine (HMX.out _ HB8.out).mono ?_; rintro e w9 ⟨rfl, hb⟩; have HBs := Lib.hid hb; have HB9 := Lib.hid (bel_then HB8.out hb); have HGX9 := Lib.hid (HGX8.out.bel hb); have HGY9 := Lib.hid (HGY8.out.bel hb); clear hb)
    refine ⟨HBs.out, mix_step ?_⟩
    simp only [pickOps, nth, Act.put, List.setIfInBounds_toArray, List.set_cons_succ, List.set_cons_zero]
    (repeat (go_big_quiet_step (fail)))
    refine wpQuiet_nil ?_
    go_wp2
    refine ⟨Below.refl _ _, mix_step ?_⟩
    simp only [pickOps, nth, Act.put, List.setIfInBounds_toArray, List.set_cons_succ, List.set_cons_zero]
    (repeat (go_big_quiet_step (fail)))
    refine wpQuiet_nil ?_
    go_wp2
    refine ⟨Below.refl _ _, mix_step ?_⟩
    simp only [pickOps, nth, Act.put, List.setIfInBounds_toArray, List.set_cons_succ, List.set_cons_zero]
    (repeat (go_big_quiet_step (fail)))
    refine wpQuiet_nil ?_
    go_wp2
    refine ⟨Below.refl _ _, mix_end ?_⟩
    simp only [pickOps, nth, Act.put, List.setIfInBounds_toArray, List.set_cons_succ, List.set_cons_zero]
    (repeat (go_big_quiet_step (fail)))
    refine wpQuiet_nil ?_
    go_wp2_with (first | (have _f := f9; with_reducible refine (known_walk _).mono ?_; rintro e wk ⟨rfl, hb⟩; have HBk := Lib.hid (bel_then HB9.out hb); clear hb _f f9))
    go_ret
    exact ⟨rfl, HBk.out⟩
  | true =>
  cases hmb : mayObj y.d with
  | false =>
    rw [hma] at HMX
    rw [hmb] at HMY
    clear hma hmb
    go_enter Try.func3, Try.ntmps3
    go_wp2_with (first | (have _f := f1; refine (HUX.out _ HB0.out).mono ?_; rintro e w2 ⟨rfl, hb⟩; have HB2 := Lib.hid (bel_then HB0.out hb); have HGX2 := Lib.hid (HGX.out.bel hb); have HGY2 := Lib.hid (HGY.out.bel hb); have gy0 := (HGY2.out.cell 0).trans (show _ = some _ from rfl); have gy1 := (HGY2.out.cell 1).trans (show _ = some _ from rfl); have gy2 := (HGY2.out.cell 2).trans (show _ = some _ from rfl); have gy3 := (HGY2.out.cell 3).trans (show _ = some _ from rfl); have gy4 := (HGY2.out.cell 4).trans (show _ = some _ from rfl); have gy5 := (HGY2.out.cell 5).trans (show _ = some _ from rfl); have gy6 := (HGY2.out.cell 6).trans (show _ = some _ from rfl); have gy7 := (HGY2.out.cell 7).trans (show _ = some _ from rfl); clear hb _f f1) | (have _f := f2; refine (HUY.out _ HB2.out).mono ?_; rintro e w3 ⟨rfl, hb⟩; have HB3 := Lib.hid (bel_then HB2.out hb); have HGX3 := Lib.hid (HGX2.out.bel hb); have HGY3 := Lib.hid (HGY2.out.bel hb); clear hb _f f2) | (have _f := f3; with_reducible refine (mayName_any s _ hs').mono ?_; rintro e w4 ⟨rfl, rfl⟩; clear _f f3) | (have _f := f4; with_reducible refine (refMayName_any s _ hs').mono ?_; rintro e w4 ⟨rfl, rfl⟩; clear _f f4) | (have _f := f5; with_reducible refine (HF.out _).mono ?_; rintro e w4 ⟨rfl, rfl⟩; clear _f f5))
    refine wp_region_mix' [([0, 1], 2), ([3, 4, 5, 6, 8, 9], 7), ([], 10)] [11, 12] (by kernel_rfl) (by kernel_rfl) (fun _ _ d _ _ h => by cases d <;> exact h) ?_
    intro wd hbd
    have HB4 := Lib.hid (bel_then HB3.out hbd)
    have HGX4 := Lib.hid (HGX3.out.bel hbd)
    have HGY4 := Lib.hid (HGY3.out.bel hbd)
    clear hbd
    refine mix_step ?_
    simp only [pickOps, nth, Act.put, List.setIfInBounds_toArray, List.set_cons_succ, List.set_cons_zero]
    (repeat (go_big_quiet_step (fail)))
    go_big_quiet_want
    refine quiet_load 29 _ rfl rfl (fun x => box_load HGX4.out HSX.out x) ?_
    go_big_quiet_on
    simp only [pickOps, nth, Act.put, List.setIfInBounds_toArray, List.set_cons_succ, List.set_cons_zero]
    (repeat (go_big_quiet_step (fail)))
    go_big_quiet_want
    refine quiet_load 29 _ rfl rfl (fun x => box_load HGX4.out HSX.out x) ?_
    go_big_quiet_on
    simp only [pickOps, nth, Act.put, List.setIfInBounds_toArray, List.set_cons_succ, List.set_cons_zero]
    (repeat (go_big_quiet_step (fail)))
    refine wpQuiet_nil ?_
    go_wp2_with (refine (HXX.out _ HB4.out).mono ?_; rintro e w5 ⟨rfl, hb⟩; have HBs := Lib.hid hb; have HB5 := Lib.hid (bel_then HB4.out hb); have HGX5 := Lib.hid (HGX4.out.bel hb); have HGY5 := Lib.hid (HGY4.out.bel hb); clear hb)
    refine ⟨HBs.out, mix_step ?_⟩
    simp only [pickOps, nth, Act.put, List.setIfInBounds_toArray, List.set_cons_succ, List.set_cons_zero]
    (repeat (go_big_quiet_step (fail)))
    go_big_quiet_want
    refine quiet_load 29 _ rfl rfl (fun x => box_load HGX5.out HSX.out x) ?_
    go_big_quiet_on
    simp only [pickOps, nth, Act.put, List.setIfInBounds_toArray, List.set_cons_succ, List.set_cons_zero]
    (repeat (go_big_quiet_step (fail)))
    go_big_quiet_want
    refine quiet_load 29 _ rfl rfl (fun x => box_load HGY5.out HSY.out x) ?_
    go_big_quiet_on
    simp only [pickOps, nth, Act.put, List.setIfInBounds_toArray, List.set_cons_succ, List.set_cons_zero]
    (repeat (go_big_quiet_step (fail)))
    go_big_quiet_want
    refine quiet_load 29 _ rfl rfl (fun x => box_load HGY5.out HSY.out x) ?_
    go_big_quiet_on
    simp only [pickOps, nth, Act.put, List.setIfInBounds_toArray, List.set_cons_succ, List.set_cons_zero]
    (repeat (go_big_quiet_step (fail)))
    go_big_quiet_want
    refine quiet_load 29 _ rfl rfl (fun x => box_load HGX5.out HSX.out x) ?_
    go_big_quiet_on
    simp only [pickOps, nth, Act.put, List.setIfInBounds_toArray, List.set_cons_succ, List.set_cons_zero]
    (repeat (go_big_quiet_step (fail)))
    refine wpQuiet_nil ?_
    go_wp2_with (refine (HXY.out _ HB5.out).mono ?_; rintro e w6 ⟨rfl, hb⟩; have HBs := Lib.hid hb; have HB6 := Lib.hid (bel_then HB5.out hb); have HGX6 := Lib.hid (HGX5.out.bel hb); have HGY6 := Lib.hid (HGY5.out.bel hb); clear hb)
    refine ⟨HBs.out, mix_step ?_⟩
    simp only [pickOps, nth, Act.put, List.setIfInBounds_toArray, List.set_cons_succ, List.set_cons_zero]
    (repeat (go_big_quiet_step (fail)))
    refine wpQuiet_nil ?_
    go_wp2_with (refine (HYX.out _ HB6.out).mono ?_; rintro e w7 ⟨rfl, hb⟩; have HBs := Lib.hid hb; have HB7 := Lib.hid (bel_then HB6.out hb); have HGX7 := Lib.hid (HGX6.out.bel hb); have HGY7 := Lib.hid (HGY6.out.bel hb); clear hb)
    refine ⟨HBs.out, mix_end ?_⟩
    simp only [pickOps, nth, Act.put, List.setIfInBounds_toArray, List.set_cons_succ, List.set_cons_zero]
    (repeat (go_big_quiet_step (fail)))
    refine wpQuiet_nil ?_
    go_wp2
    refine wp_region_mix' [([0], 1), ([2, 3], 4), ([5, 6, 7, 8, 10, 11], 9), ([], 12)] [13, 14] (by kernel_rfl) (by kernel_rfl) (fun _ _ d _ _ h => by cases d <;> exact h) ?_
    intro wd hbd
    have HB8 := Lib.hid (bel_then HB7.out hbd)
    have HGX8 := Lib.hid (HGX7.out.bel hbd)
    have HGY8 := Lib.hid (HGY7.out.bel hbd)
    clear hbd
    refine mix_step ?_
    simp only [pickOps, nth, Act.put, List.setIfInBounds_toArray, List.set_cons_succ, List.set_cons_zero]
    (repeat (go_big_quiet_step (fail)))
    go_big_quiet_want
    refine quiet_load 29 _ rfl rfl (fun x => box_load HGX8.out HSX.out x) ?_
    go_big_quiet_on
    simp only [pickOps, nth, Act.put, List.setIfInBounds_toArray, List.set_cons_succ, List.set_cons_zero]
    (repeat (go_big_quiet_step (fail)))
    refine wpQuiet_nil ?_
    go_wp2_with (refine (HMX.out _ HB8.out).mono ?_; rintro e w9 ⟨rfl, hb⟩; have HBs := Lib.hid hb; have HB9 := Lib.hid (bel_then HB8.out hb); have HGX9 := Lib.hid (HGX8.out.bel hb); have HGY9 := Lib.hid (HGY8.out.bel hb); clear hb)
    refine ⟨HBs.out, mix_step ?_⟩
    simp only [pickOps, nth, Act.put, List.setIfInBounds_toArray, List.set_cons_succ, List.set_cons_zero]
    (repeat (go_big_quiet_step (fail)))
    go_big_quiet_want
    refine quiet_load 29 _ rfl rfl (fun x => box_load HGY9.out HSY.out x) ?_
    go_big_quiet_on
    simp only [pickOps, nth, Act.put, List.setIfInBounds_toArray, List.set_cons_succ, List.set_cons_zero]
    (repeat (go_big_quiet_step (fail)))
    refine wpQuiet_nil ?_
    go_wp2_with (refine (HMY.out _ HB9.out).mono ?_; rintro e w10 ⟨rfl, hb⟩; have HBs := Lib.hid hb; have HB10 := Lib.hid (bel_then HB9.out hb); have HGX10 := Lib.hid (HGX9.out.bel hb); have HGY10 := Lib.hid (HGY9.out.bel hb); clear hb)
    refine ⟨HBs.out, mix_step ?_⟩
    simp only [pickOps, nth, Act.put, List.setIfInBounds_toArray, List.set_cons_succ, List.set_cons_zero]
    (repeat (go_big_quiet_step (fail)))
    refine wpQuiet_nil ?_
    go_wp2
    refine ⟨Below.refl _ _, mix_step ?_⟩
    simp only [pickOps, nth, Act.put, List.setIfInBounds_toArray, List.set_cons_succ, List.set_cons_zero]
    (repeat (go_big_quiet_step (fail)))
    refine wpQuiet_nil ?_
    go_wp2
    refine ⟨Below.refl _ _, mix_end ?_⟩
    simp only [pickOps, nth, Act.put, List.setIfInBounds_toArray, List.set_cons_succ, List.set_cons_zero]
    (repeat (go_big_quiet_step (fail)))
    refine wpQuiet_nil ?_
    go_wp2_with (first | (have _f := f9; with_reducible refine (known_walk _).mono ?_; rintro e wk ⟨rfl, hb⟩; have HBk := Lib.hid (bel_then HB10.out hb); clear hb _f f9))
    go_ret
    exact ⟨rfl, HBk.out⟩
  | true =>
  rw [← sameR_eq HX.out HY.out hma hmb] at HRS
  rw [hma] at HMX
  rw [hmb] at HMY
  clear hma hmb
  go_enter Try.func3, Try.ntmps3
  go_wp2_with (first | (have _f := f1; refine (HUX.out _ HB0.out).mono ?_; rintro e w2 ⟨rfl, hb⟩; have HB2 := Lib.hid (bel_then HB0.out hb); have HGX2 := Lib.hid (HGX.out.bel hb); have HGY2 := Lib.hid (HGY.out.bel hb); have gy0 := (HGY2.out.cell 0).trans (show _ = some _ from rfl); have gy1 := (HGY2.out.cell 1).trans (show _ = some _ from rfl); have gy2 := (HGY2.out.cell 2).trans (show _ = some _ from rfl); have gy3 := (HGY2.out.cell 3).trans (show _ = some _ from rfl); have gy4 := (HGY2.out.cell 4).trans (show _ = some _ from rfl); have gy5 := (HGY2.out.cell 5).trans (show _ = some _ from rfl); have gy6 := (HGY2.out.cell 6).trans (show _ = some _ from rfl); have gy7 := (HGY2.out.cell 7).trans (show _ = some _ from rfl); clear hb _f f1) | (have _f := f2; refine (HUY.out _ HB2.out).mono ?_; rintro e w3 ⟨rfl, hb⟩; have HB3 := Lib.hid (bel_then HB2.out hb); have HGX3 := Lib.hid (HGX2.out.bel hb); have HGY3 := Lib.hid (HGY2.out.bel hb); clear hb _f f2) | (have _f := f3; with_reducible refine (mayName_any s _ hs').mono ?_; rintro e w4 ⟨rfl, rfl⟩; clear _f f3) | (have _f := f4; with_reducible refine (refMayName_any s _ hs').mono ?_; rintro e w4 ⟨rfl, rfl⟩; clear _f f4) | (have _f := f5; with_reducible refine (HF.out _).mono ?_; rintro e w4 ⟨rfl, rfl⟩; clear _f f5))
  refine wp_region_mix' [([0, 1], 2), ([3, 4, 5, 6, 8, 9], 7), ([], 10)] [11, 12] (by kernel_rfl) (by kernel_rfl) (fun _ _ d _ _ h => by cases d <;> exact h) ?_
  intro wd hbd
  have HB4 := Lib.hid (bel_then HB3.out hbd)
  have HGX4 := Lib.hid (HGX3.out.bel hbd)
  have HGY4 := Lib.hid (HGY3.out.bel hbd)
  clear hbd
  refine mix_step ?_
  simp only [pickOps, nth, Act.put, List.setIfInBounds_toArray, List.set_cons_succ, List.set_cons_zero]
  (repeat (go_big_quiet_step (fail)))
  go_big_quiet_want
  refine quiet_load 29 _ rfl rfl (fun x => box_load HGX4.out HSX.out x) ?_
  go_big_quiet_on
  simp only [pickOps, nth, Act.put, List.setIfInBounds_toArray, List.set_cons_succ, List.set_cons_zero]
  (repeat (go_big_quiet_step (fail)))
  go_big_quiet_want
  refine quiet_load 29 _ rfl rfl (fun x => box_load HGX4.out HSX.out x) ?_
  go_big_quiet_on
  simp only [pickOps, nth, Act.put, List.setIfInBounds_toArray, List.set_cons_succ, List.set_cons_zero]
  (repeat (go_big_quiet_step (fail)))
  refine wpQuiet_nil ?_
  go_wp2_with (refine (HXX.out _ HB4.out).mono ?_; rintro e w5 ⟨rfl, hb⟩; have HBs := Lib.hid hb; have HB5 := Lib.hid (bel_then HB4.out hb); have HGX5 := Lib.hid (HGX4.out.bel hb); have HGY5 := Lib.hid (HGY4.out.bel hb); clear hb)
  refine ⟨HBs.out, mix_step ?_⟩
  simp only [pickOps, nth, Act.put, List.setIfInBounds_toArray, List.set_cons_succ, List.set_cons_zero]
  (repeat (go_big_quiet_step (fail)))
  go_big_quiet_want
  refine quiet_load 29 _ rfl rfl (fun x => box_load HGX5.out HSX.out x) ?_
  go_big_quiet_on
  simp only [pickOps, nth, Act.put, List.setIfInBounds_toArray, List.set_cons_succ, List.set_cons_zero]
  (repeat (go_big_quiet_step (fail)))
  go_big_quiet_want
  refine quiet_load 29 _ rfl rfl (fun x => box_load HGY5.out HSY.out x) ?_
  go_big_quiet_on
  simp only [pickOps, nth, Act.put, List.setIfInBounds_toArray, List.set_cons_succ, List.set_cons_zero]
  (repeat (go_big_quiet_step (fail)))
  go_big_quiet_want
  refine quiet_load 29 _ rfl rfl (fun x => box_load HGY5.out HSY.out x) ?_
  go_big_quiet_on
  simp only [pickOps, nth, Act.put, List.setIfInBounds_toArray, List.set_cons_succ, List.set_cons_zero]
  (repeat (go_big_quiet_step (fail)))
  go_big_quiet_want
  refine quiet_load 29 _ rfl rfl (fun x => box_load HGX5.out HSX.out x) ?_
  go_big_quiet_on
  simp only [pickOps, nth, Act.put, List.setIfInBounds_toArray, List.set_cons_succ, List.set_cons_zero]
  (repeat (go_big_quiet_step (fail)))
  refine wpQuiet_nil ?_
  go_wp2_with (refine (HXY.out _ HB5.out).mono ?_; rintro e w6 ⟨rfl, hb⟩; have HBs := Lib.hid hb; have HB6 := Lib.hid (bel_then HB5.out hb); have HGX6 := Lib.hid (HGX5.out.bel hb); have HGY6 := Lib.hid (HGY5.out.bel hb); clear hb)
  refine ⟨HBs.out, mix_step ?_⟩
  simp only [pickOps, nth, Act.put, List.setIfInBounds_toArray, List.set_cons_succ, List.set_cons_zero]
  (repeat (go_big_quiet_step (fail)))
  refine wpQuiet_nil ?_
  go_wp2_with (refine (HYX.out _ HB6.out).mono ?_; rintro e w7 ⟨rfl, hb⟩; have HBs := Lib.hid hb; have HB7 := Lib.hid (bel_then HB6.out hb); have HGX7 := Lib.hid (HGX6.out.bel hb); have HGY7 := Lib.hid (HGY6.out.bel hb); clear hb)
  refine ⟨HBs.out, mix_end ?_⟩
  simp only [pickOps, nth, Act.put, List.setIfInBounds_toArray, List.set_cons_succ, List.set_cons_zero]
  (repeat (go_big_quiet_step (fail)))
  refine wpQuiet_nil ?_
  go_wp2
  refine wp_region_mix' [([0], 1), ([2, 3], 4), ([5, 6, 7, 8, 10, 11], 9), ([], 12)] [13, 14] (by kernel_rfl) (by kernel_rfl) (fun _ _ d _ _ h => by cases d <;> exact h) ?_
  intro wd hbd
  have HB8 := Lib.hid (bel_then HB7.out hbd)
  have HGX8 := Lib.hid (HGX7.out.bel hbd)
  have HGY8 := Lib.hid (HGY7.out.bel hbd)
  clear hbd
  refine mix_step ?_
  simp only [pickOps, nth, Act.put, List.setIfInBounds_toArray, List.set_cons_succ, List.set_cons_zero]
  (repeat (go_big_quiet_step (fail)))
  go_big_quiet_want
  refine quiet_load 29 _ rfl rfl (fun x => box_load HGX8.out HSX.out x) ?_
  go_big_quiet_on
  simp only [pickOps, nth, Act.put, List.setIfInBounds_toArray, List.set_cons_succ, List.set_cons_zero]
  (repeat (go_big_quiet_step (fail)))
  refine wpQuiet_nil ?_
  go_wp2_with (refine (HMX.out _ HB8.out).mono ?_; rintro e w9 ⟨rfl, hb⟩; have HBs := Lib.hid hb; have HB9 := Lib.hid (bel_then HB8.out hb); have HGX9 := Lib.hid (HGX8.out.bel hb); have HGY9 := Lib.hid (HGY8.out.bel hb); clear hb)
  refine ⟨HBs.out, mix_step ?_⟩
  simp only [pickOps, nth, Act.put, List.setIfInBounds_toArray, List.set_cons_succ, List.set_cons_zero]
  (repeat (go_big_quiet_step (fail)))
  go_big_quiet_want
  refine quiet_load 29 _ rfl rfl (fun x => box_load HGY9.out HSY.out x) ?_
  go_big_quiet_on
  simp only [pickOps, nth, Act.put, List.setIfInBounds_toArray, List.set_cons_succ, List.set_cons_zero]
  (repeat (go_big_quiet_step (fail)))
  refine wpQuiet_nil ?_
  go_wp2_with (refine (HMY.out _ HB9.out).mono ?_; rintro e w10 ⟨rfl, hb⟩; have HBs := Lib.hid hb; have HB10 := Lib.hid (bel_then HB9.out hb); have HGX10 := Lib.hid (HGX9.out.bel hb); have HGY10 := Lib.hid (HGY9.out.bel hb); clear hb)
  refine ⟨HBs.out, mix_step ?_⟩
  simp only [pickOps, nth, Act.put, List.setIfInBounds_toArray, List.set_cons_succ, List.set_cons_zero]
  (repeat (go_big_quiet_step (fail)))
  go_big_quiet_want
  refine quiet_load 29 _ rfl rfl (fun x => box_load HGX10.out HSX.out x) ?_
  go_big_quiet_on
  simp only [pickOps, nth, Act.put, List.setIfInBounds_toArray, List.set_cons_succ, List.set_cons_zero]
  (repeat (go_big_quiet_step (fail)))
  go_big_quiet_want
  refine quiet_load 29 _ rfl rfl (fun x => box_load HGY10.out HSY.out x) ?_
  go_big_quiet_on
  simp only [pickOps, nth, Act.put, List.setIfInBounds_toArray, List.set_cons_succ, List.set_cons_zero]
  (repeat (go_big_quiet_step (fail)))
  go_big_quiet_want
  refine quiet_load 29 _ rfl rfl (fun x => box_load HGX10.out HSX.out x) ?_
  go_big_quiet_on
  simp only [pickOps, nth, Act.put, List.setIfInBounds_toArray, List.set_cons_succ, List.set_cons_zero]
  (repeat (go_big_quiet_step (fail)))
  go_big_quiet_want
  refine quiet_load 29 _ rfl rfl (fun x => box_load HGY10.out HSY.out x) ?_
  go_big_quiet_on
  simp only [pickOps, nth, Act.put, List.setIfInBounds_toArray, List.set_cons_succ, List.set_cons_zero]
  (repeat (go_big_quiet_step (fail)))
  refine wpQuiet_nil ?_
  go_wp2_with (refine (HXY.out _ HB10.out).mono ?_; rintro e w11 ⟨rfl, hb⟩; have HBs := Lib.hid hb; have HB11 := Lib.hid (bel_then HB10.out hb); have HGX11 := Lib.hid (HGX10.out.bel hb); have HGY11 := Lib.hid (HGY10.out.bel hb); clear hb)
  refine ⟨HBs.out, mix_step ?_⟩
  simp only [pickOps, nth, Act.put, List.setIfInBounds_toArray, List.set_cons_succ, List.set_cons_zero]
  (repeat (go_big_quiet_step (fail)))
  refine wpQuiet_nil ?_
  go_wp2_with (refine (HRS.out _ HB11.out).mono ?_; rintro e w12 ⟨rfl, hb⟩; have HBs := Lib.hid hb; have HB12 := Lib.hid (bel_then HB11.out hb); have HGX12 := Lib.hid (HGX11.out.bel hb); have HGY12 := Lib.hid (HGY11.out.bel hb); clear hb)
  refine ⟨HBs.out, mix_end ?_⟩
  simp only [pickOps, nth, Act.put, List.setIfInBounds_toArray, List.set_cons_succ, List.set_cons_zero]
  (repeat (go_big_quiet_step (fail)))
  refine wpQuiet_nil ?_
  go_wp2_with (first | (have _f := f9; with_reducible refine (known_walk _).mono ?_; rintro e wk ⟨rfl, hb⟩; have HBk := Lib.hid (bel_then HB12.out hb); clear hb _f f9))
  go_ret
  exact ⟨rfl, HBk.out⟩
end Go.Proofs.Yteagpjcflcahoaa
