/- Contract: the law's 'same'. Printed by bin/gen_objrefsame.py. -/
import Derived.Test.YteagpjcflcahoaaObjSame
import Derived.Test.YteagpjcflcahoaaObjRefBytes
namespace Go.Proofs.Yteagpjcflcahoaa
set_option linter.unusedVariables false
set_option linter.unusedSimpArgs false
open Go.RowKit

/-- a struct in a box lies there in all later worlds. -/
theorem box_load {w : World} {g : Nat} {cs : Array Value} (h : At w g cs 29) (hs : cs.size = 8) (x : Later (Below w.heap.size w)) : (Instr.loadAt 29 (.pointer (some ⟨g, 0, none⟩))).run Try.prog x.w = .ok (.agg cs) x.w :=
  (h.laterB x).loads Try.underlying29 rfl (by rw [hs]; kernel_rfl)
theorem str_later {w : World} {a : Option Addr} {c : Nat} {l : List Int} {s : ByteArray} (h : RdI .u8 w a c l) (hs : strOf l = s) (x : Later (Below w.heap.size w)) : (convert 24 9 (.slice a l.length c)).run Try.prog x.w = .ok (.string s) x.w := by
  rw [← hs]
  exact run_str_of (P := Try.prog) (dst := 9) (h.below x.ok (Nat.le_refl _)) Try.underlying24 Try.underlying5 Try.underlying9
noncomputable def sameR (x y : OD) : Bool := mayObj x && mayObj y && eqB x.bytes y.bytes
theorem OD.bytes_byte {w : World} {a : Option Addr} {c : Nat} {x : OD} (h : RdI .u8 w a c x.bytes) : ∀ y ∈ x.bytes, isByte y := rdi_byte h

set_option maxRecDepth 100000 in
set_option maxHeartbeats 8000000 in
theorem refsame_walk (x y : Obj) (w : World) (hx : x.Rd w) (hy : y.Rd w) :
    Calls Try.prog 12 #[x.val, y.val] w fun e w' => e = .returned (.bool (sameR x.d y.d)) ∧ Below w.heap.size w w' := by
  have HX := Lib.hid hx
  have HY := Lib.hid hy
  clear hx hy
  obtain ⟨cx, hcx⟩ : ∃ cx, x.cells = cx := ⟨_, rfl⟩
  obtain ⟨cy, hcy⟩ : ∃ cy, y.cells = cy := ⟨_, rfl⟩
  have HCX : Hid (x.val = .agg cx) := Lib.hid (by unfold Obj.val; rw [hcx])
  have HCY : Hid (y.val = .agg cy) := Lib.hid (by unfold Obj.val; rw [hcy])
  have HSX : Hid (cx.size = 8) := Lib.hid (by rw [← hcx]; rfl)
  have HSY : Hid (cy.size = 8) := Lib.hid (by rw [← hcy]; rfl)
  rw [HCX.out, HCY.out]
  have HMX : Hid (∀ W, Below w.heap.size w W → Calls Try.prog 11 #[.agg cx] W fun e w' => e = .returned (.bool (mayObj x.d)) ∧ Below W.heap.size W w') := Lib.hid (fun W k => by rw [← HCX.out]; exact refMay_walk x W (HX.out.bel k))
  have HMY : Hid (∀ W, Below w.heap.size w W → Calls Try.prog 11 #[.agg cy] W fun e w' => e = .returned (.bool (mayObj y.d)) ∧ Below W.heap.size W w') := Lib.hid (fun W k => by rw [← HCY.out]; exact refMay_walk y W (HY.out.bel k))
  have HB0 := Lib.hid (bel2 w (.cells cx 29) (.cells cy 29))
  have HGX : Hid (At ((w.alloc (.cells cx 29)).alloc (.cells cy 29)) w.heap.size cx 29) := Lib.hid ((At.new w _ 29).old _)
  have HGY : Hid (At ((w.alloc (.cells cx 29)).alloc (.cells cy 29)) (w.heap.size + 1) cy 29) := Lib.hid (by have := At.new (w.alloc (.cells cx 29)) cy 29; rwa [show (w.alloc (.cells cx 29)).heap.size = w.heap.size + 1 by simp] at this)
  clear hcx hcy
  cases ha : mayObj x.d with
  | false =>
    have HE : Hid (false = sameR x.d y.d) := Lib.hid (by unfold sameR; rw [ha]; rfl)
    rw [ha] at HMX
    clear ha
    go_enter Try.func12, Try.ntmps12
    go_wp2
    refine wp_region_mix' [([0], 1), ([2, 3], 4), ([5, 6, 7, 10], 8), ([9], 11)] [12, 13, 14, 15] (by kernel_rfl) (by kernel_rfl) (fun _ _ d _ _ h => by cases d <;> exact h) ?_
    intro wd hbd
    have HB1 := Lib.hid (bel_then HB0.out hbd)
    have HGX1 := Lib.hid (HGX.out.bel hbd)
    have HGY1 := Lib.hid (HGY.out.bel hbd)
    clear hbd
    refine mix_step ?_
    simp only [pickOps, nth, Act.put, List.setIfInBounds_toArray, List.set_cons_succ, List.set_cons_zero]
    (repeat (go_big_quiet_step (fail)))
    go_big_quiet_want
    refine quiet_load 29 _ rfl rfl (fun x => box_load HGX1.out HSX.out x) ?_
    go_big_quiet_on
    simp only [pickOps, nth, Act.put, List.setIfInBounds_toArray, List.set_cons_succ, List.set_cons_zero]
    (repeat (go_big_quiet_step (fail)))
    refine wpQuiet_nil ?_
    go_wp2_with (refine (HMX.out _ HB1.out).mono ?_; rintro e w2 ⟨rfl, hb⟩; have HBs := Lib.hid hb; have HB2 := Lib.hid (bel_then HB1.out hb); have HGX2 := Lib.hid (HGX1.out.bel hb); have HGY2 := Lib.hid (HGY1.out.bel hb); clear hb)
    refine ⟨HBs.out, mix_step ?_⟩
    simp only [pickOps, nth, Act.put, List.setIfInBounds_toArray, List.set_cons_succ, List.set_cons_zero]
    (repeat (go_big_quiet_step (fail)))
    refine wpQuiet_nil ?_
    go_wp2
    refine ⟨Below.refl _ _, mix_step ?_⟩
    simp only [pickOps, nth, Act.put, List.setIfInBounds_toArray, List.set_cons_succ, List.set_cons_zero]
    (repeat (go_big_quiet_step (fail)))
    refine wpQuiet_nil ?_
    go_wp2
    refine ⟨Below.refl _ _, mix_step ?_⟩
    simp only [pickOps, nth, Act.put, List.setIfInBounds_toArray, List.set_cons_succ, List.set_cons_zero]
    (repeat (go_big_quiet_step (fail)))
    refine wpQuiet_nil ?_
    go_wp2
    refine ⟨Below.refl _ _, mix_end ?_⟩
    simp only [pickOps, nth, Act.put, List.setIfInBounds_toArray, List.set_cons_succ, List.set_cons_zero]
    (repeat (go_big_quiet_step (fail)))
    refine wpQuiet_nil ?_
    go_wp2
    go_ret
    exact ⟨ret_bool HE.out, HB2.out⟩
  | true =>
  have HPA := Lib.hid ha
  cases hb : mayObj y.d with
  | false =>
    have HE : Hid (false = sameR x.d y.d) := Lib.hid (by unfold sameR; rw [ha, hb]; rfl)
    rw [ha] at HMX
    rw [hb] at HMY
    clear ha hb
    go_enter Try.func12, Try.ntmps12
    go_wp2
    refine wp_region_mix' [([0], 1), ([2, 3], 4), ([5, 6, 7, 10], 8), ([9], 11)] [12, 13, 14, 15] (by kernel_rfl) (by kernel_rfl) (fun _ _ d _ _ h => by cases d <;> exact h) ?_
    intro wd hbd
    have HB1 := Lib.hid (bel_then HB0.out hbd)
    have HGX1 := Lib.hid (HGX.out.bel hbd)
    have HGY1 := Lib.hid (HGY.out.bel hbd)
    clear hbd
    refine mix_step ?_
    simp only [pickOps, nth, Act.put, List.setIfInBounds_toArray, List.set_cons_succ, List.set_cons_zero]
    (repeat (go_big_quiet_step (fail)))
    go_big_quiet_want
    refine quiet_load 29 _ rfl rfl (fun x => box_load HGX1.out HSX.out x) ?_
    go_big_quiet_on
    simp only [pickOps, nth, Act.put, List.setIfInBounds_toArray, List.set_cons_succ, List.set_cons_zero]
    (repeat (go_big_quiet_step (fail)))
    refine wpQuiet_nil ?_
    go_wp2_with (refine (HMX.out _ HB1.out).mono ?_; rintro e w2 ⟨rfl, hb⟩; have HBs := Lib.hid hb; have HB2 := Lib.hid (bel_then HB1.out hb); have HGX2 := Lib.hid (HGX1.out.bel hb); have HGY2 := Lib.hid (HGY1.out.bel hb); clear hb)
    refine ⟨HBs.out, mix_step ?_⟩
    simp only [pickOps, nth, Act.put, List.setIfInBounds_toArray, List.set_cons_succ, List.set_cons_zero]
    (repeat (go_big_quiet_step (fail)))
    go_big_quiet_want
    refine quiet_load 29 _ rfl rfl (fun x => box_load HGY2.out HSY.out x) ?_
    go_big_quiet_on
    simp only [pickOps, nth, Act.put, List.setIfInBounds_toArray, List.set_cons_succ, List.set_cons_zero]
    (repeat (go_big_quiet_step (fail)))
    refine wpQuiet_nil ?_
    go_wp2_with (refine (HMY.out _ HB2.out).mono ?_; rintro e w3 ⟨rfl, hb⟩; have HBs := Lib.hid hb; have HB3 := Lib.hid (bel_then HB2.out hb); have HGX3 := Lib.hid (HGX2.out.bel hb); have HGY3 := Lib.hid (HGY2.out.bel hb); clear hb)
    refine ⟨HBs.out, mix_step ?_⟩
    simp only [pickOps, nth, Act.put, List.setIfInBounds_toArray, List.set_cons_succ, List.set_cons_zero]
    (repeat (go_big_quiet_step (fail)))
    refine wpQuiet_nil ?_
    go_wp2
    refine ⟨Below.refl _ _, mix_step ?_⟩
    simp only [pickOps, nth, Act.put, List.setIfInBounds_toArray, List.set_cons_succ, List.set_cons_zero]
    (repeat (go_big_quiet_step (fail)))
    refine wpQuiet_nil ?_
    go_wp2
    refine ⟨Below.refl _ _, mix_end ?_⟩
    simp only [pickOps, nth, Act.put, List.setIfInBounds_toArray, List.set_cons_succ, List.set_cons_zero]
    (repeat (go_big_quiet_step (fail)))
    refine wpQuiet_nil ?_
    go_wp2
    go_ret
    exact ⟨ret_bool HE.out, HB3.out⟩
  | true =>
  have HPB := Lib.hid hb
  have HE : Hid (eqB x.d.bytes y.d.bytes = sameR x.d y.d) := Lib.hid (by unfold sameR; rw [ha, hb]; rfl)
  rw [ha] at HMX
  rw [hb] at HMY
  clear ha hb
  obtain ⟨sx, hsx⟩ : ∃ sx, strOf x.d.bytes = sx := ⟨_, rfl⟩
  obtain ⟨sy, hsy⟩ : ∃ sy, strOf y.d.bytes = sy := ⟨_, rfl⟩
  have HSXX := Lib.hid hsx
  have HSYY := Lib.hid hsy
  clear hsx hsy
  have HWX : Hid (∀ W, Below w.heap.size w W → Calls Try.prog 13 #[.agg cx] W fun e w' => ∃ a c, e = .returned (.slice a x.d.bytes.length c) ∧ RdI .u8 w' a c x.d.bytes ∧ Below W.heap.size W w') := Lib.hid (fun W k => by rw [← HCX.out]; exact refBytes_walk x W (HX.out.bel k) HPA.out)
  have HWY : Hid (∀ W, Below w.heap.size w W → Calls Try.prog 13 #[.agg cy] W fun e w' => ∃ a c, e = .returned (.slice a y.d.bytes.length c) ∧ RdI .u8 w' a c y.d.bytes ∧ Below W.heap.size W w') := Lib.hid (fun W k => by rw [← HCY.out]; exact refBytes_walk y W (HY.out.bel k) HPB.out)
  go_enter Try.func12, Try.ntmps12
  go_wp2
  refine wp_region_mix' [([0], 1), ([2, 3], 4), ([5, 6, 7, 10], 8), ([9], 11)] [12, 13, 14, 15] (by kernel_rfl) (by kernel_rfl) (fun _ _ d _ _ h => by cases d <;> exact h) ?_
  intro wd hbd
  have HB1 := Lib.hid (bel_then HB0.out hbd)
  have HGX1 := Lib.hid (HGX.out.bel hbd)
  have HGY1 := Lib.hid (HGY.out.bel hbd)
  clear hbd
  refine mix_step ?_
  simp only [pickOps, nth, Act.put, List.setIfInBounds_toArray, List.set_cons_succ, List.set_cons_zero]
  (repeat (go_big_quiet_step (fail)))
  go_big_quiet_want
  refine quiet_load 29 _ rfl rfl (fun x => box_load HGX1.out HSX.out x) ?_
  go_big_quiet_on
  simp only [pickOps, nth, Act.put, List.setIfInBounds_toArray, List.set_cons_succ, List.set_cons_zero]
  (repeat (go_big_quiet_step (fail)))
  refine wpQuiet_nil ?_
  go_wp2_with (refine (HMX.out _ HB1.out).mono ?_; rintro e w2 ⟨rfl, hb⟩; have HBs := Lib.hid hb; have HB2 := Lib.hid (bel_then HB1.out hb); have HGX2 := Lib.hid (HGX1.out.bel hb); have HGY2 := Lib.hid (HGY1.out.bel hb); clear hb)
  refine ⟨HBs.out, mix_step ?_⟩
  simp only [pickOps, nth, Act.put, List.setIfInBounds_toArray, List.set_cons_succ, List.set_cons_zero]
  (repeat (go_big_quiet_step (fail)))
  go_big_quiet_want
  refine quiet_load 29 _ rfl rfl (fun x => box_load HGY2.out HSY.out x) ?_
  go_big_quiet_on
  simp only [pickOps, nth, Act.put, List.setIfInBounds_toArray, List.set_cons_succ, List.set_cons_zero]
  (repeat (go_big_quiet_step (fail)))
  refine wpQuiet_nil ?_
  go_wp2_with (refine (HMY.out _ HB2.out).mono ?_; rintro e w3 ⟨rfl, hb⟩; have HBs := Lib.hid hb; have HB3 := Lib.hid (bel_then HB2.out hb); have HGX3 := Lib.hid (HGX2.out.bel hb); have HGY3 := Lib.hid (HGY2.out.bel hb); clear hb)
  refine ⟨HBs.out, mix_step ?_⟩
  simp only [pickOps, nth, Act.put, List.setIfInBounds_toArray, List.set_cons_succ, List.set_cons_zero]
  (repeat (go_big_quiet_step (fail)))
  go_big_quiet_want
  refine quiet_load 29 _ rfl rfl (fun x => box_load HGX3.out HSX.out x) ?_
  go_big_quiet_on
  simp only [pickOps, nth, Act.put, List.setIfInBounds_toArray, List.set_cons_succ, List.set_cons_zero]
  (repeat (go_big_quiet_step (fail)))
  go_big_quiet_want
  refine quiet_load 29 _ rfl rfl (fun x => box_load HGY3.out HSY.out x) ?_
  go_big_quiet_on
  simp only [pickOps, nth, Act.put, List.setIfInBounds_toArray, List.set_cons_succ, List.set_cons_zero]
  (repeat (go_big_quiet_step (fail)))
  refine wpQuiet_nil ?_
  go_wp2_with (refine (HWX.out _ HB3.out).mono ?_; rintro e w4 ⟨as4, cs4, rfl, hr, hb⟩; have HBs := Lib.hid hb; have HB4 := Lib.hid (bel_then HB3.out hb); have HR4 := Lib.hid hr; have lc := fun x => str_later hr HSXX.out x; clear hb hr)
  refine ⟨HBs.out, mix_step ?_⟩
  simp only [pickOps, nth, Act.put, List.setIfInBounds_toArray, List.set_cons_succ, List.set_cons_zero]
  (repeat (go_big_quiet_step (fail)))
  refine wpQuiet_nil ?_
  clear lc
  go_wp2_with (refine (HWY.out _ HB4.out).mono ?_; rintro e w5 ⟨as5, cs5, rfl, hr, hb⟩; have HBs := Lib.hid hb; have HB5 := Lib.hid (bel_then HB4.out hb); have HR5 := Lib.hid hr; have lc := fun x => str_later hr HSYY.out x; clear hb hr)
  have heq : (sx.toList == sy.toList) = eqB x.d.bytes y.d.bytes := by rw [← HSXX.out, ← HSYY.out]; exact strOf_eq (rdi_byte HR4.out) (rdi_byte HR5.out)
  rw [HE.out] at heq
  refine ⟨HBs.out, mix_end ?_⟩
  simp only [pickOps, nth, Act.put, List.setIfInBounds_toArray, List.set_cons_succ, List.set_cons_zero]
  (repeat (go_big_quiet_step (fail)))
  refine wpQuiet_nil ?_
  clear lc
  go_wp2
  go_ret
  exact ⟨rfl, HB5.out⟩
end Go.Proofs.Yteagpjcflcahoaa
