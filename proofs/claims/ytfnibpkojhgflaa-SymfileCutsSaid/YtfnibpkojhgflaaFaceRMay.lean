/- Contract: the reference's May of a face. Printed by bin/gen_symrmay.py. -/
import Derived.Test.YtfnibpkojhgflaaFaceRType
import Derived.Test.YtfnibpkojhgflaaFaceRObj
import Derived.Test.YtfnibpkojhgflaaFaceMay0
namespace Go.Proofs.Ytfnibpkojhgflaa
set_option linter.unusedVariables false
set_option linter.unusedSimpArgs false
open Go.RowKit

theorem clash_no {l : List FO} {k : Nat} {x : FO} (h : ∀ j y, j < k → l[j]? = some y → clash y.d x.d = false) : ((l.take k).map FO.d).any (fun s => clash s x.d) = false := by
  rw [Bool.eq_false_iff]; intro hh
  rw [List.any_map, List.any_eq_true] at hh
  obtain ⟨y, hy, hc⟩ := hh
  obtain ⟨j, hj⟩ := List.mem_iff_getElem?.1 hy
  rw [List.getElem?_take] at hj
  split at hj
  · have hc : clash y.d x.d = true := hc
    rw [h j y (by assumption) hj] at hc; cases hc
  · cases hj
theorem clash_yes {l : List FO} {k j : Nat} {x y : FO} (hj : j < k) (hy : l[j]? = some y) (h : clash y.d x.d = true) : ((l.take k).map FO.d).any (fun s => clash s x.d) = true := by
  rw [List.any_map, List.any_eq_true]
  refine ⟨y, List.mem_iff_getElem?.2 ⟨j, ?_⟩, h⟩
  rw [List.getElem?_take, if_pos hj]; exact hy
theorem types_bad {e : Env} {l : List FT} {k : Nat} {x : FT} (hx : l[k]? = some x) (h : mayTypeB e x.d = false) : (l.map FT.d).all (mayTypeB e) = false := all_bad hx h

set_option maxRecDepth 100000 in
set_option maxHeartbeats 16000000 in
theorem rmay_walk (f : Fc) (w : World) (h : f.Rd w) :
    Calls Try.prog 15 #[f.val] w fun e' w' => e' = .returned (.bool (mayFace f.d)) ∧ Below w.heap.size w w' := by
  have i2 := h.types.len
  have i3 := h.objs.len
  have HMI : Hid (∀ W, Below w.heap.size w W → Calls Try.prog 28 #[.string f.name, f.imps.val] W fun e w' => e = .returned (.bool (mayImps f.name f.imps.l)) ∧ Below W.heap.size W w') := Lib.hid (fun W k => refMayImports_bel f.name f.imps W h.name (h.imps.bel k))
  have HMT : Hid (f.types.l.length ≤ 200 → ∀ (t : FT) (W : World), ftD.ok w t → Below w.heap.size w W → Calls Try.prog 29 #[f.val, .agg (ftD.cells t).toArray] W fun e' w' => e' = .returned (.bool (mayTypeB f.d.env t.d)) ∧ Below W.heap.size W w') := Lib.hid (fun hn t W ht k => rmayType_walk f t W (h.bel k) (ftD.below ht k (Nat.le_refl _)) (by omega))
  have HMO : Hid (f.types.l.length ≤ 200 → ∀ (t : FO) (W : World), foD.ok w t → Below w.heap.size w W → Calls Try.prog 30 #[f.val, .agg (foD.cells t).toArray] W fun e' w' => e' = .returned (.bool (mayObjB f.d.env t.d)) ∧ Below W.heap.size W w') := Lib.hid (fun hn t W ht k => rmayObject_walk f t W (h.bel k) (foD.below ht k (Nat.le_refl _)) (by omega))
  obtain ⟨b2, o2, hat2, hcell2⟩ := h.types.at'
  obtain ⟨b3, o3, hat3, hcell3⟩ := h.objs.at'
  have HAT2 := Lib.hid hat2
  have HAT3 := Lib.hid hat3
  have HC2 := Lib.hid hcell2
  have HC3 := Lib.hid hcell3
  have HOK2 := Lib.hid h.types.all
  have HOK3 := Lib.hid h.objs.all
  have HLE2 := Lib.hid h.types.row.le
  have HLE3 := Lib.hid h.objs.row.le
  have HF1 : Hid (mayImps f.name f.imps.l = false → mayFace f.d = false) := Lib.hid (fun q => mf_imps (f := f.d) q)
  have HF2 : Hid (¬ (f.types.l.length ≤ 200 ∧ f.objs.l.length ≤ 900) → mayFace f.d = false) := Lib.hid (fun q => mf_sizes (f := f.d) (fun p => q ⟨by have := p.1; rwa [show f.d.types = f.types.l.map FT.d from rfl, List.length_map] at this, by have := p.2; rwa [show f.d.objs = f.objs.l.map FO.d from rfl, List.length_map] at this⟩))
  have HF3 : Hid ((f.types.l.map FT.d).all (mayTypeB f.d.env) = false → mayFace f.d = false) := Lib.hid (fun q => mf_types (f := f.d) q)
  have HF4 : Hid (objsOk f.d.env [] (f.objs.l.map FO.d) = false → mayFace f.d = false) := Lib.hid (fun q => mf_objs (f := f.d) q)
  have HF5 : Hid (mayImps f.name f.imps.l = true → f.types.l.length ≤ 200 ∧ f.objs.l.length ≤ 900 → (f.types.l.map FT.d).all (mayTypeB f.d.env) = true → objsOk f.d.env [] (f.objs.l.map FO.d) = true → mayFace f.d = true) := Lib.hid (fun q p r s => mf_yes (f := f.d) q ⟨by rw [show f.d.types = f.types.l.map FT.d from rfl, List.length_map]; exact p.1, by rw [show f.d.objs = f.objs.l.map FO.d from rfl, List.length_map]; exact p.2⟩ r s)
  clear h hat2 hat3 hcell2 hcell3
  obtain ⟨M, hM⟩ : ∃ M, M = mayFace f.d := ⟨_, rfl⟩
  obtain ⟨E, hE⟩ : ∃ E, E = f.d.env := ⟨_, rfl⟩
  rw [← hM] at HF1 HF2 HF3 HF4 HF5 ⊢
  rw [← hE] at HMT HMO HF3 HF4 HF5
  clear hM hE
  obtain ⟨nm, ⟨a1, c1, l1⟩, ⟨a2, c2, l2⟩, ⟨a3, c3, l3⟩⟩ := f
  dsimp only at i2 i3 HAT2 HAT3 HC2 HC3 HOK2 HOK3 HLE2 HLE3 HF1 HF2 HF3 HF4 HF5
  replace HMI : Hid (∀ W, Below w.heap.size w W → Calls Try.prog 28 #[.string nm, .slice a1 l1.length c1] W fun e w' => e = .returned (.bool (mayImps nm l1)) ∧ Below W.heap.size W w') := HMI
  replace HMT : Hid (l2.length ≤ 200 → ∀ (t : FT) (W : World), ftD.ok w t → Below w.heap.size w W → Calls Try.prog 29 #[.agg #[.string nm, .slice a1 l1.length c1, .slice a2 l2.length c2, .slice a3 l3.length c3], .agg (ftD.cells t).toArray] W fun e' w' => e' = .returned (.bool (mayTypeB E t.d)) ∧ Below W.heap.size W w') := HMT
  replace HMO : Hid (l2.length ≤ 200 → ∀ (t : FO) (W : World), foD.ok w t → Below w.heap.size w W → Calls Try.prog 30 #[.agg #[.string nm, .slice a1 l1.length c1, .slice a2 l2.length c2, .slice a3 l3.length c3], .agg (foD.cells t).toArray] W fun e' w' => e' = .returned (.bool (mayObjB E t.d)) ∧ Below W.heap.size W w') := HMO
  show Calls _ _ #[.agg #[.string nm, .slice a1 l1.length c1, .slice a2 l2.length c2, .slice a3 l3.length c3]] w _
  have HA0 := Lib.hid (At.new w #[.string nm, .slice a1 l1.length c1, .slice a2 l2.length c2, .slice a3 l3.length c3] 26)
  have HB0 := Lib.hid (bel1 w (.cells #[.string nm, .slice a1 l1.length c1, .slice a2 l2.length c2, .slice a3 l3.length c3] 26))
  have HSN := Lib.hid (fun w' : World => Sep.nil w')
  have f1 : True := trivial
  have f2 : True := trivial
  have f3 : True := trivial
  have f4 : True := trivial
  have f5 : True := trivial
  have f6 : True := trivial
  have f7 : True := trivial
  have f8 : True := trivial
  cases hm : mayImps nm l1 with
  | false =>
    have HMV := Lib.hid hm
    obtain rfl : M = false := HF1.out hm
    clear hm
    go_enter Try.func15, Try.ntmps15
    go_wp2_with (first | (have _f := f1; refine (HMI.out _ HB0.out).mono ?_; rw [HMV.out]; rintro e w1 ⟨rfl, hb⟩; have HB1 := Lib.hid (bel_then HB0.out hb); have HA1 := Lib.hid (HA0.out.bel hb); have t2 := (HA1.out.cell 2).trans (show _ = some (.slice a2 l2.length c2) from rfl); have t3 := (HA1.out.cell 3).trans (show _ = some (.slice a3 l3.length c3) from rfl); clear hb _f f1))
    go_ret
    exact ⟨rfl, HB1.out⟩
  | true =>
  have HMV := Lib.hid hm
  clear hm
  by_cases h2 : (200 : Int) < l2.length
  · have d : decide ((200 : Int) < l2.length) = true := decide_eq_true h2
    have d' : decide (200 < l2.length) = true := decide_eq_true (by omega)
    obtain rfl : M = false := HF2.out (by omega)
    clear h2
    go_enter Try.func15, Try.ntmps15
    go_wp2_with (first | (have _f := f1; refine (HMI.out _ HB0.out).mono ?_; rw [HMV.out]; rintro e w1 ⟨rfl, hb⟩; have HB1 := Lib.hid (bel_then HB0.out hb); have HA1 := Lib.hid (HA0.out.bel hb); have t2 := (HA1.out.cell 2).trans (show _ = some (.slice a2 l2.length c2) from rfl); have t3 := (HA1.out.cell 3).trans (show _ = some (.slice a3 l3.length c3) from rfl); clear hb _f f1))
    go_ret
    exact ⟨rfl, HB1.out⟩
  have d2 : decide ((200 : Int) < l2.length) = false := decide_eq_false h2
  have d2' : decide (200 < l2.length) = false := decide_eq_false (by omega)
  have H2 : Hid (l2.length ≤ 200) := Lib.hid (by omega)
  clear h2
  by_cases h3 : (900 : Int) < l3.length
  · have d : decide ((900 : Int) < l3.length) = true := decide_eq_true h3
    have d' : decide (900 < l3.length) = true := decide_eq_true (by omega)
    obtain rfl : M = false := HF2.out (by omega)
    clear h3
    go_enter Try.func15, Try.ntmps15
    go_wp2_with (first | (have _f := f1; refine (HMI.out _ HB0.out).mono ?_; rw [HMV.out]; rintro e w1 ⟨rfl, hb⟩; have HB1 := Lib.hid (bel_then HB0.out hb); have HA1 := Lib.hid (HA0.out.bel hb); have t2 := (HA1.out.cell 2).trans (show _ = some (.slice a2 l2.length c2) from rfl); have t3 := (HA1.out.cell 3).trans (show _ = some (.slice a3 l3.length c3) from rfl); clear hb _f f1))
    go_ret
    exact ⟨rfl, HB1.out⟩
  have d3 : decide ((900 : Int) < l3.length) = false := decide_eq_false h3
  have d3' : decide (900 < l3.length) = false := decide_eq_false (by omega)
  have H3 : Hid (l3.length ≤ 900) := Lib.hid (by omega)
  clear h3
  have HMT2 := Lib.hid (HMT.out H2.out)
  have HMO2 := Lib.hid (HMO.out H2.out)
  clear HMT HMO
  go_enter Try.func15, Try.ntmps15
  go_wp2_with (first | (have _f := f1; refine (HMI.out _ HB0.out).mono ?_; rw [HMV.out]; rintro e w1 ⟨rfl, hb⟩; have HB1 := Lib.hid (bel_then HB0.out hb); have HA1 := Lib.hid (HA0.out.bel hb); have t2 := (HA1.out.cell 2).trans (show _ = some (.slice a2 l2.length c2) from rfl); have t3 := (HA1.out.cell 3).trans (show _ = some (.slice a3 l3.length c3) from rfl); clear hb _f f1))
  clear d2 d2' d3 d3' t2 t3
  go_loopw [3] (fun i wr => ∃ k : Nat, k ≤ l2.length ∧ i = .int .i64 k ∧ (∀ j x, j < k → l2[j]? = some x → mayTypeB E x.d = true) ∧ Below w1.heap.size w1 wr) (fun i _ => l2.length - (intOf i).toNat)
  case atStart => exact ⟨0, Nat.zero_le _, rfl, fun j x h => by omega, Below.refl _ _⟩
  case round =>
    obtain ⟨k, hk, rfl, hJ, hB⟩ := hrel
    have HJ := Lib.hid hJ
    have HB := Lib.hid hB
    clear hJ hB
    have HBW : Hid (Below w.heap.size w wr) := Lib.hid (bel_then HB1.out HB.out)
    have HA := Lib.hid (HA1.out.bel HB.out)
    have t2 := (HA.out.cell 2).trans (show _ = some (.slice a2 l2.length c2) from rfl)
    by_cases hlt : k < l2.length
    · obtain ⟨⟨fo, le, si, ⟨bm, bi⟩, ⟨fa, fcc, fl⟩⟩, hx⟩ := get_lt hlt
      obtain ⟨rfl, hb⟩ := HAT2.out (by omega)
      have HX := Lib.hid hx
      have HLT := Lib.hid hlt
      have HBB := Lib.hid hb
      have kl : (k : Int) < l2.length := by omega
      have HOX := Lib.hid (HOK2.out _ (List.mem_of_getElem? hx))
      clear hx hb
      cases hv : mayTypeB E (FT.d ⟨fo, le, si, ⟨bm, bi⟩, ⟨fa, fcc, fl⟩⟩)
      · have HV := Lib.hid hv
        clear hv
        obtain rfl : M = false := HF3.out (all_bad HX.out HV.out)
        go_wp2_with (fail)
        refine wp_region_mix' [([0, 1, 2, 3, 4, 5], 6)] [7] (by kernel_rfl) (by kernel_rfl) (fun _ _ d _ _ h => by cases d <;> exact h) ?_
        intro wd hbd
        have HBd := Lib.hid (bel_then HBW.out hbd)
        have HBd0 := Lib.hid hbd
        have HAd := Lib.hid (HA.out.bel hbd)
        have hcd : ∀ (q : Nat) (y : Value), ([.int .i64 fo, .int .i64 le, .int .i64 si, .int .i64 bm, .int .i64 bi, .slice fa fl.length fcc] : List Value)[q]? = some y → wd.cell? ⟨b2, o2 + k * 6 + q, none⟩ = some y := fun q y hy => (HBd.out.cell (p := ⟨b2, o2 + k * 6 + q, none⟩) HBB.out).trans (HC2.out k _ HX.out q y hy)
        have hbl : b2 < wd.heap.size := Nat.lt_of_lt_of_le HBB.out HBd.out.size
        have ls0 : ∀ y : Later (Below wd.heap.size wd), (Instr.loadAt 26 (.pointer (some ⟨w.heap.size, 0, none⟩))).run Try.prog y.w = .ok (.agg #[.string nm, .slice a1 l1.length c1, .slice (some ⟨b2, o2, none⟩) l2.length c2, .slice a3 l3.length c3]) y.w := fun y => (HAd.out.laterB y).loads Try.underlying26 rfl (by kernel_rfl)
        have lc2 : ∀ y : Later (Below wd.heap.size wd), y.w.cell? ⟨w.heap.size, 2, none⟩ = some (.slice (some ⟨b2, o2, none⟩) l2.length c2) := fun y => ((HAd.out.laterB y).cell 2).trans rfl
        have ls5 : ∀ y : Later (Below wd.heap.size wd), (Instr.loadAt 34 (.pointer (some ⟨b2, o2 + k * 6, none⟩))).run Try.prog y.w = .ok (.agg #[.int .i64 fo, .int .i64 le, .int .i64 si, .int .i64 bm, .int .i64 bi, .slice fa fl.length fcc]) y.w := fun y => loads_mid (cs := [.int .i64 fo, .int .i64 le, .int .i64 si, .int .i64 bm, .int .i64 bi, .slice fa fl.length fcc]) (fun q v hv => (y.ok.cell (p := ⟨b2, o2 + k * 6 + q, none⟩) hbl).trans (hcd q v hv)) Try.underlying34 rfl (by kernel_rfl)
        clear hbd hcd hbl t2
        refine mix_step ?_
        simp only [pickOps, nth, Act.put, List.setIfInBounds_toArray, List.set_cons_succ, List.set_cons_zero]
        (go_big_quiet_want; refine quiet_row 26 (.tmp 1) rfl rfl ls0 ?_; go_big_quiet_on)
        simp only [pickOps, nth, Act.put, List.setIfInBounds_toArray, List.set_cons_succ, List.set_cons_zero]
        (repeat (go_big_quiet_step (fail)))
        (go_big_quiet_want; refine quiet_row2 34 (.tmp 37) rfl rfl ls5 ?_; go_big_quiet_on)
        simp only [pickOps, nth, Act.put, List.setIfInBounds_toArray, List.set_cons_succ, List.set_cons_zero]
        (repeat (go_big_quiet_step (fail)))
        refine wpQuiet_nil ?_
        clear ls0 lc2 ls5
        go_wp2_with (refine (HMT2.out ⟨fo, le, si, ⟨bm, bi⟩, ⟨fa, fcc, fl⟩⟩ _ HOX.out HBd.out).mono ?_; rw [HV.out]; rintro e' w2 ⟨rfl, hb⟩; have HBs := Lib.hid hb; have HBn := Lib.hid (bel_then HBd0.out hb); have HBN := Lib.hid (bel_then HBd.out hb); clear hb)
        refine ⟨HBs.out, mix_end ?_⟩
        simp only [pickOps, nth, Act.put, List.setIfInBounds_toArray, List.set_cons_succ, List.set_cons_zero]
        (repeat (go_big_quiet_step (fail)))
        refine wpQuiet_nil ?_
        go_wp2_with (fail)
        go_ret
        exact ⟨rfl, HBN.out⟩
      · have HV := Lib.hid hv
        clear hv
        go_wp2_with (fail)
        refine wp_region_mix' [([0, 1, 2, 3, 4, 5], 6)] [7] (by kernel_rfl) (by kernel_rfl) (fun _ _ d _ _ h => by cases d <;> exact h) ?_
        intro wd hbd
        have HBd := Lib.hid (bel_then HBW.out hbd)
        have HBd0 := Lib.hid hbd
        have HAd := Lib.hid (HA.out.bel hbd)
        have hcd : ∀ (q : Nat) (y : Value), ([.int .i64 fo, .int .i64 le, .int .i64 si, .int .i64 bm, .int .i64 bi, .slice fa fl.length fcc] : List Value)[q]? = some y → wd.cell? ⟨b2, o2 + k * 6 + q, none⟩ = some y := fun q y hy => (HBd.out.cell (p := ⟨b2, o2 + k * 6 + q, none⟩) HBB.out).trans (HC2.out k _ HX.out q y hy)
        have hbl : b2 < wd.heap.size := Nat.lt_of_lt_of_le HBB.out HBd.out.size
        have ls0 : ∀ y : Later (Below wd.heap.size wd), (Instr.loadAt 26 (.pointer (some ⟨w.heap.size, 0, none⟩))).run Try.prog y.w = .ok (.agg #[.string nm, .slice a1 l1.length c1, .slice (some ⟨b2, o2, none⟩) l2.length c2, .slice a3 l3.length c3]) y.w := fun y => (HAd.out.laterB y).loads Try.underlying26 rfl (by kernel_rfl)
        have lc2 : ∀ y : Later (Below wd.heap.size wd), y.w.cell? ⟨w.heap.size, 2, none⟩ = some (.slice (some ⟨b2, o2, none⟩) l2.length c2) := fun y => ((HAd.out.laterB y).cell 2).trans rfl
        have ls5 : ∀ y : Later (Below wd.heap.size wd), (Instr.loadAt 34 (.pointer (some ⟨b2, o2 + k * 6, none⟩))).run Try.prog y.w = .ok (.agg #[.int .i64 fo, .int .i64 le, .int .i64 si, .int .i64 bm, .int .i64 bi, .slice fa fl.length fcc]) y.w := fun y => loads_mid (cs := [.int .i64 fo, .int .i64 le, .int .i64 si, .int .i64 bm, .int .i64 bi, .slice fa fl.length fcc]) (fun q v hv => (y.ok.cell (p := ⟨b2, o2 + k * 6 + q, none⟩) hbl).trans (hcd q v hv)) Try.underlying34 rfl (by kernel_rfl)
        clear hbd hcd hbl t2
        refine mix_step ?_
        simp only [pickOps, nth, Act.put, List.setIfInBounds_toArray, List.set_cons_succ, List.set_cons_zero]
        (go_big_quiet_want; refine quiet_row 26 (.tmp 1) rfl rfl ls0 ?_; go_big_quiet_on)
        simp only [pickOps, nth, Act.put, List.setIfInBounds_toArray, List.set_cons_succ, List.set_cons_zero]
        (repeat (go_big_quiet_step (fail)))
        (go_big_quiet_want; refine quiet_row2 34 (.tmp 37) rfl rfl ls5 ?_; go_big_quiet_on)
        simp only [pickOps, nth, Act.put, List.setIfInBounds_toArray, List.set_cons_succ, List.set_cons_zero]
        (repeat (go_big_quiet_step (fail)))
        refine wpQuiet_nil ?_
        clear ls0 lc2 ls5
        go_wp2_with (refine (HMT2.out ⟨fo, le, si, ⟨bm, bi⟩, ⟨fa, fcc, fl⟩⟩ _ HOX.out HBd.out).mono ?_; rw [HV.out]; rintro e' w2 ⟨rfl, hb⟩; have HBs := Lib.hid hb; have HBn := Lib.hid (bel_then HBd0.out hb); have HBN := Lib.hid (bel_then HBd.out hb); clear hb)
        refine ⟨HBs.out, mix_end ?_⟩
        simp only [pickOps, nth, Act.put, List.setIfInBounds_toArray, List.set_cons_succ, List.set_cons_zero]
        (repeat (go_big_quiet_step (fail)))
        refine wpQuiet_nil ?_
        go_wp2_with (fail)
        go_roundw
        case rel =>
          refine ⟨k + 1, HLT.out, by go_num, fun j x hj hx => ?_, bel_then HB.out HBn.out⟩
          rcases Nat.lt_or_ge j k with h | h
          · exact HJ.out j x h hx
          · obtain rfl : j = k := by omega
            rw [HX.out] at hx; cases hx; exact HV.out
        case measure => simp [intOf]; have := HLT.out; omega
    · have HALL : Hid ((l2.map FT.d).all (mayTypeB E) = true) := Lib.hid (all_good (fun j x hj hx => HJ.out j x (by omega) hx))
      clear hk HJ
      go_wp2_with (fail)
      clear t2 hlt
      obtain ⟨w3, rfl⟩ : ∃ w3 : World, w3 = wr := ⟨_, rfl⟩
      go_loopw [4] (fun i wr => ∃ k : Nat, k ≤ l3.length ∧ i = .int .i64 k ∧ ObjTo E l3 k ∧ Below w3.heap.size w3 wr) (fun i _ => l3.length - (intOf i).toNat)
      case atStart => exact ⟨0, Nat.zero_le _, rfl, ObjTo.start E l3, Below.refl _ _⟩
      case round =>
        clear HB1 HA1 HB
        obtain ⟨wt, rfl⟩ : ∃ wt : World, wt = wr := ⟨_, rfl⟩
        obtain ⟨k, hk, rfl, hJ, hB⟩ := hrel
        have HJ := Lib.hid hJ
        have HB := Lib.hid hB
        clear hJ hB
        have HBT : Hid (Below w.heap.size w wt) := Lib.hid (bel_then HBW.out HB.out)
        have HAt := Lib.hid (HA.out.bel HB.out)
        have t3 := (HAt.out.cell 3).trans (show _ = some (.slice a3 l3.length c3) from rfl)
        by_cases hlt : k < l3.length
        · obtain ⟨⟨cl, on, ⟨bm, bi⟩, va, ⟨pa, pc, pl⟩⟩, hx⟩ := get_lt hlt
          obtain ⟨rfl, hb⟩ := HAT3.out (by omega)
          have HX := Lib.hid hx
          have HLT := Lib.hid hlt
          have HBB := Lib.hid hb
          have HOX := Lib.hid (HOK3.out _ (List.mem_of_getElem? hx))
          have HCO : Hid (∀ (q : Nat) (y : Value), ([.int .i64 cl, .string on, .int .i64 bm, .int .i64 bi, .int .u32 va, .slice pa pl.length pc] : List Value)[q]? = some y → wt.cell? ⟨b3, o3 + k * 6 + q, none⟩ = some y) := Lib.hid (fun q y hy => (HBT.out.cell (p := ⟨b3, o3 + k * 6 + q, none⟩) hb).trans (HC3.out k _ hx q y hy))
          have kl : (k : Int) < l3.length := by omega
          have kc : (k : Int) < c3 := by have := HLE3.out; omega
          have kc0 : ¬ c3 = 0 := by omega
          clear hx hb
          cases hv : mayObjB E (FO.d ⟨cl, on, ⟨bm, bi⟩, va, ⟨pa, pc, pl⟩⟩)
          · have HV := Lib.hid hv
            clear hv
            obtain rfl : M = false := HF4.out (HJ.out.bad HX.out HV.out)
            go_wp2_with (first | (have _f := f2; refine wpList_load_mid rfl 42 (.tmp 51) rfl b3 (o3 + k * 6) rfl [.int .i64 cl, .string on, .int .i64 bm, .int .i64 bi, .int .u32 va, .slice pa pl.length pc] _ HCO.out Try.underlying42 rfl (by kernel_rfl) ?_; clear _f f2) | (have _f := f3; refine alloc_sep rfl 42 rfl (HSN.out _) (z := .agg #[.int .i64 0, .string ⟨#[]⟩, .int .i64 0, .int .i64 0, .int .u32 0, .slice none 0 0]) (cs := #[.int .i64 0, .string ⟨#[]⟩, .int .i64 0, .int .i64 0, .int .u32 0, .slice none 0 0]) (by kernel_rfl) rfl ?_; intro wc S' b' s'; have HSc := Lib.hid S'; have HBc := Lib.hid b'; clear S' b' s' _f f3) | (have _f := f4; refine store_sep (cells := #[.int .i64 cl, .string on, .int .i64 bm, .int .i64 bi, .int .u32 va, .slice pa pl.length pc]) rfl 42 (.tmp 5) (.tmp 52) rfl HSc.out 0 rfl rfl rfl (by kernel_rfl) rfl rfl ?_; intro we S' k' s'; have HAe : Hid (At we wt.heap.size #[.int .i64 cl, .string on, .int .i64 bm, .int .i64 bi, .int .u32 va, .slice pa pl.length pc] 42) := Lib.hid (S'.at 0 rfl); have HBe : Hid (Below wt.heap.size wt we) := Lib.hid (((Ke.below (· = wt.heap.size) HBc.out).trans k').toBelow (fun i hi e => absurd e (Nat.ne_of_lt hi))); have HBWe := Lib.hid (bel_then HBT.out HBe.out); have HGe := Lib.hid (HAt.out.bel HBe.out); clear t3 S' k' s' _f f4) | (have _f := f5; refine load_sep (cs := #[.string nm, .slice a1 l1.length c1, .slice a2 l2.length c2, .slice (some ⟨b3, o3, none⟩) l3.length c3]) rfl 26 (.tmp 1) rfl (Sep.one HGe.out) 0 rfl rfl Try.underlying26 rfl (by kernel_rfl) ?_; clear _f f5) | (have _f := f6; refine load_sep (cs := #[.int .i64 cl, .string on, .int .i64 bm, .int .i64 bi, .int .u32 va, .slice pa pl.length pc]) rfl 42 (.tmp 5) rfl (Sep.one HAe.out) 0 rfl rfl Try.underlying42 rfl (by kernel_rfl) ?_; clear _f f6) | (have _f := f7; refine (HMO2.out ⟨cl, on, ⟨bm, bi⟩, va, ⟨pa, pc, pl⟩⟩ _ HOX.out HBWe.out).mono ?_; rw [HV.out]; rintro e' w4 ⟨rfl, hb⟩; have HB4 := Lib.hid (bel_then HBe.out hb); have HBW4 := Lib.hid (bel_then HBWe.out hb); have HG4 := Lib.hid (HGe.out.bel hb); have HAe4 := Lib.hid (HAe.out.bel hb); clear hb _f f7))
            go_ret
            exact ⟨rfl, HBW4.out⟩
          · have HV := Lib.hid hv
            clear hv
            go_wp2_with (first | (have _f := f2; refine wpList_load_mid rfl 42 (.tmp 51) rfl b3 (o3 + k * 6) rfl [.int .i64 cl, .string on, .int .i64 bm, .int .i64 bi, .int .u32 va, .slice pa pl.length pc] _ HCO.out Try.underlying42 rfl (by kernel_rfl) ?_; clear _f f2) | (have _f := f3; refine alloc_sep rfl 42 rfl (HSN.out _) (z := .agg #[.int .i64 0, .string ⟨#[]⟩, .int .i64 0, .int .i64 0, .int .u32 0, .slice none 0 0]) (cs := #[.int .i64 0, .string ⟨#[]⟩, .int .i64 0, .int .i64 0, .int .u32 0, .slice none 0 0]) (by kernel_rfl) rfl ?_; intro wc S' b' s'; have HSc := Lib.hid S'; have HBc := Lib.hid b'; clear S' b' s' _f f3) | (have _f := f4; refine store_sep (cells := #[.int .i64 cl, .string on, .int .i64 bm, .int .i64 bi, .int .u32 va, .slice pa pl.length pc]) rfl 42 (.tmp 5) (.tmp 52) rfl HSc.out 0 rfl rfl rfl (by kernel_rfl) rfl rfl ?_; intro we S' k' s'; have HAe : Hid (At we wt.heap.size #[.int .i64 cl, .string on, .int .i64 bm, .int .i64 bi, .int .u32 va, .slice pa pl.length pc] 42) := Lib.hid (S'.at 0 rfl); have HBe : Hid (Below wt.heap.size wt we) := Lib.hid (((Ke.below (· = wt.heap.size) HBc.out).trans k').toBelow (fun i hi e => absurd e (Nat.ne_of_lt hi))); have HBWe := Lib.hid (bel_then HBT.out HBe.out); have HGe := Lib.hid (HAt.out.bel HBe.out); clear t3 S' k' s' _f f4) | (have _f := f5; refine load_sep (cs := #[.string nm, .slice a1 l1.length c1, .slice a2 l2.length c2, .slice (some ⟨b3, o3, none⟩) l3.length c3]) rfl 26 (.tmp 1) rfl (Sep.one HGe.out) 0 rfl rfl Try.underlying26 rfl (by kernel_rfl) ?_; clear _f f5) | (have _f := f6; refine load_sep (cs := #[.int .i64 cl, .string on, .int .i64 bm, .int .i64 bi, .int .u32 va, .slice pa pl.length pc]) rfl 42 (.tmp 5) rfl (Sep.one HAe.out) 0 rfl rfl Try.underlying42 rfl (by kernel_rfl) ?_; clear _f f6) | (have _f := f7; refine (HMO2.out ⟨cl, on, ⟨bm, bi⟩, va, ⟨pa, pc, pl⟩⟩ _ HOX.out HBWe.out).mono ?_; rw [HV.out]; rintro e' w4 ⟨rfl, hb⟩; have HB4 := Lib.hid (bel_then HBe.out hb); have HBW4 := Lib.hid (bel_then HBWe.out hb); have HG4 := Lib.hid (HGe.out.bel hb); have HAe4 := Lib.hid (HAe.out.bel hb); clear hb _f f7))
            go_loopw [6] (fun v wr => ∃ m : Nat, m ≤ k ∧ v = .int .i64 m ∧ (∀ j y, j < m → l3[j]? = some y → clash y.d (FO.d ⟨cl, on, ⟨bm, bi⟩, va, ⟨pa, pc, pl⟩⟩) = false) ∧ Below w4.heap.size w4 wr) (fun v _ => k - (intOf v).toNat)
            case atStart => exact ⟨0, Nat.zero_le _, rfl, fun j y h => by omega, Below.refl _ _⟩
            case round =>
              obtain ⟨m, hm, rfl, hM, hbr⟩ := hrel
              have HM := Lib.hid hM
              have HBr := Lib.hid hbr
              clear hM hbr
              by_cases hlm : m < k
              · obtain ⟨⟨yc, yn, ⟨ym, yi⟩, yv, ⟨ya, yd, yl⟩⟩, hy⟩ := get_lt (l := l3) (i := m) (by have := HLT.out; omega)
                have HBWr := Lib.hid (bel_then HBW4.out HBr.out)
                have HAr := Lib.hid (HAe4.out.bel HBr.out)
                have g3 : wr.cell? ⟨w.heap.size, 3, none⟩ = some (.slice (some ⟨b3, o3, none⟩) l3.length c3) := ((HG4.out.bel HBr.out).cell 3).trans rfl
                have HCY : Hid (∀ (q : Nat) (y : Value), ([.int .i64 yc, .string yn, .int .i64 ym, .int .i64 yi, .int .u32 yv, .slice ya yl.length yd] : List Value)[q]? = some y → wr.cell? ⟨b3, o3 + m * 6 + q, none⟩ = some y) := Lib.hid (fun q y hy' => (HBWr.out.cell (p := ⟨b3, o3 + m * 6 + q, none⟩) HBB.out).trans (HC3.out m _ hy q y hy'))
                have HY := Lib.hid hy
                have HLM := Lib.hid hlm
                have ml : (m : Int) < l3.length := by have := HLT.out; omega
                have mc : (m : Int) < c3 := by omega
                clear hy
                have f1 : True := trivial
                have f2 : True := trivial
                have f3 : True := trivial
                by_cases hyn : yn = on
                · have hq := str_same hyn
                  obtain rfl : M = false := HF4.out (HJ.out.twice HX.out (clash_yes HLM.out HY.out (decide_eq_true (.inl hyn))))
                  clear hyn
                  go_wp2_with (first | (have _f := f1; refine wpList_load_mid rfl 42 (.tmp 65) rfl b3 (o3 + m * 6) rfl [.int .i64 yc, .string yn, .int .i64 ym, .int .i64 yi, .int .u32 yv, .slice ya yl.length yd] _ HCY.out Try.underlying42 rfl (by kernel_rfl) ?_; clear _f f1) | (have _f := f2; refine alloc_sep rfl 42 rfl (HSN.out _) (z := .agg #[.int .i64 0, .string ⟨#[]⟩, .int .i64 0, .int .i64 0, .int .u32 0, .slice none 0 0]) (cs := #[.int .i64 0, .string ⟨#[]⟩, .int .i64 0, .int .i64 0, .int .u32 0, .slice none 0 0]) (by kernel_rfl) rfl ?_; intro wc S' b' s'; have HSc := Lib.hid S'; have HBc := Lib.hid b'; clear S' b' s' _f f2) | (have _f := f3; refine store_sep (cells := #[.int .i64 yc, .string yn, .int .i64 ym, .int .i64 yi, .int .u32 yv, .slice ya yl.length yd]) rfl 42 (.tmp 7) (.tmp 66) rfl HSc.out 0 rfl rfl rfl (by kernel_rfl) rfl rfl ?_; intro wf S' k' s'; have HAf : Hid (At wf wr.heap.size #[.int .i64 yc, .string yn, .int .i64 ym, .int .i64 yi, .int .u32 yv, .slice ya yl.length yd] 42) := Lib.hid (S'.at 0 rfl); have HBf : Hid (Below wr.heap.size wr wf) := Lib.hid (((Ke.below (· = wr.heap.size) HBc.out).trans k').toBelow (fun i hi e => absurd e (Nat.ne_of_lt hi))); have HAx := Lib.hid (HAr.out.bel HBf.out); have u0 := (HAf.out.cell 0).trans (show _ = some (.int .i64 yc) from rfl); have u1 := (HAf.out.cell 1).trans (show _ = some (.string yn) from rfl); have u4 := (HAf.out.cell 4).trans (show _ = some (.int .u32 yv) from rfl); have v0 := (HAx.out.cell 0).trans (show _ = some (.int .i64 cl) from rfl); have v1 := (HAx.out.cell 1).trans (show _ = some (.string on) from rfl); have v4 := (HAx.out.cell 4).trans (show _ = some (.int .u32 va) from rfl); clear g3 S' k' s' _f f3))
                  go_ret
                  exact ⟨rfl, bel_then HBWr.out HBf.out⟩
                have hq := str_other hyn
                by_cases hyc : yc = 4
                rotate_left
                · have hq2 : (yc == 4) = false := by rw [beq_eq_false_iff_ne]; exact hyc
                  have HNC : Hid (clash (FO.d ⟨yc, yn, ⟨ym, yi⟩, yv, ⟨ya, yd, yl⟩⟩) (FO.d ⟨cl, on, ⟨bm, bi⟩, va, ⟨pa, pc, pl⟩⟩) = false) := Lib.hid (decide_eq_false (fun q => q.elim hyn (fun q => hyc q.1)))
                  clear hyn hyc
                  go_wp2_with (first | (have _f := f1; refine wpList_load_mid rfl 42 (.tmp 65) rfl b3 (o3 + m * 6) rfl [.int .i64 yc, .string yn, .int .i64 ym, .int .i64 yi, .int .u32 yv, .slice ya yl.length yd] _ HCY.out Try.underlying42 rfl (by kernel_rfl) ?_; clear _f f1) | (have _f := f2; refine alloc_sep rfl 42 rfl (HSN.out _) (z := .agg #[.int .i64 0, .string ⟨#[]⟩, .int .i64 0, .int .i64 0, .int .u32 0, .slice none 0 0]) (cs := #[.int .i64 0, .string ⟨#[]⟩, .int .i64 0, .int .i64 0, .int .u32 0, .slice none 0 0]) (by kernel_rfl) rfl ?_; intro wc S' b' s'; have HSc := Lib.hid S'; have HBc := Lib.hid b'; clear S' b' s' _f f2) | (have _f := f3; refine store_sep (cells := #[.int .i64 yc, .string yn, .int .i64 ym, .int .i64 yi, .int .u32 yv, .slice ya yl.length yd]) rfl 42 (.tmp 7) (.tmp 66) rfl HSc.out 0 rfl rfl rfl (by kernel_rfl) rfl rfl ?_; intro wf S' k' s'; have HAf : Hid (At wf wr.heap.size #[.int .i64 yc, .string yn, .int .i64 ym, .int .i64 yi, .int .u32 yv, .slice ya yl.length yd] 42) := Lib.hid (S'.at 0 rfl); have HBf : Hid (Below wr.heap.size wr wf) := Lib.hid (((Ke.below (· = wr.heap.size) HBc.out).trans k').toBelow (fun i hi e => absurd e (Nat.ne_of_lt hi))); have HAx := Lib.hid (HAr.out.bel HBf.out); have u0 := (HAf.out.cell 0).trans (show _ = some (.int .i64 yc) from rfl); have u1 := (HAf.out.cell 1).trans (show _ = some (.string yn) from rfl); have u4 := (HAf.out.cell 4).trans (show _ = some (.int .u32 yv) from rfl); have v0 := (HAx.out.cell 0).trans (show _ = some (.int .i64 cl) from rfl); have v1 := (HAx.out.cell 1).trans (show _ = some (.string on) from rfl); have v4 := (HAx.out.cell 4).trans (show _ = some (.int .u32 va) from rfl); clear g3 S' k' s' _f f3))
                  go_roundw
                  case rel =>
                    refine ⟨m + 1, HLM.out, by go_num, fun j z hj hz => ?_, bel_then HBr.out HBf.out⟩
                    rcases Nat.lt_or_ge j m with h | h
                    · exact HM.out j z h hz
                    · obtain rfl : j = m := by omega
                      rw [HY.out] at hz; cases hz; exact HNC.out
                  case measure => simp [intOf]; have := HLM.out; omega
                have hq2 : (yc == 4) = true := by rw [hyc]; rfl
                by_cases hxc : cl = 4
                rotate_left
                · have hq3 : (cl == 4) = false := by rw [beq_eq_false_iff_ne]; exact hxc
                  have HNC : Hid (clash (FO.d ⟨yc, yn, ⟨ym, yi⟩, yv, ⟨ya, yd, yl⟩⟩) (FO.d ⟨cl, on, ⟨bm, bi⟩, va, ⟨pa, pc, pl⟩⟩) = false) := Lib.hid (decide_eq_false (fun q => q.elim hyn (fun q => hxc q.2.1)))
                  clear hyn hyc hxc
                  go_wp2_with (first | (have _f := f1; refine wpList_load_mid rfl 42 (.tmp 65) rfl b3 (o3 + m * 6) rfl [.int .i64 yc, .string yn, .int .i64 ym, .int .i64 yi, .int .u32 yv, .slice ya yl.length yd] _ HCY.out Try.underlying42 rfl (by kernel_rfl) ?_; clear _f f1) | (have _f := f2; refine alloc_sep rfl 42 rfl (HSN.out _) (z := .agg #[.int .i64 0, .string ⟨#[]⟩, .int .i64 0, .int .i64 0, .int .u32 0, .slice none 0 0]) (cs := #[.int .i64 0, .string ⟨#[]⟩, .int .i64 0, .int .i64 0, .int .u32 0, .slice none 0 0]) (by kernel_rfl) rfl ?_; intro wc S' b' s'; have HSc := Lib.hid S'; have HBc := Lib.hid b'; clear S' b' s' _f f2) | (have _f := f3; refine store_sep (cells := #[.int .i64 yc, .string yn, .int .i64 ym, .int .i64 yi, .int .u32 yv, .slice ya yl.length yd]) rfl 42 (.tmp 7) (.tmp 66) rfl HSc.out 0 rfl rfl rfl (by kernel_rfl) rfl rfl ?_; intro wf S' k' s'; have HAf : Hid (At wf wr.heap.size #[.int .i64 yc, .string yn, .int .i64 ym, .int .i64 yi, .int .u32 yv, .slice ya yl.length yd] 42) := Lib.hid (S'.at 0 rfl); have HBf : Hid (Below wr.heap.size wr wf) := Lib.hid (((Ke.below (· = wr.heap.size) HBc.out).trans k').toBelow (fun i hi e => absurd e (Nat.ne_of_lt hi))); have HAx := Lib.hid (HAr.out.bel HBf.out); have u0 := (HAf.out.cell 0).trans (show _ = some (.int .i64 yc) from rfl); have u1 := (HAf.out.cell 1).trans (show _ = some (.string yn) from rfl); have u4 := (HAf.out.cell 4).trans (show _ = some (.int .u32 yv) from rfl); have v0 := (HAx.out.cell 0).trans (show _ = some (.int .i64 cl) from rfl); have v1 := (HAx.out.cell 1).trans (show _ = some (.string on) from rfl); have v4 := (HAx.out.cell 4).trans (show _ = some (.int .u32 va) from rfl); clear g3 S' k' s' _f f3))
                  go_roundw
                  case rel =>
                    refine ⟨m + 1, HLM.out, by go_num, fun j z hj hz => ?_, bel_then HBr.out HBf.out⟩
                    rcases Nat.lt_or_ge j m with h | h
                    · exact HM.out j z h hz
                    · obtain rfl : j = m := by omega
                      rw [HY.out] at hz; cases hz; exact HNC.out
                  case measure => simp [intOf]; have := HLM.out; omega
                have hq3 : (cl == 4) = true := by rw [hxc]; rfl
                by_cases hyv : yv = va
                · have hq4 : (yv == va) = true := by rw [hyv, beq_self_eq_true]
                  obtain rfl : M = false := HF4.out (HJ.out.twice HX.out (clash_yes HLM.out HY.out (decide_eq_true (.inr ⟨hyc, hxc, hyv⟩))))
                  clear hyn hyc hxc hyv
                  go_wp2_with (first | (have _f := f1; refine wpList_load_mid rfl 42 (.tmp 65) rfl b3 (o3 + m * 6) rfl [.int .i64 yc, .string yn, .int .i64 ym, .int .i64 yi, .int .u32 yv, .slice ya yl.length yd] _ HCY.out Try.underlying42 rfl (by kernel_rfl) ?_; clear _f f1) | (have _f := f2; refine alloc_sep rfl 42 rfl (HSN.out _) (z := .agg #[.int .i64 0, .string ⟨#[]⟩, .int .i64 0, .int .i64 0, .int .u32 0, .slice none 0 0]) (cs := #[.int .i64 0, .string ⟨#[]⟩, .int .i64 0, .int .i64 0, .int .u32 0, .slice none 0 0]) (by kernel_rfl) rfl ?_; intro wc S' b' s'; have HSc := Lib.hid S'; have HBc := Lib.hid b'; clear S' b' s' _f f2) | (have _f := f3; refine store_sep (cells := #[.int .i64 yc, .string yn, .int .i64 ym, .int .i64 yi, .int .u32 yv, .slice ya yl.length yd]) rfl 42 (.tmp 7) (.tmp 66) rfl HSc.out 0 rfl rfl rfl (by kernel_rfl) rfl rfl ?_; intro wf S' k' s'; have HAf : Hid (At wf wr.heap.size #[.int .i64 yc, .string yn, .int .i64 ym, .int .i64 yi, .int .u32 yv, .slice ya yl.length yd] 42) := Lib.hid (S'.at 0 rfl); have HBf : Hid (Below wr.heap.size wr wf) := Lib.hid (((Ke.below (· = wr.heap.size) HBc.out).trans k').toBelow (fun i hi e => absurd e (Nat.ne_of_lt hi))); have HAx := Lib.hid (HAr.out.bel HBf.out); have u0 := (HAf.out.cell 0).trans (show _ = some (.int .i64 yc) from rfl); have u1 := (HAf.out.cell 1).trans (show _ = some (.string yn) from rfl); have u4 := (HAf.out.cell 4).trans (show _ = some (.int .u32 yv) from rfl); have v0 := (HAx.out.cell 0).trans (show _ = some (.int .i64 cl) from rfl); have v1 := (HAx.out.cell 1).trans (show _ = some (.string on) from rfl); have v4 := (HAx.out.cell 4).trans (show _ = some (.int .u32 va) from rfl); clear g3 S' k' s' _f f3))
                  go_ret
                  exact ⟨rfl, bel_then HBWr.out HBf.out⟩
                have hq4 : (yv == va) = false := by rw [beq_eq_false_iff_ne]; exact hyv
                have HNC : Hid (clash (FO.d ⟨yc, yn, ⟨ym, yi⟩, yv, ⟨ya, yd, yl⟩⟩) (FO.d ⟨cl, on, ⟨bm, bi⟩, va, ⟨pa, pc, pl⟩⟩) = false) := Lib.hid (decide_eq_false (fun q => q.elim hyn (fun q => hyv q.2.2)))
                clear hyn hyc hxc hyv
                go_wp2_with (first | (have _f := f1; refine wpList_load_mid rfl 42 (.tmp 65) rfl b3 (o3 + m * 6) rfl [.int .i64 yc, .string yn, .int .i64 ym, .int .i64 yi, .int .u32 yv, .slice ya yl.length yd] _ HCY.out Try.underlying42 rfl (by kernel_rfl) ?_; clear _f f1) | (have _f := f2; refine alloc_sep rfl 42 rfl (HSN.out _) (z := .agg #[.int .i64 0, .string ⟨#[]⟩, .int .i64 0, .int .i64 0, .int .u32 0, .slice none 0 0]) (cs := #[.int .i64 0, .string ⟨#[]⟩, .int .i64 0, .int .i64 0, .int .u32 0, .slice none 0 0]) (by kernel_rfl) rfl ?_; intro wc S' b' s'; have HSc := Lib.hid S'; have HBc := Lib.hid b'; clear S' b' s' _f f2) | (have _f := f3; refine store_sep (cells := #[.int .i64 yc, .string yn, .int .i64 ym, .int .i64 yi, .int .u32 yv, .slice ya yl.length yd]) rfl 42 (.tmp 7) (.tmp 66) rfl HSc.out 0 rfl rfl rfl (by kernel_rfl) rfl rfl ?_; intro wf S' k' s'; have HAf : Hid (At wf wr.heap.size #[.int .i64 yc, .string yn, .int .i64 ym, .int .i64 yi, .int .u32 yv, .slice ya yl.length yd] 42) := Lib.hid (S'.at 0 rfl); have HBf : Hid (Below wr.heap.size wr wf) := Lib.hid (((Ke.below (· = wr.heap.size) HBc.out).trans k').toBelow (fun i hi e => absurd e (Nat.ne_of_lt hi))); have HAx := Lib.hid (HAr.out.bel HBf.out); have u0 := (HAf.out.cell 0).trans (show _ = some (.int .i64 yc) from rfl); have u1 := (HAf.out.cell 1).trans (show _ = some (.string yn) from rfl); have u4 := (HAf.out.cell 4).trans (show _ = some (.int .u32 yv) from rfl); have v0 := (HAx.out.cell 0).trans (show _ = some (.int .i64 cl) from rfl); have v1 := (HAx.out.cell 1).trans (show _ = some (.string on) from rfl); have v4 := (HAx.out.cell 4).trans (show _ = some (.int .u32 va) from rfl); clear g3 S' k' s' _f f3))
                go_roundw
                case rel =>
                  refine ⟨m + 1, HLM.out, by go_num, fun j z hj hz => ?_, bel_then HBr.out HBf.out⟩
                  rcases Nat.lt_or_ge j m with h | h
                  · exact HM.out j z h hz
                  · obtain rfl : j = m := by omega
                    rw [HY.out] at hz; cases hz; exact HNC.out
                case measure => simp [intOf]; have := HLM.out; omega
              · obtain rfl : m = k := by omega
                have HN : Hid (ObjTo E l3 (m + 1)) := Lib.hid (HJ.out.next HX.out HV.out (clash_no HM.out))
                go_wp2_with (fail)
                go_roundw
                case rel => exact ⟨m + 1, HLT.out, by go_num, HN.out, bel_then HB.out (bel_then HB4.out HBr.out)⟩
                case measure => simp [intOf]; have := HLT.out; omega
        · obtain rfl : M = true := HF5.out HMV.out ⟨H2.out, H3.out⟩ HALL.out (HJ.out.done (by omega))
          clear hk
          go_wp2_with (fail)
          go_ret
          exact ⟨rfl, HBT.out⟩
end Go.Proofs.Ytfnibpkojhgflaa
