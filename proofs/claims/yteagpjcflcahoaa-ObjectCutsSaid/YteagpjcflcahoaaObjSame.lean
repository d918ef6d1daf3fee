/- Contracts: bytes.Equal, object.Same. Printed by bin/gen_objsame.py. -/
import Derived.Test.YteagpjcflcahoaaObjEq2
namespace Go.Proofs.Yteagpjcflcahoaa
set_option linter.unusedVariables false
set_option linter.unusedSimpArgs false
open Go.RowKit

theorem strOf_eq {l m : List Int} (hl : ∀ x ∈ l, isByte x) (hm : ∀ x ∈ m, isByte x) : ((strOf l).toList == (strOf m).toList) = eqB l m := by
  rw [Bool.eq_iff_iff, str_beq, eqB_iff]
  exact ⟨fun h => by rw [← bytesI_strL hl, ← bytesI_strL hm]; exact congrArg bytesI h, fun h => by rw [h]⟩
theorem rdi_byte {w : World} {a : Option Addr} {c : Nat} {l : List Int} (h : RdI .u8 w a c l) : ∀ x ∈ l, isByte x := fun x hx => bd_u8 (h.bd x hx)

theorem bytesEq_walk {a1 a2 : Option Addr} {c1 c2 : Nat} {l m : List Int} (w : World) (hl : RdI .u8 w a1 c1 l) (hm : RdI .u8 w a2 c2 m) :
    Calls Try.prog 17 #[.slice a1 l.length c1, .slice a2 m.length c2] w fun e w' => e = .returned (.bool (eqB l m)) ∧ w = w' := by
  have h1 := run_str_of (P := Try.prog) (dst := 9) hl Try.underlying24 Try.underlying5 Try.underlying9
  have h2 := run_str_of (P := Try.prog) (dst := 9) hm Try.underlying24 Try.underlying5 Try.underlying9
  have h3 := strOf_eq (rdi_byte hl) (rdi_byte hm)
  obtain ⟨b, hb⟩ : ∃ b, eqB l m = b := ⟨_, rfl⟩
  obtain ⟨x, hx⟩ : ∃ x, strOf l = x := ⟨_, rfl⟩
  obtain ⟨y, hy⟩ : ∃ y, strOf m = y := ⟨_, rfl⟩
  rw [hx] at h1 h3
  rw [hy] at h2 h3
  rw [hb] at h3 ⊢
  clear hl hm hx hy hb
  go_enter Try.func17, Try.ntmps17
  go_wp2
  go_ret
  exact ⟨rfl, rfl⟩

def sameB (x y : OD) : Prop := x = y
theorem od_eq {x y : OD} (h1 : x.name = y.name) (h2 : x.key = y.key) (h3 : x.imps = y.imps) (h4 : x.vars = y.vars) (h5 : x.text = y.text) (h6 : x.code = y.code) (h7 : x.entries = y.entries) (h8 : x.fixups = y.fixups) : x = y := by
  obtain ⟨_, _, _, _, _, _, _, _⟩ := x
  obtain ⟨_, _, _, _, _, _, _, _⟩ := y
  dsimp only at h1 h2 h3 h4 h5 h6 h7 h8
  subst h1; subst h2; subst h3; subst h4; subst h5; subst h6; subst h7; subst h8
  rfl

set_option maxRecDepth 100000 in
set_option maxHeartbeats 8000000 in
theorem same_walk (x y : Obj) (w : World) (hx : x.Rd w) (hy : y.Rd w) :
    Calls Try.prog 10 #[x.val, y.val] w fun e w' => e = .returned (.bool (eqB x.d y.d)) ∧ Below w.heap.size w w' := by
  have HX := Lib.hid hx
  have HY := Lib.hid hy
  clear hx hy
  obtain ⟨nm, ky, ⟨a2, c2, l2⟩, vs, ⟨a4, c4, l4⟩, ⟨a5, c5, l5⟩, ⟨a6, c6, l6⟩, ⟨a7, c7, l7⟩⟩ := x
  obtain ⟨nn, kk, ⟨d2, e2, m2⟩, us, ⟨d4, e4, m4⟩, ⟨d5, e5, m5⟩, ⟨d6, e6, m6⟩, ⟨d7, e7, m7⟩⟩ := y
  show Calls _ _ #[.agg #[.string nm, .int .u32 ky, .slice a2 l2.length c2, .int .i64 vs, .slice a4 l4.length c4, .slice a5 l5.length c5, .slice a6 l6.length c6, .slice a7 l7.length c7], .agg #[.string nn, .int .u32 kk, .slice d2 m2.length e2, .int .i64 us, .slice d4 m4.length e4, .slice d5 m5.length e5, .slice d6 m6.length e6, .slice d7 m7.length e7]] w fun e w' => e = .returned (.bool (eqB (⟨nm, ky, l2, vs, l4, l5, l6, l7⟩ : OD) (⟨nn, kk, m2, us, m4, m5, m6, m7⟩ : OD))) ∧ _
  obtain ⟨V, hV⟩ : ∃ V, V = eqB (⟨nm, ky, l2, vs, l4, l5, l6, l7⟩ : OD) (⟨nn, kk, m2, us, m4, m5, m6, m7⟩ : OD) := ⟨_, rfl⟩
  rw [← hV]
  have HV := Lib.hid hV
  clear hV
  have HB0 := Lib.hid (bel2 w (.cells #[.string nm, .int .u32 ky, .slice a2 l2.length c2, .int .i64 vs, .slice a4 l4.length c4, .slice a5 l5.length c5, .slice a6 l6.length c6, .slice a7 l7.length c7] 29) (.cells #[.string nn, .int .u32 kk, .slice d2 m2.length e2, .int .i64 us, .slice d4 m4.length e4, .slice d5 m5.length e5, .slice d6 m6.length e6, .slice d7 m7.length e7] 29))
  have HGX : Hid (At ((w.alloc (.cells #[.string nm, .int .u32 ky, .slice a2 l2.length c2, .int .i64 vs, .slice a4 l4.length c4, .slice a5 l5.length c5, .slice a6 l6.length c6, .slice a7 l7.length c7] 29)).alloc (.cells #[.string nn, .int .u32 kk, .slice d2 m2.length e2, .int .i64 us, .slice d4 m4.length e4, .slice d5 m5.length e5, .slice d6 m6.length e6, .slice d7 m7.length e7] 29)) w.heap.size #[.string nm, .int .u32 ky, .slice a2 l2.length c2, .int .i64 vs, .slice a4 l4.length c4, .slice a5 l5.length c5, .slice a6 l6.length c6, .slice a7 l7.length c7] 29) := Lib.hid ((At.new w _ 29).old _)
  have HGY : Hid (At ((w.alloc (.cells #[.string nm, .int .u32 ky, .slice a2 l2.length c2, .int .i64 vs, .slice a4 l4.length c4, .slice a5 l5.length c5, .slice a6 l6.length c6, .slice a7 l7.length c7] 29)).alloc (.cells #[.string nn, .int .u32 kk, .slice d2 m2.length e2, .int .i64 us, .slice d4 m4.length e4, .slice d5 m5.length e5, .slice d6 m6.length e6, .slice d7 m7.length e7] 29)) (w.heap.size + 1) #[.string nn, .int .u32 kk, .slice d2 m2.length e2, .int .i64 us, .slice d4 m4.length e4, .slice d5 m5.length e5, .slice d6 m6.length e6, .slice d7 m7.length e7] 29) := Lib.hid (by have := At.new (w.alloc (.cells #[.string nm, .int .u32 ky, .slice a2 l2.length c2, .int .i64 vs, .slice a4 l4.length c4, .slice a5 l5.length c5, .slice a6 l6.length c6, .slice a7 l7.length c7] 29)) #[.string nn, .int .u32 kk, .slice d2 m2.length e2, .int .i64 us, .slice d4 m4.length e4, .slice d5 m5.length e5, .slice d6 m6.length e6, .slice d7 m7.length e7] 29; rwa [show (w.alloc (.cells #[.string nm, .int .u32 ky, .slice a2 l2.length c2, .int .i64 vs, .slice a4 l4.length c4, .slice a5 l5.length c5, .slice a6 l6.length c6, .slice a7 l7.length c7] 29)).heap.size = w.heap.size + 1 by simp] at this)
  by_cases h0 : nm = nn
  rotate_left
  · have HE : Hid (false = eqB (⟨nm, ky, l2, vs, l4, l5, l6, l7⟩ : OD) (⟨nn, kk, m2, us, m4, m5, m6, m7⟩ : OD)) := Lib.hid (eqB_no (fun e => h0 (congrArg OD.name e))).symm
    have q0 : (nm.toList == nn.toList) = false := by rw [Bool.eq_false_iff]; exact fun e => h0 (str_beq.1 e)
    clear h0
    go_enter Try.func10, Try.ntmps10
    go_wp2
    go_ret
    exact ⟨ret_bool (HE.out.trans HV.out.symm), HB0.out⟩
  have q0 : (nm.toList == nn.toList) = true := str_beq.2 h0
  have E0 := Lib.hid h0
  clear h0
  by_cases h1 : ky = kk
  rotate_left
  · have HE : Hid (false = eqB (⟨nm, ky, l2, vs, l4, l5, l6, l7⟩ : OD) (⟨nn, kk, m2, us, m4, m5, m6, m7⟩ : OD)) := Lib.hid (eqB_no (fun e => h1 (congrArg OD.key e))).symm
    have q1 : (ky == kk) = false := by rw [beq_eq_false_iff_ne]; exact h1
    clear h1
    go_enter Try.func10, Try.ntmps10
    go_wp2
    go_ret
    exact ⟨ret_bool (HE.out.trans HV.out.symm), HB0.out⟩
  have q1 : (ky == kk) = true := by rw [beq_iff_eq]; exact h1
  have E1 := Lib.hid h1
  clear h1
  by_cases h2 : l2 = m2
  rotate_left
  · have HE : Hid (false = eqB (⟨nm, ky, l2, vs, l4, l5, l6, l7⟩ : OD) (⟨nn, kk, m2, us, m4, m5, m6, m7⟩ : OD)) := Lib.hid (eqB_no (fun e => h2 (congrArg OD.imps e))).symm
    have HQ2 : Hid (eqB l2 m2 = false) := Lib.hid (eqB_no h2)
    clear h2
    have f2 : True := trivial
    go_enter Try.func10, Try.ntmps10
    go_wp2_with (first | (have _f := f2; refine (eqimp_walk ⟨a2, c2, l2⟩ ⟨d2, e2, m2⟩ _ (HX.out.imps.bel HB0.out) (HY.out.imps.bel HB0.out)).mono ?_; dsimp only; rw [HQ2.out]; rintro e w2 ⟨rfl, hb⟩; have HB2 := Lib.hid (bel_then HB0.out hb); have AX2 := Lib.hid (HGX.out.bel hb); have AY2 := Lib.hid (HGY.out.bel hb); have gx3 := (AX2.out.cell 3).trans (show _ = some _ from rfl); have gy3 := (AY2.out.cell 3).trans (show _ = some _ from rfl); have gx4 := (AX2.out.cell 4).trans (show _ = some _ from rfl); have gy4 := (AY2.out.cell 4).trans (show _ = some _ from rfl); clear hb _f f2))
    go_ret
    exact ⟨ret_bool (HE.out.trans HV.out.symm), HB2.out⟩
  have HQ2 : Hid (eqB l2 m2 = true) := Lib.hid (eqB_yes h2)
  have E2 := Lib.hid h2
  clear h2
  by_cases h3 : vs = us
  rotate_left
  · have HE : Hid (false = eqB (⟨nm, ky, l2, vs, l4, l5, l6, l7⟩ : OD) (⟨nn, kk, m2, us, m4, m5, m6, m7⟩ : OD)) := Lib.hid (eqB_no (fun e => h3 (congrArg OD.vars e))).symm
    have q3 : (vs == us) = false := by rw [beq_eq_false_iff_ne]; exact h3
    clear h3
    have f2 : True := trivial
    go_enter Try.func10, Try.ntmps10
    go_wp2_with (first | (have _f := f2; refine (eqimp_walk ⟨a2, c2, l2⟩ ⟨d2, e2, m2⟩ _ (HX.out.imps.bel HB0.out) (HY.out.imps.bel HB0.out)).mono ?_; dsimp only; rw [HQ2.out]; rintro e w2 ⟨rfl, hb⟩; have HB2 := Lib.hid (bel_then HB0.out hb); have AX2 := Lib.hid (HGX.out.bel hb); have AY2 := Lib.hid (HGY.out.bel hb); have gx3 := (AX2.out.cell 3).trans (show _ = some _ from rfl); have gy3 := (AY2.out.cell 3).trans (show _ = some _ from rfl); have gx4 := (AX2.out.cell 4).trans (show _ = some _ from rfl); have gy4 := (AY2.out.cell 4).trans (show _ = some _ from rfl); clear hb _f f2))
    go_ret
    exact ⟨ret_bool (HE.out.trans HV.out.symm), HB2.out⟩
  have q3 : (vs == us) = true := by rw [beq_iff_eq]; exact h3
  have E3 := Lib.hid h3
  clear h3
  by_cases h4 : l4 = m4
  rotate_left
  · have HE : Hid (false = eqB (⟨nm, ky, l2, vs, l4, l5, l6, l7⟩ : OD) (⟨nn, kk, m2, us, m4, m5, m6, m7⟩ : OD)) := Lib.hid (eqB_no (fun e => h4 (congrArg OD.text e))).symm
    have HQ4 : Hid (eqB l4 m4 = false) := Lib.hid (eqB_no h4)
    clear h4
    have f2 : True := trivial
    have f4 : True := trivial
    go_enter Try.func10, Try.ntmps10
    go_wp2_with (first | (have _f := f2; refine (eqimp_walk ⟨a2, c2, l2⟩ ⟨d2, e2, m2⟩ _ (HX.out.imps.bel HB0.out) (HY.out.imps.bel HB0.out)).mono ?_; dsimp only; rw [HQ2.out]; rintro e w2 ⟨rfl, hb⟩; have HB2 := Lib.hid (bel_then HB0.out hb); have AX2 := Lib.hid (HGX.out.bel hb); have AY2 := Lib.hid (HGY.out.bel hb); have gx3 := (AX2.out.cell 3).trans (show _ = some _ from rfl); have gy3 := (AY2.out.cell 3).trans (show _ = some _ from rfl); have gx4 := (AX2.out.cell 4).trans (show _ = some _ from rfl); have gy4 := (AY2.out.cell 4).trans (show _ = some _ from rfl); clear hb _f f2) | (have _f := f4; refine (bytesEq_walk _ (HX.out.text.bel HB2.out).rdI (HY.out.text.bel HB2.out).rdI).mono ?_; rw [HQ4.out]; rintro e w4 ⟨rfl, rfl⟩; clear _f f4; have gx5 := (AX2.out.cell 5).trans (show _ = some _ from rfl); have gy5 := (AY2.out.cell 5).trans (show _ = some _ from rfl)))
    go_ret
    exact ⟨ret_bool (HE.out.trans HV.out.symm), HB2.out⟩
  have HQ4 : Hid (eqB l4 m4 = true) := Lib.hid (eqB_yes h4)
  have E4 := Lib.hid h4
  clear h4
  by_cases h5 : l5 = m5
  rotate_left
  · have HE : Hid (false = eqB (⟨nm, ky, l2, vs, l4, l5, l6, l7⟩ : OD) (⟨nn, kk, m2, us, m4, m5, m6, m7⟩ : OD)) := Lib.hid (eqB_no (fun e => h5 (congrArg OD.code e))).symm
    have HQ5 : Hid (eqB l5 m5 = false) := Lib.hid (eqB_no h5)
    clear h5
    have f2 : True := trivial
    have f4 : True := trivial
    have f5 : True := trivial
    go_enter Try.func10, Try.ntmps10
    go_wp2_with (first | (have _f := f2; refine (eqimp_walk ⟨a2, c2, l2⟩ ⟨d2, e2, m2⟩ _ (HX.out.imps.bel HB0.out) (HY.out.imps.bel HB0.out)).mono ?_; dsimp only; rw [HQ2.out]; rintro e w2 ⟨rfl, hb⟩; have HB2 := Lib.hid (bel_then HB0.out hb); have AX2 := Lib.hid (HGX.out.bel hb); have AY2 := Lib.hid (HGY.out.bel hb); have gx3 := (AX2.out.cell 3).trans (show _ = some _ from rfl); have gy3 := (AY2.out.cell 3).trans (show _ = some _ from rfl); have gx4 := (AX2.out.cell 4).trans (show _ = some _ from rfl); have gy4 := (AY2.out.cell 4).trans (show _ = some _ from rfl); clear hb _f f2) | (have _f := f4; refine (bytesEq_walk _ (HX.out.text.bel HB2.out).rdI (HY.out.text.bel HB2.out).rdI).mono ?_; rw [HQ4.out]; rintro e w4 ⟨rfl, rfl⟩; clear _f f4; have gx5 := (AX2.out.cell 5).trans (show _ = some _ from rfl); have gy5 := (AY2.out.cell 5).trans (show _ = some _ from rfl)) | (have _f := f5; refine (equ32_walk ⟨a5, c5, l5⟩ ⟨d5, e5, m5⟩ _ (HX.out.code.bel HB2.out) (HY.out.code.bel HB2.out)).mono ?_; dsimp only; rw [HQ5.out]; rintro e w5 ⟨rfl, hb⟩; have HB5 := Lib.hid (bel_then HB2.out hb); have AX5 := Lib.hid (AX2.out.bel hb); have AY5 := Lib.hid (AY2.out.bel hb); have gx6 := (AX5.out.cell 6).trans (show _ = some _ from rfl); have gy6 := (AY5.out.cell 6).trans (show _ = some _ from rfl); clear hb _f f5))
    go_ret
    exact ⟨ret_bool (HE.out.trans HV.out.symm), HB5.out⟩
  have HQ5 : Hid (eqB l5 m5 = true) := Lib.hid (eqB_yes h5)
  have E5 := Lib.hid h5
  clear h5
  by_cases h6 : l6 = m6
  rotate_left
  · have HE : Hid (false = eqB (⟨nm, ky, l2, vs, l4, l5, l6, l7⟩ : OD) (⟨nn, kk, m2, us, m4, m5, m6, m7⟩ : OD)) := Lib.hid (eqB_no (fun e => h6 (congrArg OD.entries e))).symm
    have HQ6 : Hid (eqB l6 m6 = false) := Lib.hid (eqB_no h6)
    clear h6
    have f2 : True := trivial
    have f4 : True := trivial
    have f5 : True := trivial
    have f6 : True := trivial
    go_enter Try.func10, Try.ntmps10
    go_wp2_with (first | (have _f := f2; refine (eqimp_walk ⟨a2, c2, l2⟩ ⟨d2, e2, m2⟩ _ (HX.out.imps.bel HB0.out) (HY.out.imps.bel HB0.out)).mono ?_; dsimp only; rw [HQ2.out]; rintro e w2 ⟨rfl, hb⟩; have HB2 := Lib.hid (bel_then HB0.out hb); have AX2 := Lib.hid (HGX.out.bel hb); have AY2 := Lib.hid (HGY.out.bel hb); have gx3 := (AX2.out.cell 3).trans (show _ = some _ from rfl); have gy3 := (AY2.out.cell 3).trans (show _ = some _ from rfl); have gx4 := (AX2.out.cell 4).trans (show _ = some _ from rfl); have gy4 := (AY2.out.cell 4).trans (show _ = some _ from rfl); clear hb _f f2) | (have _f := f4; refine (bytesEq_walk _ (HX.out.text.bel HB2.out).rdI (HY.out.text.bel HB2.out).rdI).mono ?_; rw [HQ4.out]; rintro e w4 ⟨rfl, rfl⟩; clear _f f4; have gx5 := (AX2.out.cell 5).trans (show _ = some _ from rfl); have gy5 := (AY2.out.cell 5).trans (show _ = some _ from rfl)) | (have _f := f5; refine (equ32_walk ⟨a5, c5, l5⟩ ⟨d5, e5, m5⟩ _ (HX.out.code.bel HB2.out) (HY.out.code.bel HB2.out)).mono ?_; dsimp only; rw [HQ5.out]; rintro e w5 ⟨rfl, hb⟩; have HB5 := Lib.hid (bel_then HB2.out hb); have AX5 := Lib.hid (AX2.out.bel hb); have AY5 := Lib.hid (AY2.out.bel hb); have gx6 := (AX5.out.cell 6).trans (show _ = some _ from rfl); have gy6 := (AY5.out.cell 6).trans (show _ = some _ from rfl); clear hb _f f5) | (have _f := f6; refine (eqint_walk ⟨a6, c6, l6⟩ ⟨d6, e6, m6⟩ _ (HX.out.entries.bel HB5.out) (HY.out.entries.bel HB5.out)).mono ?_; dsimp only; rw [HQ6.out]; rintro e w6 ⟨rfl, hb⟩; have HB6 := Lib.hid (bel_then HB5.out hb); have AX6 := Lib.hid (AX5.out.bel hb); have AY6 := Lib.hid (AY5.out.bel hb); have gx7 := (AX6.out.cell 7).trans (show _ = some _ from rfl); have gy7 := (AY6.out.cell 7).trans (show _ = some _ from rfl); clear hb _f f6))
    go_ret
    exact ⟨ret_bool (HE.out.trans HV.out.symm), HB6.out⟩
  have HQ6 : Hid (eqB l6 m6 = true) := Lib.hid (eqB_yes h6)
  have E6 := Lib.hid h6
  clear h6
  by_cases h7 : l7 = m7
  rotate_left
  · have HE : Hid (false = eqB (⟨nm, ky, l2, vs, l4, l5, l6, l7⟩ : OD) (⟨nn, kk, m2, us, m4, m5, m6, m7⟩ : OD)) := Lib.hid (eqB_no (fun e => h7 (congrArg OD.fixups e))).symm
    have HQ7 : Hid (eqB l7 m7 = false) := Lib.hid (eqB_no h7)
    clear h7
    have f2 : True := trivial
    have f4 : True := trivial
    have f5 : True := trivial
    have f6 : True := trivial
    have f7 : True := trivial
    go_enter Try.func10, Try.ntmps10
    go_wp2_with (first | (have _f := f2; refine (eqimp_walk ⟨a2, c2, l2⟩ ⟨d2, e2, m2⟩ _ (HX.out.imps.bel HB0.out) (HY.out.imps.bel HB0.out)).mono ?_; dsimp only; rw [HQ2.out]; rintro e w2 ⟨rfl, hb⟩; have HB2 := Lib.hid (bel_then HB0.out hb); have AX2 := Lib.hid (HGX.out.bel hb); have AY2 := Lib.hid (HGY.out.bel hb); have gx3 := (AX2.out.cell 3).trans (show _ = some _ from rfl); have gy3 := (AY2.out.cell 3).trans (show _ = some _ from rfl); have gx4 := (AX2.out.cell 4).trans (show _ = some _ from rfl); have gy4 := (AY2.out.cell 4).trans (show _ = some _ from rfl); clear hb _f f2) | (have _f := f4; refine (bytesEq_walk _ (HX.out.text.bel HB2.out).rdI (HY.out.text.bel HB2.out).rdI).mono ?_; rw [HQ4.out]; rintro e w4 ⟨rfl, rfl⟩; clear _f f4; have gx5 := (AX2.out.cell 5).trans (show _ = some _ from rfl); have gy5 := (AY2.out.cell 5).trans (show _ = some _ from rfl)) | (have _f := f5; refine (equ32_walk ⟨a5, c5, l5⟩ ⟨d5, e5, m5⟩ _ (HX.out.code.bel HB2.out) (HY.out.code.bel HB2.out)).mono ?_; dsimp only; rw [HQ5.out]; rintro e w5 ⟨rfl, hb⟩; have HB5 := Lib.hid (bel_then HB2.out hb); have AX5 := Lib.hid (AX2.out.bel hb); have AY5 := Lib.hid (AY2.out.bel hb); have gx6 := (AX5.out.cell 6).trans (show _ = some _ from rfl); have gy6 := (AY5.out.cell 6).trans (show _ = some _ from rfl); clear hb _f f5) | (have _f := f6; refine (eqint_walk ⟨a6, c6, l6⟩ ⟨d6, e6, m6⟩ _ (HX.out.entries.bel HB5.out) (HY.out.entries.bel HB5.out)).mono ?_; dsimp only; rw [HQ6.out]; rintro e w6 ⟨rfl, hb⟩; have HB6 := Lib.hid (bel_then HB5.out hb); have AX6 := Lib.hid (AX5.out.bel hb); have AY6 := Lib.hid (AY5.out.bel hb); have gx7 := (AX6.out.cell 7).trans (show _ = some _ from rfl); have gy7 := (AY6.out.cell 7).trans (show _ = some _ from rfl); clear hb _f f6) | (have _f := f7; refine (eqfix_walk ⟨a7, c7, l7⟩ ⟨d7, e7, m7⟩ _ (HX.out.fixups.bel HB6.out) (HY.out.fixups.bel HB6.out)).mono ?_; dsimp only; rw [HQ7.out]; rintro e w7 ⟨rfl, hb⟩; have HB7 := Lib.hid (bel_then HB6.out hb); have AX7 := Lib.hid (AX6.out.bel hb); have AY7 := Lib.hid (AY6.out.bel hb); clear hb _f f7))
    go_ret
    exact ⟨ret_bool (HE.out.trans HV.out.symm), HB7.out⟩
  have HQ7 : Hid (eqB l7 m7 = true) := Lib.hid (eqB_yes h7)
  have E7 := Lib.hid h7
  clear h7
  have HE : Hid (true = eqB (⟨nm, ky, l2, vs, l4, l5, l6, l7⟩ : OD) (⟨nn, kk, m2, us, m4, m5, m6, m7⟩ : OD)) := Lib.hid (eqB_yes (od_eq E0.out E1.out E2.out E3.out E4.out E5.out E6.out E7.out)).symm
  have f2 : True := trivial
  have f4 : True := trivial
  have f5 : True := trivial
  have f6 : True := trivial
  have f7 : True := trivial
  go_enter Try.func10, Try.ntmps10
  go_wp2_with (first | (have _f := f2; refine (eqimp_walk ⟨a2, c2, l2⟩ ⟨d2, e2, m2⟩ _ (HX.out.imps.bel HB0.out) (HY.out.imps.bel HB0.out)).mono ?_; dsimp only; rw [HQ2.out]; rintro e w2 ⟨rfl, hb⟩; have HB2 := Lib.hid (bel_then HB0.out hb); have AX2 := Lib.hid (HGX.out.bel hb); have AY2 := Lib.hid (HGY.out.bel hb); have gx3 := (AX2.out.cell 3).trans (show _ = some _ from rfl); have gy3 := (AY2.out.cell 3).trans (show _ = some _ from rfl); have gx4 := (AX2.out.cell 4).trans (show _ = some _ from rfl); have gy4 := (AY2.out.cell 4).trans (show _ = some _ from rfl); clear hb _f f2) | (have _f := f4; refine (bytesEq_walk _ (HX.out.text.bel HB2.out).rdI (HY.out.text.bel HB2.out).rdI).mono ?_; rw [HQ4.out]; rintro e w4 ⟨rfl, rfl⟩; clear _f f4; have gx5 := (AX2.out.cell 5).trans (show _ = some _ from rfl); have gy5 := (AY2.out.cell 5).trans (show _ = some _ from rfl)) | (have _f := f5; refine (equ32_walk ⟨a5, c5, l5⟩ ⟨d5, e5, m5⟩ _ (HX.out.code.bel HB2.out) (HY.out.code.bel HB2.out)).mono ?_; dsimp only; rw [HQ5.out]; rintro e w5 ⟨rfl, hb⟩; have HB5 := Lib.hid (bel_then HB2.out hb); have AX5 := Lib.hid (AX2.out.bel hb); have AY5 := Lib.hid (AY2.out.bel hb); have gx6 := (AX5.out.cell 6).trans (show _ = some _ from rfl); have gy6 := (AY5.out.cell 6).trans (show _ = some _ from rfl); clear hb _f f5) | (have _f := f6; refine (eqint_walk ⟨a6, c6, l6⟩ ⟨d6, e6, m6⟩ _ (HX.out.entries.bel HB5.out) (HY.out.entries.bel HB5.out)).mono ?_; dsimp only; rw [HQ6.out]; rintro e w6 ⟨rfl, hb⟩; have HB6 := Lib.hid (bel_then HB5.out hb); have AX6 := Lib.hid (AX5.out.bel hb); have AY6 := Lib.hid (AY5.out.bel hb); have gx7 := (AX6.out.cell 7).trans (show _ = some _ from rfl); have gy7 := (AY6.out.cell 7).trans (show _ = some _ from rfl); clear hb _f f6) | (have _f := f7; refine (eqfix_walk ⟨a7, c7, l7⟩ ⟨d7, e7, m7⟩ _ (HX.out.fixups.bel HB6.out) (HY.out.fixups.bel HB6.out)).mono ?_; dsimp only; rw [HQ7.out]; rintro e w7 ⟨rfl, hb⟩; have HB7 := Lib.hid (bel_then HB6.out hb); have AX7 := Lib.hid (AX6.out.bel hb); have AY7 := Lib.hid (AY6.out.bel hb); clear hb _f f7))
  go_ret
  exact ⟨ret_bool (HE.out.trans HV.out.symm), HB7.out⟩
end Go.Proofs.Yteagpjcflcahoaa
