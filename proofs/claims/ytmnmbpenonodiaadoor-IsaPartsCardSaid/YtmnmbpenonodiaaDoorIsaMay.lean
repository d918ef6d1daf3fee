/- Contract of isa.May at an instruction that may be. -/
import Derived.Test.YtmnmbpenonodiaaDoorIsaBare
import Derived.Test.YtmnmbpenonodiaaDoorInsEq
import Derived.Test.YtmnmbpenonodiaaDoorRiscIsa
namespace Go.Proofs.YtmnmbpenonodiaaDoor
set_option linter.unusedVariables false
set_option linter.unusedSimpArgs false
open Go.RowKit

theorem imay_op {i : Ins} (h : i.May) (hf : i.form ≤ 1) : mayOp i = true := by
  have h1 := h.odd hf
  have h2 := h.mov hf
  obtain ⟨form, u, v, a, b, c, op, im, off, cond, n⟩ := i
  have h0 := h.form
  have h3 := h.reg
  simp only at *
  unfold mayOp
  simp only
  by_cases ho : op = 0
  · subst ho
    obtain ⟨rfl, h4⟩ := h2 rfl
    cases u
    · simp
    · rcases h4 rfl with ⟨rfl, rfl⟩ | ⟨rfl, hc⟩
      · simp
      · obtain ⟨rfl, _⟩ := h3 rfl
        have : c ≤ 1 := by omega
        simp [this]
  · cases u
    · simp [ho]
    · have := h1 rfl
      simp [ho]; omega

set_option maxRecDepth 20000 in
set_option maxHeartbeats 8000000 in
theorem imay_0 (u : Bool) (a b c op : Int) (w : World) (hm : Ins.May (Ins.mk 0 u false a b c op 0 0 0 0)) : Calls Tryd.prog 19 #[(Ins.mk 0 u false a b c op 0 0 0 0).val] w fun e w' => e = .returned (.bool true) ∧ Below w.heap.size w w' := by
  have HM := Lib.hid hm
  clear hm
  have H0 := (Sep.nil w).alloc #[.int .i64 0, .bool u, .bool false, .int .i64 a, .int .i64 b, .int .i64 c, .int .i64 op, .int .i64 0, .int .i64 0, .int .i64 0, .int .i64 0] 29
  have B0 := Lib.hid (bel1 w (.cells #[.int .i64 0, .bool u, .bool false, .int .i64 a, .int .i64 b, .int .i64 c, .int .i64 op, .int .i64 0, .int .i64 0, .int .i64 0, .int .i64 0] 29))
  go_enter Tryd.func19, Tryd.ntmps19
  go_wp2_with fail
  refine wp_region_mix' [([0, 1], 2), ([3, 4, 5, 6, 7, 8, 9, 10, 11, 12, 13, 14, 15, 16], 17), ([18, 19, 20, 21, 22], 23), ([24, 25, 26, 27, 28], 29), ([30, 31, 32, 33, 34], 35), ([36, 37, 38, 39, 40], 41), ([42, 43, 44, 45, 46], 47), ([48, 49, 50, 51, 52], 53)] [54, 55] (by kernel_rfl) (by kernel_rfl) (fun _ _ d _ _ h => by cases d <;> exact h) ?_
  intro w1 hb
  have H1 := H0.bel hb
  have B1 := Lib.hid (bel_then B0.out hb)
  clear hb
  refine mix_step ?_
  simp only [pickOps, nth]
  (go_big_quiet_want; refine quiet_row 29 (.tmp 1) rfl rfl (fun x => ((H1.at 0 rfl).laterB x).loads Tryd.underlying29 rfl (by kernel_rfl)) ?_; go_big_quiet_on)
  simp only [Act.put, List.setIfInBounds_toArray, List.set_cons_succ, List.set_cons_zero]
  (go_big_quiet_want; refine quiet_row 29 (.tmp 1) rfl rfl (fun x => ((H1.at 0 rfl).laterB x).loads Tryd.underlying29 rfl (by kernel_rfl)) ?_; go_big_quiet_on)
  simp only [Act.put, List.setIfInBounds_toArray, List.set_cons_succ, List.set_cons_zero]
  refine wpQuiet_nil ?_
  go_wp2_with fail
  refine (bare_0 u a b c op _).mono ?_
  rintro e w2 ⟨rfl, hb⟩
  have H2 := H1.bel hb
  have K2 := Lib.hid hb
  have B2 := Lib.hid (bel_then B1.out hb)
  clear hb
  go_wp2_with fail
  refine ⟨K2.out, mix_step ?_⟩
  have l0 := (H2.at 0 rfl).laterCellB 0 (v := .int .i64 0) rfl
  have l3 := (H2.at 0 rfl).laterCellB 3 (v := .int .i64 a) rfl
  have l4 := (H2.at 0 rfl).laterCellB 4 (v := .int .i64 b) rfl
  have l5 := (H2.at 0 rfl).laterCellB 5 (v := .int .i64 c) rfl
  have l6 := (H2.at 0 rfl).laterCellB 6 (v := .int .i64 op) rfl
  have l7 := (H2.at 0 rfl).laterCellB 7 (v := .int .i64 0) rfl
  have l9 := (H2.at 0 rfl).laterCellB 9 (v := .int .i64 0) rfl
  have l10 := (H2.at 0 rfl).laterCellB 10 (v := .int .i64 0) rfl
  simp only [pickOps, nth, Act.put, List.setIfInBounds_toArray, List.set_cons_succ, List.set_cons_zero]
  (go_big_quiet_want; refine quiet_neq_ins (.tmp 3) (.tmp 5) rfl (Ins.mk 0 u false a b c op 0 0 0 0) (Ins.mk 0 u false a b c op 0 0 0 0) HM.out.fit HM.out.fit rfl rfl false (by simp) ?_; go_big_quiet_on)
  simp only [Act.put, List.setIfInBounds_toArray, List.set_cons_succ, List.set_cons_zero]
  (repeat (go_big_quiet_step (fail)))
  refine wpQuiet_nil ?_
  go_wp2_with fail
  refine (within_walk a 16 _ (by have := HM.out; have h1 := this.a; have h2 := this.b; have h3 := this.c; have h4 := this.op; have h5 := this.im; have h6 := this.cond; have h7 := this.n; simp only at h1 h2 h3 h4 h5 h6 h7; omega)).mono ?_
  rintro e w' ⟨rfl, rfl⟩
  go_wp2_with fail
  refine ⟨Below.refl _ _, mix_step ?_⟩
  simp only [pickOps, nth, Act.put, List.setIfInBounds_toArray, List.set_cons_succ, List.set_cons_zero]
  (repeat (go_big_quiet_step (fail)))
  refine wpQuiet_nil ?_
  go_wp2_with fail
  refine (within_walk b 16 _ (by have := HM.out; have h1 := this.a; have h2 := this.b; have h3 := this.c; have h4 := this.op; have h5 := this.im; have h6 := this.cond; have h7 := this.n; simp only at h1 h2 h3 h4 h5 h6 h7; omega)).mono ?_
  rintro e w' ⟨rfl, rfl⟩
  go_wp2_with fail
  refine ⟨Below.refl _ _, mix_step ?_⟩
  simp only [pickOps, nth, Act.put, List.setIfInBounds_toArray, List.set_cons_succ, List.set_cons_zero]
  (repeat (go_big_quiet_step (fail)))
  refine wpQuiet_nil ?_
  go_wp2_with fail
  refine (within_walk c 16 _ (by have := HM.out; have h1 := this.a; have h2 := this.b; have h3 := this.c; have h4 := this.op; have h5 := this.im; have h6 := this.cond; have h7 := this.n; simp only at h1 h2 h3 h4 h5 h6 h7; omega)).mono ?_
  rintro e w' ⟨rfl, rfl⟩
  go_wp2_with fail
  refine ⟨Below.refl _ _, mix_step ?_⟩
  simp only [pickOps, nth, Act.put, List.setIfInBounds_toArray, List.set_cons_succ, List.set_cons_zero]
  (repeat (go_big_quiet_step (fail)))
  refine wpQuiet_nil ?_
  go_wp2_with fail
  refine (within_walk 0 16 _ (by have := HM.out; have h1 := this.a; have h2 := this.b; have h3 := this.c; have h4 := this.op; have h5 := this.im; have h6 := this.cond; have h7 := this.n; simp only at h1 h2 h3 h4 h5 h6 h7; omega)).mono ?_
  rintro e w' ⟨rfl, rfl⟩
  go_wp2_with fail
  refine ⟨Below.refl _ _, mix_step ?_⟩
  simp only [pickOps, nth, Act.put, List.setIfInBounds_toArray, List.set_cons_succ, List.set_cons_zero]
  (repeat (go_big_quiet_step (fail)))
  refine wpQuiet_nil ?_
  go_wp2_with fail
  refine (within_walk 0 65536 _ (by have := HM.out; have h1 := this.a; have h2 := this.b; have h3 := this.c; have h4 := this.op; have h5 := this.im; have h6 := this.cond; have h7 := this.n; simp only at h1 h2 h3 h4 h5 h6 h7; omega)).mono ?_
  rintro e w' ⟨rfl, rfl⟩
  go_wp2_with fail
  refine ⟨Below.refl _ _, mix_step ?_⟩
  simp only [pickOps, nth, Act.put, List.setIfInBounds_toArray, List.set_cons_succ, List.set_cons_zero]
  (repeat (go_big_quiet_step (fail)))
  refine wpQuiet_nil ?_
  go_wp2_with fail
  refine (within_walk 0 256 _ (by have := HM.out; have h1 := this.a; have h2 := this.b; have h3 := this.c; have h4 := this.op; have h5 := this.im; have h6 := this.cond; have h7 := this.n; simp only at h1 h2 h3 h4 h5 h6 h7; omega)).mono ?_
  rintro e w' ⟨rfl, rfl⟩
  go_wp2_with fail
  refine ⟨Below.refl _ _, mix_step ?_⟩
  simp only [pickOps, nth, Act.put, List.setIfInBounds_toArray, List.set_cons_succ, List.set_cons_zero]
  (repeat (go_big_quiet_step (fail)))
  refine wpQuiet_nil ?_
  go_wp2_with fail
  refine (within_walk op 12 _ (by have := HM.out; have h1 := this.a; have h2 := this.b; have h3 := this.c; have h4 := this.op; have h5 := this.im; have h6 := this.cond; have h7 := this.n; simp only at h1 h2 h3 h4 h5 h6 h7; omega)).mono ?_
  rintro e w' ⟨rfl, rfl⟩
  go_wp2_with fail
  refine ⟨Below.refl _ _, mix_end ?_⟩
  simp only [pickOps, nth, Act.put, List.setIfInBounds_toArray, List.set_cons_succ, List.set_cons_zero]
  (repeat (go_big_quiet_step (fail)))
  refine wpQuiet_nil ?_
  clear l0 l3 l4 l5 l6 l7 l9 l10
  have c0 : w2.cell? ⟨w.heap.size, 0, none⟩ = some (.int .i64 0) := ((H2.at 0 rfl).cell 0).trans rfl
  have HO : Hid (mayOp (Ins.mk 0 u false a b c op 0 0 0 0) = true) := Lib.hid (imay_op HM.out (by simp))
  go_wp2_with (refine load_sep rfl 29 (.tmp 1) rfl H2 0 rfl rfl Tryd.underlying29 rfl (by kernel_rfl) ?_)
  refine (mayop (Ins.mk 0 u false a b c op 0 0 0 0) _).mono ?_
  rw [HO.out]
  rintro e w3 ⟨rfl, hb⟩
  have B3 := Lib.hid (bel_then B2.out hb)
  clear hb
  go_wp2_with fail
  go_ret
  exact ⟨rfl, B3.out⟩

set_option maxRecDepth 20000 in
set_option maxHeartbeats 8000000 in
theorem imay_1 (u v : Bool) (a b op im : Int) (w : World) (hm : Ins.May (Ins.mk 1 u v a b 0 op im 0 0 0)) : Calls Tryd.prog 19 #[(Ins.mk 1 u v a b 0 op im 0 0 0).val] w fun e w' => e = .returned (.bool true) ∧ Below w.heap.size w w' := by
  have HM := Lib.hid hm
  clear hm
  have H0 := (Sep.nil w).alloc #[.int .i64 1, .bool u, .bool v, .int .i64 a, .int .i64 b, .int .i64 0, .int .i64 op, .int .i64 im, .int .i64 0, .int .i64 0, .int .i64 0] 29
  have B0 := Lib.hid (bel1 w (.cells #[.int .i64 1, .bool u, .bool v, .int .i64 a, .int .i64 b, .int .i64 0, .int .i64 op, .int .i64 im, .int .i64 0, .int .i64 0, .int .i64 0] 29))
  go_enter Tryd.func19, Tryd.ntmps19
  go_wp2_with fail
  refine wp_region_mix' [([0, 1], 2), ([3, 4, 5, 6, 7, 8, 9, 10, 11, 12, 13, 14, 15, 16], 17), ([18, 19, 20, 21, 22], 23), ([24, 25, 26, 27, 28], 29), ([30, 31, 32, 33, 34], 35), ([36, 37, 38, 39, 40], 41), ([42, 43, 44, 45, 46], 47), ([48, 49, 50, 51, 52], 53)] [54, 55] (by kernel_rfl) (by kernel_rfl) (fun _ _ d _ _ h => by cases d <;> exact h) ?_
  intro w1 hb
  have H1 := H0.bel hb
  have B1 := Lib.hid (bel_then B0.out hb)
  clear hb
  refine mix_step ?_
  simp only [pickOps, nth]
  (go_big_quiet_want; refine quiet_row 29 (.tmp 1) rfl rfl (fun x => ((H1.at 0 rfl).laterB x).loads Tryd.underlying29 rfl (by kernel_rfl)) ?_; go_big_quiet_on)
  simp only [Act.put, List.setIfInBounds_toArray, List.set_cons_succ, List.set_cons_zero]
  (go_big_quiet_want; refine quiet_row 29 (.tmp 1) rfl rfl (fun x => ((H1.at 0 rfl).laterB x).loads Tryd.underlying29 rfl (by kernel_rfl)) ?_; go_big_quiet_on)
  simp only [Act.put, List.setIfInBounds_toArray, List.set_cons_succ, List.set_cons_zero]
  refine wpQuiet_nil ?_
  go_wp2_with fail
  refine (bare_1 u v a b op im _).mono ?_
  rintro e w2 ⟨rfl, hb⟩
  have H2 := H1.bel hb
  have K2 := Lib.hid hb
  have B2 := Lib.hid (bel_then B1.out hb)
  clear hb
  go_wp2_with fail
  refine ⟨K2.out, mix_step ?_⟩
  have l0 := (H2.at 0 rfl).laterCellB 0 (v := .int .i64 1) rfl
  have l3 := (H2.at 0 rfl).laterCellB 3 (v := .int .i64 a) rfl
  have l4 := (H2.at 0 rfl).laterCellB 4 (v := .int .i64 b) rfl
  have l5 := (H2.at 0 rfl).laterCellB 5 (v := .int .i64 0) rfl
  have l6 := (H2.at 0 rfl).laterCellB 6 (v := .int .i64 op) rfl
  have l7 := (H2.at 0 rfl).laterCellB 7 (v := .int .i64 im) rfl
  have l9 := (H2.at 0 rfl).laterCellB 9 (v := .int .i64 0) rfl
  have l10 := (H2.at 0 rfl).laterCellB 10 (v := .int .i64 0) rfl
  simp only [pickOps, nth, Act.put, List.setIfInBounds_toArray, List.set_cons_succ, List.set_cons_zero]
  (go_big_quiet_want; refine quiet_neq_ins (.tmp 3) (.tmp 5) rfl (Ins.mk 1 u v a b 0 op im 0 0 0) (Ins.mk 1 u v a b 0 op im 0 0 0) HM.out.fit HM.out.fit rfl rfl false (by simp) ?_; go_big_quiet_on)
  simp only [Act.put, List.setIfInBounds_toArray, List.set_cons_succ, List.set_cons_zero]
  (repeat (go_big_quiet_step (fail)))
  refine wpQuiet_nil ?_
  go_wp2_with fail
  refine (within_walk a 16 _ (by have := HM.out; have h1 := this.a; have h2 := this.b; have h3 := this.c; have h4 := this.op; have h5 := this.im; have h6 := this.cond; have h7 := this.n; simp only at h1 h2 h3 h4 h5 h6 h7; omega)).mono ?_
  rintro e w' ⟨rfl, rfl⟩
  go_wp2_with fail
  refine ⟨Below.refl _ _, mix_step ?_⟩
  simp only [pickOps, nth, Act.put, List.setIfInBounds_toArray, List.set_cons_succ, List.set_cons_zero]
  (repeat (go_big_quiet_step (fail)))
  refine wpQuiet_nil ?_
  go_wp2_with fail
  refine (within_walk b 16 _ (by have := HM.out; have h1 := this.a; have h2 := this.b; have h3 := this.c; have h4 := this.op; have h5 := this.im; have h6 := this.cond; have h7 := this.n; simp only at h1 h2 h3 h4 h5 h6 h7; omega)).mono ?_
  rintro e w' ⟨rfl, rfl⟩
  go_wp2_with fail
  refine ⟨Below.refl _ _, mix_step ?_⟩
  simp only [pickOps, nth, Act.put, List.setIfInBounds_toArray, List.set_cons_succ, List.set_cons_zero]
  (repeat (go_big_quiet_step (fail)))
  refine wpQuiet_nil ?_
  go_wp2_with fail
  refine (within_walk 0 16 _ (by have := HM.out; have h1 := this.a; have h2 := this.b; have h3 := this.c; have h4 := this.op; have h5 := this.im; have h6 := this.cond; have h7 := this.n; simp only at h1 h2 h3 h4 h5 h6 h7; omega)).mono ?_
  rintro e w' ⟨rfl, rfl⟩
  go_wp2_with fail
  refine ⟨Below.refl _ _, mix_step ?_⟩
  simp only [pickOps, nth, Act.put, List.setIfInBounds_toArray, List.set_cons_succ, List.set_cons_zero]
  (repeat (go_big_quiet_step (fail)))
  refine wpQuiet_nil ?_
  go_wp2_with fail
  refine (within_walk 0 16 _ (by have := HM.out; have h1 := this.a; have h2 := this.b; have h3 := this.c; have h4 := this.op; have h5 := this.im; have h6 := this.cond; have h7 := this.n; simp only at h1 h2 h3 h4 h5 h6 h7; omega)).mono ?_
  rintro e w' ⟨rfl, rfl⟩
  go_wp2_with fail
  refine ⟨Below.refl _ _, mix_step ?_⟩
  simp only [pickOps, nth, Act.put, List.setIfInBounds_toArray, List.set_cons_succ, List.set_cons_zero]
  (repeat (go_big_quiet_step (fail)))
  refine wpQuiet_nil ?_
  go_wp2_with fail
  refine (within_walk im 65536 _ (by have := HM.out; have h1 := this.a; have h2 := this.b; have h3 := this.c; have h4 := this.op; have h5 := this.im; have h6 := this.cond; have h7 := this.n; simp only at h1 h2 h3 h4 h5 h6 h7; omega)).mono ?_
  rintro e w' ⟨rfl, rfl⟩
  go_wp2_with fail
  refine ⟨Below.refl _ _, mix_step ?_⟩
  simp only [pickOps, nth, Act.put, List.setIfInBounds_toArray, List.set_cons_succ, List.set_cons_zero]
  (repeat (go_big_quiet_step (fail)))
  refine wpQuiet_nil ?_
  go_wp2_with fail
  refine (within_walk 0 256 _ (by have := HM.out; have h1 := this.a; have h2 := this.b; have h3 := this.c; have h4 := this.op; have h5 := this.im; have h6 := this.cond; have h7 := this.n; simp only at h1 h2 h3 h4 h5 h6 h7; omega)).mono ?_
  rintro e w' ⟨rfl, rfl⟩
  go_wp2_with fail
  refine ⟨Below.refl _ _, mix_step ?_⟩
  simp only [pickOps, nth, Act.put, List.setIfInBounds_toArray, List.set_cons_succ, List.set_cons_zero]
  (repeat (go_big_quiet_step (fail)))
  refine wpQuiet_nil ?_
  go_wp2_with fail
  refine (within_walk op 12 _ (by have := HM.out; have h1 := this.a; have h2 := this.b; have h3 := this.c; have h4 := this.op; have h5 := this.im; have h6 := this.cond; have h7 := this.n; simp only at h1 h2 h3 h4 h5 h6 h7; omega)).mono ?_
  rintro e w' ⟨rfl, rfl⟩
  go_wp2_with fail
  refine ⟨Below.refl _ _, mix_end ?_⟩
  simp only [pickOps, nth, Act.put, List.setIfInBounds_toArray, List.set_cons_succ, List.set_cons_zero]
  (repeat (go_big_quiet_step (fail)))
  refine wpQuiet_nil ?_
  clear l0 l3 l4 l5 l6 l7 l9 l10
  have c0 : w2.cell? ⟨w.heap.size, 0, none⟩ = some (.int .i64 1) := ((H2.at 0 rfl).cell 0).trans rfl
  have HO : Hid (mayOp (Ins.mk 1 u v a b 0 op im 0 0 0) = true) := Lib.hid (imay_op HM.out (by simp))
  go_wp2_with (refine load_sep rfl 29 (.tmp 1) rfl H2 0 rfl rfl Tryd.underlying29 rfl (by kernel_rfl) ?_)
  refine (mayop (Ins.mk 1 u v a b 0 op im 0 0 0) _).mono ?_
  rw [HO.out]
  rintro e w3 ⟨rfl, hb⟩
  have B3 := Lib.hid (bel_then B2.out hb)
  clear hb
  go_wp2_with fail
  go_ret
  exact ⟨rfl, B3.out⟩

set_option maxRecDepth 20000 in
set_option maxHeartbeats 8000000 in
theorem imay_2 (v : Bool) (a b off : Int) (w : World) (hm : Ins.May (Ins.mk 2 false v a b 0 0 0 off 0 0)) : Calls Tryd.prog 19 #[(Ins.mk 2 false v a b 0 0 0 off 0 0).val] w fun e w' => e = .returned (.bool true) ∧ Below w.heap.size w w' := by
  have HM := Lib.hid hm
  clear hm
  have H0 := (Sep.nil w).alloc #[.int .i64 2, .bool false, .bool v, .int .i64 a, .int .i64 b, .int .i64 0, .int .i64 0, .int .i64 0, .int .i64 off, .int .i64 0, .int .i64 0] 29
  have B0 := Lib.hid (bel1 w (.cells #[.int .i64 2, .bool false, .bool v, .int .i64 a, .int .i64 b, .int .i64 0, .int .i64 0, .int .i64 0, .int .i64 off, .int .i64 0, .int .i64 0] 29))
  go_enter Tryd.func19, Tryd.ntmps19
  go_wp2_with fail
  refine wp_region_mix' [([0, 1], 2), ([3, 4, 5, 6, 7, 8, 9, 10, 11, 12, 13, 14, 15, 16], 17), ([18, 19, 20, 21, 22], 23), ([24, 25, 26, 27, 28], 29), ([30, 31, 32, 33, 34], 35), ([36, 37, 38, 39, 40], 41), ([42, 43, 44, 45, 46], 47), ([48, 49, 50, 51, 52], 53)] [54, 55] (by kernel_rfl) (by kernel_rfl) (fun _ _ d _ _ h => by cases d <;> exact h) ?_
  intro w1 hb
  have H1 := H0.bel hb
  have B1 := Lib.hid (bel_then B0.out hb)
  clear hb
  refine mix_step ?_
  simp only [pickOps, nth]
  (go_big_quiet_want; refine quiet_row 29 (.tmp 1) rfl rfl (fun x => ((H1.at 0 rfl).laterB x).loads Tryd.underlying29 rfl (by kernel_rfl)) ?_; go_big_quiet_on)
  simp only [Act.put, List.setIfInBounds_toArray, List.set_cons_succ, List.set_cons_zero]
  (go_big_quiet_want; refine quiet_row 29 (.tmp 1) rfl rfl (fun x => ((H1.at 0 rfl).laterB x).loads Tryd.underlying29 rfl (by kernel_rfl)) ?_; go_big_quiet_on)
  simp only [Act.put, List.setIfInBounds_toArray, List.set_cons_succ, List.set_cons_zero]
  refine wpQuiet_nil ?_
  go_wp2_with fail
  refine (bare_2 v a b off _).mono ?_
  rintro e w2 ⟨rfl, hb⟩
  have H2 := H1.bel hb
  have K2 := Lib.hid hb
  have B2 := Lib.hid (bel_then B1.out hb)
  clear hb
  go_wp2_with fail
  refine ⟨K2.out, mix_step ?_⟩
  have l0 := (H2.at 0 rfl).laterCellB 0 (v := .int .i64 2) rfl
  have l3 := (H2.at 0 rfl).laterCellB 3 (v := .int .i64 a) rfl
  have l4 := (H2.at 0 rfl).laterCellB 4 (v := .int .i64 b) rfl
  have l5 := (H2.at 0 rfl).laterCellB 5 (v := .int .i64 0) rfl
  have l6 := (H2.at 0 rfl).laterCellB 6 (v := .int .i64 0) rfl
  have l7 := (H2.at 0 rfl).laterCellB 7 (v := .int .i64 0) rfl
  have l9 := (H2.at 0 rfl).laterCellB 9 (v := .int .i64 0) rfl
  have l10 := (H2.at 0 rfl).laterCellB 10 (v := .int .i64 0) rfl
  simp only [pickOps, nth, Act.put, List.setIfInBounds_toArray, List.set_cons_succ, List.set_cons_zero]
  (go_big_quiet_want; refine quiet_neq_ins (.tmp 3) (.tmp 5) rfl (Ins.mk 2 false v a b 0 0 0 off 0 0) (Ins.mk 2 false v a b 0 0 0 off 0 0) HM.out.fit HM.out.fit rfl rfl false (by simp) ?_; go_big_quiet_on)
  simp only [Act.put, List.setIfInBounds_toArray, List.set_cons_succ, List.set_cons_zero]
  (repeat (go_big_quiet_step (fail)))
  refine wpQuiet_nil ?_
  go_wp2_with fail
  refine (within_walk a 16 _ (by have := HM.out; have h1 := this.a; have h2 := this.b; have h3 := this.c; have h4 := this.op; have h5 := this.im; have h6 := this.cond; have h7 := this.n; simp only at h1 h2 h3 h4 h5 h6 h7; omega)).mono ?_
  rintro e w' ⟨rfl, rfl⟩
  go_wp2_with fail
  refine ⟨Below.refl _ _, mix_step ?_⟩
  simp only [pickOps, nth, Act.put, List.setIfInBounds_toArray, List.set_cons_succ, List.set_cons_zero]
  (repeat (go_big_quiet_step (fail)))
  refine wpQuiet_nil ?_
  go_wp2_with fail
  refine (within_walk b 16 _ (by have := HM.out; have h1 := this.a; have h2 := this.b; have h3 := this.c; have h4 := this.op; have h5 := this.im; have h6 := this.cond; have h7 := this.n; simp only at h1 h2 h3 h4 h5 h6 h7; omega)).mono ?_
  rintro e w' ⟨rfl, rfl⟩
  go_wp2_with fail
  refine ⟨Below.refl _ _, mix_step ?_⟩
  simp only [pickOps, nth, Act.put, List.setIfInBounds_toArray, List.set_cons_succ, List.set_cons_zero]
  (repeat (go_big_quiet_step (fail)))
  refine wpQuiet_nil ?_
  go_wp2_with fail
  refine (within_walk 0 16 _ (by have := HM.out; have h1 := this.a; have h2 := this.b; have h3 := this.c; have h4 := this.op; have h5 := this.im; have h6 := this.cond; have h7 := this.n; simp only at h1 h2 h3 h4 h5 h6 h7; omega)).mono ?_
  rintro e w' ⟨rfl, rfl⟩
  go_wp2_with fail
  refine ⟨Below.refl _ _, mix_step ?_⟩
  simp only [pickOps, nth, Act.put, List.setIfInBounds_toArray, List.set_cons_succ, List.set_cons_zero]
  (repeat (go_big_quiet_step (fail)))
  refine wpQuiet_nil ?_
  go_wp2_with fail
  refine (within_walk 0 16 _ (by have := HM.out; have h1 := this.a; have h2 := this.b; have h3 := this.c; have h4 := this.op; have h5 := this.im; have h6 := this.cond; have h7 := this.n; simp only at h1 h2 h3 h4 h5 h6 h7; omega)).mono ?_
  rintro e w' ⟨rfl, rfl⟩
  go_wp2_with fail
  refine ⟨Below.refl _ _, mix_step ?_⟩
  simp only [pickOps, nth, Act.put, List.setIfInBounds_toArray, List.set_cons_succ, List.set_cons_zero]
  (repeat (go_big_quiet_step (fail)))
  refine wpQuiet_nil ?_
  go_wp2_with fail
  refine (within_walk 0 65536 _ (by have := HM.out; have h1 := this.a; have h2 := this.b; have h3 := this.c; have h4 := this.op; have h5 := this.im; have h6 := this.cond; have h7 := this.n; simp only at h1 h2 h3 h4 h5 h6 h7; omega)).mono ?_
  rintro e w' ⟨rfl, rfl⟩
  go_wp2_with fail
  refine ⟨Below.refl _ _, mix_step ?_⟩
  simp only [pickOps, nth, Act.put, List.setIfInBounds_toArray, List.set_cons_succ, List.set_cons_zero]
  (repeat (go_big_quiet_step (fail)))
  refine wpQuiet_nil ?_
  go_wp2_with fail
  refine (within_walk 0 256 _ (by have := HM.out; have h1 := this.a; have h2 := this.b; have h3 := this.c; have h4 := this.op; have h5 := this.im; have h6 := this.cond; have h7 := this.n; simp only at h1 h2 h3 h4 h5 h6 h7; omega)).mono ?_
  rintro e w' ⟨rfl, rfl⟩
  go_wp2_with fail
  refine ⟨Below.refl _ _, mix_step ?_⟩
  simp only [pickOps, nth, Act.put, List.setIfInBounds_toArray, List.set_cons_succ, List.set_cons_zero]
  (repeat (go_big_quiet_step (fail)))
  refine wpQuiet_nil ?_
  go_wp2_with fail
  refine (within_walk 0 12 _ (by have := HM.out; have h1 := this.a; have h2 := this.b; have h3 := this.c; have h4 := this.op; have h5 := this.im; have h6 := this.cond; have h7 := this.n; simp only at h1 h2 h3 h4 h5 h6 h7; omega)).mono ?_
  rintro e w' ⟨rfl, rfl⟩
  go_wp2_with fail
  refine ⟨Below.refl _ _, mix_end ?_⟩
  simp only [pickOps, nth, Act.put, List.setIfInBounds_toArray, List.set_cons_succ, List.set_cons_zero]
  (repeat (go_big_quiet_step (fail)))
  refine wpQuiet_nil ?_
  clear l0 l3 l4 l5 l6 l7 l9 l10
  have c0 : w2.cell? ⟨w.heap.size, 0, none⟩ = some (.int .i64 2) := ((H2.at 0 rfl).cell 0).trans rfl
  have c8 : w2.cell? ⟨w.heap.size, 8, none⟩ = some (.int .i64 off) := ((H2.at 0 rfl).cell 8).trans rfl
  have q := HM.out.mem (by simp)
  simp only at q
  obtain ⟨_, _, _, _, _, _, q1, q2⟩ := q
  go_wp2_with fail
  go_ret
  refine ⟨?_, B2.out⟩
  first | rfl | (show Ending.returned (.bool (decide _)) = _; rw [decide_eq_true (by omega)]) | (show Ending.returned (.bool (!decide _)) = _; rw [decide_eq_false (by omega)]; rfl)

set_option maxRecDepth 20000 in
set_option maxHeartbeats 8000000 in
theorem imay_3 (v : Bool) (a b off : Int) (w : World) (hm : Ins.May (Ins.mk 3 false v a b 0 0 0 off 0 0)) : Calls Tryd.prog 19 #[(Ins.mk 3 false v a b 0 0 0 off 0 0).val] w fun e w' => e = .returned (.bool true) ∧ Below w.heap.size w w' := by
  have HM := Lib.hid hm
  clear hm
  have H0 := (Sep.nil w).alloc #[.int .i64 3, .bool false, .bool v, .int .i64 a, .int .i64 b, .int .i64 0, .int .i64 0, .int .i64 0, .int .i64 off, .int .i64 0, .int .i64 0] 29
  have B0 := Lib.hid (bel1 w (.cells #[.int .i64 3, .bool false, .bool v, .int .i64 a, .int .i64 b, .int .i64 0, .int .i64 0, .int .i64 0, .int .i64 off, .int .i64 0, .int .i64 0] 29))
  go_enter Tryd.func19, Tryd.ntmps19
  go_wp2_with fail
  refine wp_region_mix' [([0, 1], 2), ([3, 4, 5, 6, 7, 8, 9, 10, 11, 12, 13, 14, 15, 16], 17), ([18, 19, 20, 21, 22], 23), ([24, 25, 26, 27, 28], 29), ([30, 31, 32, 33, 34], 35), ([36, 37, 38, 39, 40], 41), ([42, 43, 44, 45, 46], 47), ([48, 49, 50, 51, 52], 53)] [54, 55] (by kernel_rfl) (by kernel_rfl) (fun _ _ d _ _ h => by cases d <;> exact h) ?_
  intro w1 hb
  have H1 := H0.bel hb
  have B1 := Lib.hid (bel_then B0.out hb)
  clear hb
  refine mix_step ?_
  simp only [pickOps, nth]
  (go_big_quiet_want; refine quiet_row 29 (.tmp 1) rfl rfl (fun x => ((H1.at 0 rfl).laterB x).loads Tryd.underlying29 rfl (by kernel_rfl)) ?_; go_big_quiet_on)
  simp only [Act.put, List.setIfInBounds_toArray, List.set_cons_succ, List.set_cons_zero]
  (go_big_quiet_want; refine quiet_row 29 (.tmp 1) rfl rfl (fun x => ((H1.at 0 rfl).laterB x).loads Tryd.underlying29 rfl (by kernel_rfl)) ?_; go_big_quiet_on)
  simp only [Act.put, List.setIfInBounds_toArray, List.set_cons_succ, List.set_cons_zero]
  refine wpQuiet_nil ?_
  go_wp2_with fail
  refine (bare_3 v a b off _).mono ?_
  rintro e w2 ⟨rfl, hb⟩
  have H2 := H1.bel hb
  have K2 := Lib.hid hb
  have B2 := Lib.hid (bel_then B1.out hb)
  clear hb
  go_wp2_with fail
  refine ⟨K2.out, mix_step ?_⟩
  have l0 := (H2.at 0 rfl).laterCellB 0 (v := .int .i64 3) rfl
  have l3 := (H2.at 0 rfl).laterCellB 3 (v := .int .i64 a) rfl
  have l4 := (H2.at 0 rfl).laterCellB 4 (v := .int .i64 b) rfl
  have l5 := (H2.at 0 rfl).laterCellB 5 (v := .int .i64 0) rfl
  have l6 := (H2.at 0 rfl).laterCellB 6 (v := .int .i64 0) rfl
  have l7 := (H2.at 0 rfl).laterCellB 7 (v := .int .i64 0) rfl
  have l9 := (H2.at 0 rfl).laterCellB 9 (v := .int .i64 0) rfl
  have l10 := (H2.at 0 rfl).laterCellB 10 (v := .int .i64 0) rfl
  simp only [pickOps, nth, Act.put, List.setIfInBounds_toArray, List.set_cons_succ, List.set_cons_zero]
  (go_big_quiet_want; refine quiet_neq_ins (.tmp 3) (.tmp 5) rfl (Ins.mk 3 false v a b 0 0 0 off 0 0) (Ins.mk 3 false v a b 0 0 0 off 0 0) HM.out.fit HM.out.fit rfl rfl false (by simp) ?_; go_big_quiet_on)
  simp only [Act.put, List.setIfInBounds_toArray, List.set_cons_succ, List.set_cons_zero]
  (repeat (go_big_quiet_step (fail)))
  refine wpQuiet_nil ?_
  go_wp2_with fail
  refine (within_walk a 16 _ (by have := HM.out; have h1 := this.a; have h2 := this.b; have h3 := this.c; have h4 := this.op; have h5 := this.im; have h6 := this.cond; have h7 := this.n; simp only at h1 h2 h3 h4 h5 h6 h7; omega)).mono ?_
  rintro e w' ⟨rfl, rfl⟩
  go_wp2_with fail
  refine ⟨Below.refl _ _, mix_step ?_⟩
  simp only [pickOps, nth, Act.put, List.setIfInBounds_toArray, List.set_cons_succ, List.set_cons_zero]
  (repeat (go_big_quiet_step (fail)))
  refine wpQuiet_nil ?_
  go_wp2_with fail
  refine (within_walk b 16 _ (by have := HM.out; have h1 := this.a; have h2 := this.b; have h3 := this.c; have h4 := this.op; have h5 := this.im; have h6 := this.cond; have h7 := this.n; simp only at h1 h2 h3 h4 h5 h6 h7; omega)).mono ?_
  rintro e w' ⟨rfl, rfl⟩
  go_wp2_with fail
  refine ⟨Below.refl _ _, mix_step ?_⟩
  simp only [pickOps, nth, Act.put, List.setIfInBounds_toArray, List.set_cons_succ, List.set_cons_zero]
  (repeat (go_big_quiet_step (fail)))
  refine wpQuiet_nil ?_
  go_wp2_with fail
  refine (within_walk 0 16 _ (by have := HM.out; have h1 := this.a; have h2 := this.b; have h3 := this.c; have h4 := this.op; have h5 := this.im; have h6 := this.cond; have h7 := this.n; simp only at h1 h2 h3 h4 h5 h6 h7; omega)).mono ?_
  rintro e w' ⟨rfl, rfl⟩
  go_wp2_with fail
  refine ⟨Below.refl _ _, mix_step ?_⟩
  simp only [pickOps, nth, Act.put, List.setIfInBounds_toArray, List.set_cons_succ, List.set_cons_zero]
  (repeat (go_big_quiet_step (fail)))
  refine wpQuiet_nil ?_
  go_wp2_with fail
  refine (within_walk 0 16 _ (by have := HM.out; have h1 := this.a; have h2 := this.b; have h3 := this.c; have h4 := this.op; have h5 := this.im; have h6 := this.cond; have h7 := this.n; simp only at h1 h2 h3 h4 h5 h6 h7; omega)).mono ?_
  rintro e w' ⟨rfl, rfl⟩
  go_wp2_with fail
  refine ⟨Below.refl _ _, mix_step ?_⟩
  simp only [pickOps, nth, Act.put, List.setIfInBounds_toArray, List.set_cons_succ, List.set_cons_zero]
  (repeat (go_big_quiet_step (fail)))
  refine wpQuiet_nil ?_
  go_wp2_with fail
  refine (within_walk 0 65536 _ (by have := HM.out; have h1 := this.a; have h2 := this.b; have h3 := this.c; have h4 := this.op; have h5 := this.im; have h6 := this.cond; have h7 := this.n; simp only at h1 h2 h3 h4 h5 h6 h7; omega)).mono ?_
  rintro e w' ⟨rfl, rfl⟩
  go_wp2_with fail
  refine ⟨Below.refl _ _, mix_step ?_⟩
  simp only [pickOps, nth, Act.put, List.setIfInBounds_toArray, List.set_cons_succ, List.set_cons_zero]
  (repeat (go_big_quiet_step (fail)))
  refine wpQuiet_nil ?_
  go_wp2_with fail
  refine (within_walk 0 256 _ (by have := HM.out; have h1 := this.a; have h2 := this.b; have h3 := this.c; have h4 := this.op; have h5 := this.im; have h6 := this.cond; have h7 := this.n; simp only at h1 h2 h3 h4 h5 h6 h7; omega)).mono ?_
  rintro e w' ⟨rfl, rfl⟩
  go_wp2_with fail
  refine ⟨Below.refl _ _, mix_step ?_⟩
  simp only [pickOps, nth, Act.put, List.setIfInBounds_toArray, List.set_cons_succ, List.set_cons_zero]
  (repeat (go_big_quiet_step (fail)))
  refine wpQuiet_nil ?_
  go_wp2_with fail
  refine (within_walk 0 12 _ (by have := HM.out; have h1 := this.a; have h2 := this.b; have h3 := this.c; have h4 := this.op; have h5 := this.im; have h6 := this.cond; have h7 := this.n; simp only at h1 h2 h3 h4 h5 h6 h7; omega)).mono ?_
  rintro e w' ⟨rfl, rfl⟩
  go_wp2_with fail
  refine ⟨Below.refl _ _, mix_end ?_⟩
  simp only [pickOps, nth, Act.put, List.setIfInBounds_toArray, List.set_cons_succ, List.set_cons_zero]
  (repeat (go_big_quiet_step (fail)))
  refine wpQuiet_nil ?_
  clear l0 l3 l4 l5 l6 l7 l9 l10
  have c0 : w2.cell? ⟨w.heap.size, 0, none⟩ = some (.int .i64 3) := ((H2.at 0 rfl).cell 0).trans rfl
  have c8 : w2.cell? ⟨w.heap.size, 8, none⟩ = some (.int .i64 off) := ((H2.at 0 rfl).cell 8).trans rfl
  have q := HM.out.mem (by simp)
  simp only at q
  obtain ⟨_, _, _, _, _, _, q1, q2⟩ := q
  go_wp2_with fail
  go_ret
  refine ⟨?_, B2.out⟩
  first | rfl | (show Ending.returned (.bool (decide _)) = _; rw [decide_eq_true (by omega)]) | (show Ending.returned (.bool (!decide _)) = _; rw [decide_eq_false (by omega)]; rfl)

set_option maxRecDepth 20000 in
set_option maxHeartbeats 8000000 in
theorem imay_4 (v : Bool) (cond off : Int) (w : World) (hm : Ins.May (Ins.mk 4 false v 0 0 0 0 0 off cond 0)) : Calls Tryd.prog 19 #[(Ins.mk 4 false v 0 0 0 0 0 off cond 0).val] w fun e w' => e = .returned (.bool true) ∧ Below w.heap.size w w' := by
  have HM := Lib.hid hm
  clear hm
  have H0 := (Sep.nil w).alloc #[.int .i64 4, .bool false, .bool v, .int .i64 0, .int .i64 0, .int .i64 0, .int .i64 0, .int .i64 0, .int .i64 off, .int .i64 cond, .int .i64 0] 29
  have B0 := Lib.hid (bel1 w (.cells #[.int .i64 4, .bool false, .bool v, .int .i64 0, .int .i64 0, .int .i64 0, .int .i64 0, .int .i64 0, .int .i64 off, .int .i64 cond, .int .i64 0] 29))
  go_enter Tryd.func19, Tryd.ntmps19
  go_wp2_with fail
  refine wp_region_mix' [([0, 1], 2), ([3, 4, 5, 6, 7, 8, 9, 10, 11, 12, 13, 14, 15, 16], 17), ([18, 19, 20, 21, 22], 23), ([24, 25, 26, 27, 28], 29), ([30, 31, 32, 33, 34], 35), ([36, 37, 38, 39, 40], 41), ([42, 43, 44, 45, 46], 47), ([48, 49, 50, 51, 52], 53)] [54, 55] (by kernel_rfl) (by kernel_rfl) (fun _ _ d _ _ h => by cases d <;> exact h) ?_
  intro w1 hb
  have H1 := H0.bel hb
  have B1 := Lib.hid (bel_then B0.out hb)
  clear hb
  refine mix_step ?_
  simp only [pickOps, nth]
  (go_big_quiet_want; refine quiet_row 29 (.tmp 1) rfl rfl (fun x => ((H1.at 0 rfl).laterB x).loads Tryd.underlying29 rfl (by kernel_rfl)) ?_; go_big_quiet_on)
  simp only [Act.put, List.setIfInBounds_toArray, List.set_cons_succ, List.set_cons_zero]
  (go_big_quiet_want; refine quiet_row 29 (.tmp 1) rfl rfl (fun x => ((H1.at 0 rfl).laterB x).loads Tryd.underlying29 rfl (by kernel_rfl)) ?_; go_big_quiet_on)
  simp only [Act.put, List.setIfInBounds_toArray, List.set_cons_succ, List.set_cons_zero]
  refine wpQuiet_nil ?_
  go_wp2_with fail
  refine (bare_4 v cond off _).mono ?_
  rintro e w2 ⟨rfl, hb⟩
  have H2 := H1.bel hb
  have K2 := Lib.hid hb
  have B2 := Lib.hid (bel_then B1.out hb)
  clear hb
  go_wp2_with fail
  refine ⟨K2.out, mix_step ?_⟩
  have l0 := (H2.at 0 rfl).laterCellB 0 (v := .int .i64 4) rfl
  have l3 := (H2.at 0 rfl).laterCellB 3 (v := .int .i64 0) rfl
  have l4 := (H2.at 0 rfl).laterCellB 4 (v := .int .i64 0) rfl
  have l5 := (H2.at 0 rfl).laterCellB 5 (v := .int .i64 0) rfl
  have l6 := (H2.at 0 rfl).laterCellB 6 (v := .int .i64 0) rfl
  have l7 := (H2.at 0 rfl).laterCellB 7 (v := .int .i64 0) rfl
  have l9 := (H2.at 0 rfl).laterCellB 9 (v := .int .i64 cond) rfl
  have l10 := (H2.at 0 rfl).laterCellB 10 (v := .int .i64 0) rfl
  simp only [pickOps, nth, Act.put, List.setIfInBounds_toArray, List.set_cons_succ, List.set_cons_zero]
  (go_big_quiet_want; refine quiet_neq_ins (.tmp 3) (.tmp 5) rfl (Ins.mk 4 false v 0 0 0 0 0 off cond 0) (Ins.mk 4 false v 0 0 0 0 0 off cond 0) HM.out.fit HM.out.fit rfl rfl false (by simp) ?_; go_big_quiet_on)
  simp only [Act.put, List.setIfInBounds_toArray, List.set_cons_succ, List.set_cons_zero]
  (repeat (go_big_quiet_step (fail)))
  refine wpQuiet_nil ?_
  go_wp2_with fail
  refine (within_walk 0 16 _ (by have := HM.out; have h1 := this.a; have h2 := this.b; have h3 := this.c; have h4 := this.op; have h5 := this.im; have h6 := this.cond; have h7 := this.n; simp only at h1 h2 h3 h4 h5 h6 h7; omega)).mono ?_
  rintro e w' ⟨rfl, rfl⟩
  go_wp2_with fail
  refine ⟨Below.refl _ _, mix_step ?_⟩
  simp only [pickOps, nth, Act.put, List.setIfInBounds_toArray, List.set_cons_succ, List.set_cons_zero]
  (repeat (go_big_quiet_step (fail)))
  refine wpQuiet_nil ?_
  go_wp2_with fail
  refine (within_walk 0 16 _ (by have := HM.out; have h1 := this.a; have h2 := this.b; have h3 := this.c; have h4 := this.op; have h5 := this.im; have h6 := this.cond; have h7 := this.n; simp only at h1 h2 h3 h4 h5 h6 h7; omega)).mono ?_
  rintro e w' ⟨rfl, rfl⟩
  go_wp2_with fail
  refine ⟨Below.refl _ _, mix_step ?_⟩
  simp only [pickOps, nth, Act.put, List.setIfInBounds_toArray, List.set_cons_succ, List.set_cons_zero]
  (repeat (go_big_quiet_step (fail)))
  refine wpQuiet_nil ?_
  go_wp2_with fail
  refine (within_walk 0 16 _ (by have := HM.out; have h1 := this.a; have h2 := this.b; have h3 := this.c; have h4 := this.op; have h5 := this.im; have h6 := this.cond; have h7 := this.n; simp only at h1 h2 h3 h4 h5 h6 h7; omega)).mono ?_
  rintro e w' ⟨rfl, rfl⟩
  go_wp2_with fail
  refine ⟨Below.refl _ _, mix_step ?_⟩
  simp only [pickOps, nth, Act.put, List.setIfInBounds_toArray, List.set_cons_succ, List.set_cons_zero]
  (repeat (go_big_quiet_step (fail)))
  refine wpQuiet_nil ?_
  go_wp2_with fail
  refine (within_walk cond 16 _ (by have := HM.out; have h1 := this.a; have h2 := this.b; have h3 := this.c; have h4 := this.op; have h5 := this.im; have h6 := this.cond; have h7 := this.n; simp only at h1 h2 h3 h4 h5 h6 h7; omega)).mono ?_
  rintro e w' ⟨rfl, rfl⟩
  go_wp2_with fail
  refine ⟨Below.refl _ _, mix_step ?_⟩
  simp only [pickOps, nth, Act.put, List.setIfInBounds_toArray, List.set_cons_succ, List.set_cons_zero]
  (repeat (go_big_quiet_step (fail)))
  refine wpQuiet_nil ?_
  go_wp2_with fail
  refine (within_walk 0 65536 _ (by have := HM.out; have h1 := this.a; have h2 := this.b; have h3 := this.c; have h4 := this.op; have h5 := this.im; have h6 := this.cond; have h7 := this.n; simp only at h1 h2 h3 h4 h5 h6 h7; omega)).mono ?_
  rintro e w' ⟨rfl, rfl⟩
  go_wp2_with fail
  refine ⟨Below.refl _ _, mix_step ?_⟩
  simp only [pickOps, nth, Act.put, List.setIfInBounds_toArray, List.set_cons_succ, List.set_cons_zero]
  (repeat (go_big_quiet_step (fail)))
  refine wpQuiet_nil ?_
  go_wp2_with fail
  refine (within_walk 0 256 _ (by have := HM.out; have h1 := this.a; have h2 := this.b; have h3 := this.c; have h4 := this.op; have h5 := this.im; have h6 := this.cond; have h7 := this.n; simp only at h1 h2 h3 h4 h5 h6 h7; omega)).mono ?_
  rintro e w' ⟨rfl, rfl⟩
  go_wp2_with fail
  refine ⟨Below.refl _ _, mix_step ?_⟩
  simp only [pickOps, nth, Act.put, List.setIfInBounds_toArray, List.set_cons_succ, List.set_cons_zero]
  (repeat (go_big_quiet_step (fail)))
  refine wpQuiet_nil ?_
  go_wp2_with fail
  refine (within_walk 0 12 _ (by have := HM.out; have h1 := this.a; have h2 := this.b; have h3 := this.c; have h4 := this.op; have h5 := this.im; have h6 := this.cond; have h7 := this.n; simp only at h1 h2 h3 h4 h5 h6 h7; omega)).mono ?_
  rintro e w' ⟨rfl, rfl⟩
  go_wp2_with fail
  refine ⟨Below.refl _ _, mix_end ?_⟩
  simp only [pickOps, nth, Act.put, List.setIfInBounds_toArray, List.set_cons_succ, List.set_cons_zero]
  (repeat (go_big_quiet_step (fail)))
  refine wpQuiet_nil ?_
  clear l0 l3 l4 l5 l6 l7 l9 l10
  have c0 : w2.cell? ⟨w.heap.size, 0, none⟩ = some (.int .i64 4) := ((H2.at 0 rfl).cell 0).trans rfl
  have c8 : w2.cell? ⟨w.heap.size, 8, none⟩ = some (.int .i64 off) := ((H2.at 0 rfl).cell 8).trans rfl
  have q := HM.out.jump rfl
  simp only at q
  obtain ⟨_, _, _, _, _, _, _, q1, q2⟩ := q
  go_wp2_with fail
  go_ret
  refine ⟨?_, B2.out⟩
  first | rfl | (show Ending.returned (.bool (decide _)) = _; rw [decide_eq_true (by omega)]) | (show Ending.returned (.bool (!decide _)) = _; rw [decide_eq_false (by omega)]; rfl)

set_option maxRecDepth 20000 in
set_option maxHeartbeats 8000000 in
theorem imay_5_0 (cond c : Int) (w : World) (hm : Ins.May (Ins.mk 5 false false 0 0 c 0 0 0 cond 0)) : Calls Tryd.prog 19 #[(Ins.mk 5 false false 0 0 c 0 0 0 cond 0).val] w fun e w' => e = .returned (.bool true) ∧ Below w.heap.size w w' := by
  have HM := Lib.hid hm
  clear hm
  have H0 := (Sep.nil w).alloc #[.int .i64 5, .bool false, .bool false, .int .i64 0, .int .i64 0, .int .i64 c, .int .i64 0, .int .i64 0, .int .i64 0, .int .i64 cond, .int .i64 0] 29
  have B0 := Lib.hid (bel1 w (.cells #[.int .i64 5, .bool false, .bool false, .int .i64 0, .int .i64 0, .int .i64 c, .int .i64 0, .int .i64 0, .int .i64 0, .int .i64 cond, .int .i64 0] 29))
  go_enter Tryd.func19, Tryd.ntmps19
  go_wp2_with fail
  refine wp_region_mix' [([0, 1], 2), ([3, 4, 5, 6, 7, 8, 9, 10, 11, 12, 13, 14, 15, 16], 17), ([18, 19, 20, 21, 22], 23), ([24, 25, 26, 27, 28], 29), ([30, 31, 32, 33, 34], 35), ([36, 37, 38, 39, 40], 41), ([42, 43, 44, 45, 46], 47), ([48, 49, 50, 51, 52], 53)] [54, 55] (by kernel_rfl) (by kernel_rfl) (fun _ _ d _ _ h => by cases d <;> exact h) ?_
  intro w1 hb
  have H1 := H0.bel hb
  have B1 := Lib.hid (bel_then B0.out hb)
  clear hb
  refine mix_step ?_
  simp only [pickOps, nth]
  (go_big_quiet_want; refine quiet_row 29 (.tmp 1) rfl rfl (fun x => ((H1.at 0 rfl).laterB x).loads Tryd.underlying29 rfl (by kernel_rfl)) ?_; go_big_quiet_on)
  simp only [Act.put, List.setIfInBounds_toArray, List.set_cons_succ, List.set_cons_zero]
  (go_big_quiet_want; refine quiet_row 29 (.tmp 1) rfl rfl (fun x => ((H1.at 0 rfl).laterB x).loads Tryd.underlying29 rfl (by kernel_rfl)) ?_; go_big_quiet_on)
  simp only [Act.put, List.setIfInBounds_toArray, List.set_cons_succ, List.set_cons_zero]
  refine wpQuiet_nil ?_
  go_wp2_with fail
  refine (bare_5 false cond c _).mono ?_
  rintro e w2 ⟨rfl, hb⟩
  have H2 := H1.bel hb
  have K2 := Lib.hid hb
  have B2 := Lib.hid (bel_then B1.out hb)
  clear hb
  go_wp2_with fail
  refine ⟨K2.out, mix_step ?_⟩
  have l0 := (H2.at 0 rfl).laterCellB 0 (v := .int .i64 5) rfl
  have l3 := (H2.at 0 rfl).laterCellB 3 (v := .int .i64 0) rfl
  have l4 := (H2.at 0 rfl).laterCellB 4 (v := .int .i64 0) rfl
  have l5 := (H2.at 0 rfl).laterCellB 5 (v := .int .i64 c) rfl
  have l6 := (H2.at 0 rfl).laterCellB 6 (v := .int .i64 0) rfl
  have l7 := (H2.at 0 rfl).laterCellB 7 (v := .int .i64 0) rfl
  have l9 := (H2.at 0 rfl).laterCellB 9 (v := .int .i64 cond) rfl
  have l10 := (H2.at 0 rfl).laterCellB 10 (v := .int .i64 0) rfl
  simp only [pickOps, nth, Act.put, List.setIfInBounds_toArray, List.set_cons_succ, List.set_cons_zero]
  (go_big_quiet_want; refine quiet_neq_ins (.tmp 3) (.tmp 5) rfl (Ins.mk 5 false false 0 0 c 0 0 0 cond 0) (Ins.mk 5 false false 0 0 c 0 0 0 cond 0) HM.out.fit HM.out.fit rfl rfl false (by simp) ?_; go_big_quiet_on)
  simp only [Act.put, List.setIfInBounds_toArray, List.set_cons_succ, List.set_cons_zero]
  (repeat (go_big_quiet_step (fail)))
  refine wpQuiet_nil ?_
  go_wp2_with fail
  refine (within_walk 0 16 _ (by have := HM.out; have h1 := this.a; have h2 := this.b; have h3 := this.c; have h4 := this.op; have h5 := this.im; have h6 := this.cond; have h7 := this.n; simp only at h1 h2 h3 h4 h5 h6 h7; omega)).mono ?_
  rintro e w' ⟨rfl, rfl⟩
  go_wp2_with fail
  refine ⟨Below.refl _ _, mix_step ?_⟩
  simp only [pickOps, nth, Act.put, List.setIfInBounds_toArray, List.set_cons_succ, List.set_cons_zero]
  (repeat (go_big_quiet_step (fail)))
  refine wpQuiet_nil ?_
  go_wp2_with fail
  refine (within_walk 0 16 _ (by have := HM.out; have h1 := this.a; have h2 := this.b; have h3 := this.c; have h4 := this.op; have h5 := this.im; have h6 := this.cond; have h7 := this.n; simp only at h1 h2 h3 h4 h5 h6 h7; omega)).mono ?_
  rintro e w' ⟨rfl, rfl⟩
  go_wp2_with fail
  refine ⟨Below.refl _ _, mix_step ?_⟩
  simp only [pickOps, nth, Act.put, List.setIfInBounds_toArray, List.set_cons_succ, List.set_cons_zero]
  (repeat (go_big_quiet_step (fail)))
  refine wpQuiet_nil ?_
  go_wp2_with fail
  refine (within_walk c 16 _ (by have := HM.out; have h1 := this.a; have h2 := this.b; have h3 := this.c; have h4 := this.op; have h5 := this.im; have h6 := this.cond; have h7 := this.n; simp only at h1 h2 h3 h4 h5 h6 h7; omega)).mono ?_
  rintro e w' ⟨rfl, rfl⟩
  go_wp2_with fail
  refine ⟨Below.refl _ _, mix_step ?_⟩
  simp only [pickOps, nth, Act.put, List.setIfInBounds_toArray, List.set_cons_succ, List.set_cons_zero]
  (repeat (go_big_quiet_step (fail)))
  refine wpQuiet_nil ?_
  go_wp2_with fail
  refine (within_walk cond 16 _ (by have := HM.out; have h1 := this.a; have h2 := this.b; have h3 := this.c; have h4 := this.op; have h5 := this.im; have h6 := this.cond; have h7 := this.n; simp only at h1 h2 h3 h4 h5 h6 h7; omega)).mono ?_
  rintro e w' ⟨rfl, rfl⟩
  go_wp2_with fail
  refine ⟨Below.refl _ _, mix_step ?_⟩
  simp only [pickOps, nth, Act.put, List.setIfInBounds_toArray, List.set_cons_succ, List.set_cons_zero]
  (repeat (go_big_quiet_step (fail)))
  refine wpQuiet_nil ?_
  go_wp2_with fail
  refine (within_walk 0 65536 _ (by have := HM.out; have h1 := this.a; have h2 := this.b; have h3 := this.c; have h4 := this.op; have h5 := this.im; have h6 := this.cond; have h7 := this.n; simp only at h1 h2 h3 h4 h5 h6 h7; omega)).mono ?_
  rintro e w' ⟨rfl, rfl⟩
  go_wp2_with fail
  refine ⟨Below.refl _ _, mix_step ?_⟩
  simp only [pickOps, nth, Act.put, List.setIfInBounds_toArray, List.set_cons_succ, List.set_cons_zero]
  (repeat (go_big_quiet_step (fail)))
  refine wpQuiet_nil ?_
  go_wp2_with fail
  refine (within_walk 0 256 _ (by have := HM.out; have h1 := this.a; have h2 := this.b; have h3 := this.c; have h4 := this.op; have h5 := this.im; have h6 := this.cond; have h7 := this.n; simp only at h1 h2 h3 h4 h5 h6 h7; omega)).mono ?_
  rintro e w' ⟨rfl, rfl⟩
  go_wp2_with fail
  refine ⟨Below.refl _ _, mix_step ?_⟩
  simp only [pickOps, nth, Act.put, List.setIfInBounds_toArray, List.set_cons_succ, List.set_cons_zero]
  (repeat (go_big_quiet_step (fail)))
  refine wpQuiet_nil ?_
  go_wp2_with fail
  refine (within_walk 0 12 _ (by have := HM.out; have h1 := this.a; have h2 := this.b; have h3 := this.c; have h4 := this.op; have h5 := this.im; have h6 := this.cond; have h7 := this.n; simp only at h1 h2 h3 h4 h5 h6 h7; omega)).mono ?_
  rintro e w' ⟨rfl, rfl⟩
  go_wp2_with fail
  refine ⟨Below.refl _ _, mix_end ?_⟩
  simp only [pickOps, nth, Act.put, List.setIfInBounds_toArray, List.set_cons_succ, List.set_cons_zero]
  (repeat (go_big_quiet_step (fail)))
  refine wpQuiet_nil ?_
  clear l0 l3 l4 l5 l6 l7 l9 l10
  have c0 : w2.cell? ⟨w.heap.size, 0, none⟩ = some (.int .i64 5) := ((H2.at 0 rfl).cell 0).trans rfl
  have c2 : w2.cell? ⟨w.heap.size, 2, none⟩ = some (.bool false) := ((H2.at 0 rfl).cell 2).trans rfl
  go_wp2_with fail
  go_ret
  refine ⟨?_, B2.out⟩
  first | rfl | (show Ending.returned (.bool (decide _)) = _; rw [decide_eq_true (by omega)]) | (show Ending.returned (.bool (!decide _)) = _; rw [decide_eq_false (by omega)]; rfl)

set_option maxRecDepth 20000 in
set_option maxHeartbeats 8000000 in
theorem imay_5_1 (cond c : Int) (w : World) (hm : Ins.May (Ins.mk 5 false true 0 0 c 0 0 0 cond 0)) : Calls Tryd.prog 19 #[(Ins.mk 5 false true 0 0 c 0 0 0 cond 0).val] w fun e w' => e = .returned (.bool true) ∧ Below w.heap.size w w' := by
  have HM := Lib.hid hm
  clear hm
  have H0 := (Sep.nil w).alloc #[.int .i64 5, .bool false, .bool true, .int .i64 0, .int .i64 0, .int .i64 c, .int .i64 0, .int .i64 0, .int .i64 0, .int .i64 cond, .int .i64 0] 29
  have B0 := Lib.hid (bel1 w (.cells #[.int .i64 5, .bool false, .bool true, .int .i64 0, .int .i64 0, .int .i64 c, .int .i64 0, .int .i64 0, .int .i64 0, .int .i64 cond, .int .i64 0] 29))
  go_enter Tryd.func19, Tryd.ntmps19
  go_wp2_with fail
  refine wp_region_mix' [([0, 1], 2), ([3, 4, 5, 6, 7, 8, 9, 10, 11, 12, 13, 14, 15, 16], 17), ([18, 19, 20, 21, 22], 23), ([24, 25, 26, 27, 28], 29), ([30, 31, 32, 33, 34], 35), ([36, 37, 38, 39, 40], 41), ([42, 43, 44, 45, 46], 47), ([48, 49, 50, 51, 52], 53)] [54, 55] (by kernel_rfl) (by kernel_rfl) (fun _ _ d _ _ h => by cases d <;> exact h) ?_
  intro w1 hb
  have H1 := H0.bel hb
  have B1 := Lib.hid (bel_then B0.out hb)
  clear hb
  refine mix_step ?_
  simp only [pickOps, nth]
  (go_big_quiet_want; refine quiet_row 29 (.tmp 1) rfl rfl (fun x => ((H1.at 0 rfl).laterB x).loads Tryd.underlying29 rfl (by kernel_rfl)) ?_; go_big_quiet_on)
  simp only [Act.put, List.setIfInBounds_toArray, List.set_cons_succ, List.set_cons_zero]
  (go_big_quiet_want; refine quiet_row 29 (.tmp 1) rfl rfl (fun x => ((H1.at 0 rfl).laterB x).loads Tryd.underlying29 rfl (by kernel_rfl)) ?_; go_big_quiet_on)
  simp only [Act.put, List.setIfInBounds_toArray, List.set_cons_succ, List.set_cons_zero]
  refine wpQuiet_nil ?_
  go_wp2_with fail
  refine (bare_5 true cond c _).mono ?_
  rintro e w2 ⟨rfl, hb⟩
  have H2 := H1.bel hb
  have K2 := Lib.hid hb
  have B2 := Lib.hid (bel_then B1.out hb)
  clear hb
  go_wp2_with fail
  refine ⟨K2.out, mix_step ?_⟩
  have l0 := (H2.at 0 rfl).laterCellB 0 (v := .int .i64 5) rfl
  have l3 := (H2.at 0 rfl).laterCellB 3 (v := .int .i64 0) rfl
  have l4 := (H2.at 0 rfl).laterCellB 4 (v := .int .i64 0) rfl
  have l5 := (H2.at 0 rfl).laterCellB 5 (v := .int .i64 c) rfl
  have l6 := (H2.at 0 rfl).laterCellB 6 (v := .int .i64 0) rfl
  have l7 := (H2.at 0 rfl).laterCellB 7 (v := .int .i64 0) rfl
  have l9 := (H2.at 0 rfl).laterCellB 9 (v := .int .i64 cond) rfl
  have l10 := (H2.at 0 rfl).laterCellB 10 (v := .int .i64 0) rfl
  simp only [pickOps, nth, Act.put, List.setIfInBounds_toArray, List.set_cons_succ, List.set_cons_zero]
  (go_big_quiet_want; refine quiet_neq_ins (.tmp 3) (.tmp 5) rfl (Ins.mk 5 false true 0 0 c 0 0 0 cond 0) (Ins.mk 5 false true 0 0 c 0 0 0 cond 0) HM.out.fit HM.out.fit rfl rfl false (by simp) ?_; go_big_quiet_on)
  simp only [Act.put, List.setIfInBounds_toArray, List.set_cons_succ, List.set_cons_zero]
  (repeat (go_big_quiet_step (fail)))
  refine wpQuiet_nil ?_
  go_wp2_with fail
  refine (within_walk 0 16 _ (by have := HM.out; have h1 := this.a; have h2 := this.b; have h3 := this.c; have h4 := this.op; have h5 := this.im; have h6 := this.cond; have h7 := this.n; simp only at h1 h2 h3 h4 h5 h6 h7; omega)).mono ?_
  rintro e w' ⟨rfl, rfl⟩
  go_wp2_with fail
  refine ⟨Below.refl _ _, mix_step ?_⟩
  simp only [pickOps, nth, Act.put, List.setIfInBounds_toArray, List.set_cons_succ, List.set_cons_zero]
  (repeat (go_big_quiet_step (fail)))
  refine wpQuiet_nil ?_
  go_wp2_with fail
  refine (within_walk 0 16 _ (by have := HM.out; have h1 := this.a; have h2 := this.b; have h3 := this.c; have h4 := this.op; have h5 := this.im; have h6 := this.cond; have h7 := this.n; simp only at h1 h2 h3 h4 h5 h6 h7; omega)).mono ?_
  rintro e w' ⟨rfl, rfl⟩
  go_wp2_with fail
  refine ⟨Below.refl _ _, mix_step ?_⟩
  simp only [pickOps, nth, Act.put, List.setIfInBounds_toArray, List.set_cons_succ, List.set_cons_zero]
  (repeat (go_big_quiet_step (fail)))
  refine wpQuiet_nil ?_
  go_wp2_with fail
  refine (within_walk c 16 _ (by have := HM.out; have h1 := this.a; have h2 := this.b; have h3 := this.c; have h4 := this.op; have h5 := this.im; have h6 := this.cond; have h7 := this.n; simp only at h1 h2 h3 h4 h5 h6 h7; omega)).mono ?_
  rintro e w' ⟨rfl, rfl⟩
  go_wp2_with fail
  refine ⟨Below.refl _ _, mix_step ?_⟩
  simp only [pickOps, nth, Act.put, List.setIfInBounds_toArray, List.set_cons_succ, List.set_cons_zero]
  (repeat (go_big_quiet_step (fail)))
  refine wpQuiet_nil ?_
  go_wp2_with fail
  refine (within_walk cond 16 _ (by have := HM.out; have h1 := this.a; have h2 := this.b; have h3 := this.c; have h4 := this.op; have h5 := this.im; have h6 := this.cond; have h7 := this.n; simp only at h1 h2 h3 h4 h5 h6 h7; omega)).mono ?_
  rintro e w' ⟨rfl, rfl⟩
  go_wp2_with fail
  refine ⟨Below.refl _ _, mix_step ?_⟩
  simp only [pickOps, nth, Act.put, List.setIfInBounds_toArray, List.set_cons_succ, List.set_cons_zero]
  (repeat (go_big_quiet_step (fail)))
  refine wpQuiet_nil ?_
  go_wp2_with fail
  refine (within_walk 0 65536 _ (by have := HM.out; have h1 := this.a; have h2 := this.b; have h3 := this.c; have h4 := this.op; have h5 := this.im; have h6 := this.cond; have h7 := this.n; simp only at h1 h2 h3 h4 h5 h6 h7; omega)).mono ?_
  rintro e w' ⟨rfl, rfl⟩
  go_wp2_with fail
  refine ⟨Below.refl _ _, mix_step ?_⟩
  simp only [pickOps, nth, Act.put, List.setIfInBounds_toArray, List.set_cons_succ, List.set_cons_zero]
  (repeat (go_big_quiet_step (fail)))
  refine wpQuiet_nil ?_
  go_wp2_with fail
  refine (within_walk 0 256 _ (by have := HM.out; have h1 := this.a; have h2 := this.b; have h3 := this.c; have h4 := this.op; have h5 := this.im; have h6 := this.cond; have h7 := this.n; simp only at h1 h2 h3 h4 h5 h6 h7; omega)).mono ?_
  rintro e w' ⟨rfl, rfl⟩
  go_wp2_with fail
  refine ⟨Below.refl _ _, mix_step ?_⟩
  simp only [pickOps, nth, Act.put, List.setIfInBounds_toArray, List.set_cons_succ, List.set_cons_zero]
  (repeat (go_big_quiet_step (fail)))
  refine wpQuiet_nil ?_
  go_wp2_with fail
  refine (within_walk 0 12 _ (by have := HM.out; have h1 := this.a; have h2 := this.b; have h3 := this.c; have h4 := this.op; have h5 := this.im; have h6 := this.cond; have h7 := this.n; simp only at h1 h2 h3 h4 h5 h6 h7; omega)).mono ?_
  rintro e w' ⟨rfl, rfl⟩
  go_wp2_with fail
  refine ⟨Below.refl _ _, mix_end ?_⟩
  simp only [pickOps, nth, Act.put, List.setIfInBounds_toArray, List.set_cons_succ, List.set_cons_zero]
  (repeat (go_big_quiet_step (fail)))
  refine wpQuiet_nil ?_
  clear l0 l3 l4 l5 l6 l7 l9 l10
  have c0 : w2.cell? ⟨w.heap.size, 0, none⟩ = some (.int .i64 5) := ((H2.at 0 rfl).cell 0).trans rfl
  have c2 : w2.cell? ⟨w.heap.size, 2, none⟩ = some (.bool true) := ((H2.at 0 rfl).cell 2).trans rfl
  have c5 : w2.cell? ⟨w.heap.size, 5, none⟩ = some (.int .i64 c) := ((H2.at 0 rfl).cell 5).trans rfl
  have q := HM.out.to rfl
  simp only at q
  obtain ⟨_, _, _, _, _, _, _, q1⟩ := q
  have q2 : c ≠ 12 := fun e => q1 ⟨trivial, e⟩
  clear q1
  go_wp2_with fail
  go_ret
  refine ⟨?_, B2.out⟩
  first | rfl | (show Ending.returned (.bool (decide _)) = _; rw [decide_eq_true (by omega)]) | (show Ending.returned (.bool (!decide _)) = _; rw [decide_eq_false (by omega)]; rfl)

set_option maxRecDepth 20000 in
set_option maxHeartbeats 8000000 in
theorem imay_6 (cond n : Int) (w : World) (hm : Ins.May (Ins.mk 6 false false 0 0 0 0 0 0 cond n)) : Calls Tryd.prog 19 #[(Ins.mk 6 false false 0 0 0 0 0 0 cond n).val] w fun e w' => e = .returned (.bool true) ∧ Below w.heap.size w w' := by
  have HM := Lib.hid hm
  clear hm
  have H0 := (Sep.nil w).alloc #[.int .i64 6, .bool false, .bool false, .int .i64 0, .int .i64 0, .int .i64 0, .int .i64 0, .int .i64 0, .int .i64 0, .int .i64 cond, .int .i64 n] 29
  have B0 := Lib.hid (bel1 w (.cells #[.int .i64 6, .bool false, .bool false, .int .i64 0, .int .i64 0, .int .i64 0, .int .i64 0, .int .i64 0, .int .i64 0, .int .i64 cond, .int .i64 n] 29))
  go_enter Tryd.func19, Tryd.ntmps19
  go_wp2_with fail
  refine wp_region_mix' [([0, 1], 2), ([3, 4, 5, 6, 7, 8, 9, 10, 11, 12, 13, 14, 15, 16], 17), ([18, 19, 20, 21, 22], 23), ([24, 25, 26, 27, 28], 29), ([30, 31, 32, 33, 34], 35), ([36, 37, 38, 39, 40], 41), ([42, 43, 44, 45, 46], 47), ([48, 49, 50, 51, 52], 53)] [54, 55] (by kernel_rfl) (by kernel_rfl) (fun _ _ d _ _ h => by cases d <;> exact h) ?_
  intro w1 hb
  have H1 := H0.bel hb
  have B1 := Lib.hid (bel_then B0.out hb)
  clear hb
  refine mix_step ?_
  simp only [pickOps, nth]
  (go_big_quiet_want; refine quiet_row 29 (.tmp 1) rfl rfl (fun x => ((H1.at 0 rfl).laterB x).loads Tryd.underlying29 rfl (by kernel_rfl)) ?_; go_big_quiet_on)
  simp only [Act.put, List.setIfInBounds_toArray, List.set_cons_succ, List.set_cons_zero]
  (go_big_quiet_want; refine quiet_row 29 (.tmp 1) rfl rfl (fun x => ((H1.at 0 rfl).laterB x).loads Tryd.underlying29 rfl (by kernel_rfl)) ?_; go_big_quiet_on)
  simp only [Act.put, List.setIfInBounds_toArray, List.set_cons_succ, List.set_cons_zero]
  refine wpQuiet_nil ?_
  go_wp2_with fail
  refine (bare_6 cond n _).mono ?_
  rintro e w2 ⟨rfl, hb⟩
  have H2 := H1.bel hb
  have K2 := Lib.hid hb
  have B2 := Lib.hid (bel_then B1.out hb)
  clear hb
  go_wp2_with fail
  refine ⟨K2.out, mix_step ?_⟩
  have l0 := (H2.at 0 rfl).laterCellB 0 (v := .int .i64 6) rfl
  have l3 := (H2.at 0 rfl).laterCellB 3 (v := .int .i64 0) rfl
  have l4 := (H2.at 0 rfl).laterCellB 4 (v := .int .i64 0) rfl
  have l5 := (H2.at 0 rfl).laterCellB 5 (v := .int .i64 0) rfl
  have l6 := (H2.at 0 rfl).laterCellB 6 (v := .int .i64 0) rfl
  have l7 := (H2.at 0 rfl).laterCellB 7 (v := .int .i64 0) rfl
  have l9 := (H2.at 0 rfl).laterCellB 9 (v := .int .i64 cond) rfl
  have l10 := (H2.at 0 rfl).laterCellB 10 (v := .int .i64 n) rfl
  simp only [pickOps, nth, Act.put, List.setIfInBounds_toArray, List.set_cons_succ, List.set_cons_zero]
  (go_big_quiet_want; refine quiet_neq_ins (.tmp 3) (.tmp 5) rfl (Ins.mk 6 false false 0 0 0 0 0 0 cond n) (Ins.mk 6 false false 0 0 0 0 0 0 cond n) HM.out.fit HM.out.fit rfl rfl false (by simp) ?_; go_big_quiet_on)
  simp only [Act.put, List.setIfInBounds_toArray, List.set_cons_succ, List.set_cons_zero]
  (repeat (go_big_quiet_step (fail)))
  refine wpQuiet_nil ?_
  go_wp2_with fail
  refine (within_walk 0 16 _ (by have := HM.out; have h1 := this.a; have h2 := this.b; have h3 := this.c; have h4 := this.op; have h5 := this.im; have h6 := this.cond; have h7 := this.n; simp only at h1 h2 h3 h4 h5 h6 h7; omega)).mono ?_
  rintro e w' ⟨rfl, rfl⟩
  go_wp2_with fail
  refine ⟨Below.refl _ _, mix_step ?_⟩
  simp only [pickOps, nth, Act.put, List.setIfInBounds_toArray, List.set_cons_succ, List.set_cons_zero]
  (repeat (go_big_quiet_step (fail)))
  refine wpQuiet_nil ?_
  go_wp2_with fail
  refine (within_walk 0 16 _ (by have := HM.out; have h1 := this.a; have h2 := this.b; have h3 := this.c; have h4 := this.op; have h5 := this.im; have h6 := this.cond; have h7 := this.n; simp only at h1 h2 h3 h4 h5 h6 h7; omega)).mono ?_
  rintro e w' ⟨rfl, rfl⟩
  go_wp2_with fail
  refine ⟨Below.refl _ _, mix_step ?_⟩
  simp only [pickOps, nth, Act.put, List.setIfInBounds_toArray, List.set_cons_succ, List.set_cons_zero]
  (repeat (go_big_quiet_step (fail)))
  refine wpQuiet_nil ?_
  go_wp2_with fail
  refine (within_walk 0 16 _ (by have := HM.out; have h1 := this.a; have h2 := this.b; have h3 := this.c; have h4 := this.op; have h5 := this.im; have h6 := this.cond; have h7 := this.n; simp only at h1 h2 h3 h4 h5 h6 h7; omega)).mono ?_
  rintro e w' ⟨rfl, rfl⟩
  go_wp2_with fail
  refine ⟨Below.refl _ _, mix_step ?_⟩
  simp only [pickOps, nth, Act.put, List.setIfInBounds_toArray, List.set_cons_succ, List.set_cons_zero]
  (repeat (go_big_quiet_step (fail)))
  refine wpQuiet_nil ?_
  go_wp2_with fail
  refine (within_walk cond 16 _ (by have := HM.out; have h1 := this.a; have h2 := this.b; have h3 := this.c; have h4 := this.op; have h5 := this.im; have h6 := this.cond; have h7 := this.n; simp only at h1 h2 h3 h4 h5 h6 h7; omega)).mono ?_
  rintro e w' ⟨rfl, rfl⟩
  go_wp2_with fail
  refine ⟨Below.refl _ _, mix_step ?_⟩
  simp only [pickOps, nth, Act.put, List.setIfInBounds_toArray, List.set_cons_succ, List.set_cons_zero]
  (repeat (go_big_quiet_step (fail)))
  refine wpQuiet_nil ?_
  go_wp2_with fail
  refine (within_walk 0 65536 _ (by have := HM.out; have h1 := this.a; have h2 := this.b; have h3 := this.c; have h4 := this.op; have h5 := this.im; have h6 := this.cond; have h7 := this.n; simp only at h1 h2 h3 h4 h5 h6 h7; omega)).mono ?_
  rintro e w' ⟨rfl, rfl⟩
  go_wp2_with fail
  refine ⟨Below.refl _ _, mix_step ?_⟩
  simp only [pickOps, nth, Act.put, List.setIfInBounds_toArray, List.set_cons_succ, List.set_cons_zero]
  (repeat (go_big_quiet_step (fail)))
  refine wpQuiet_nil ?_
  go_wp2_with fail
  refine (within_walk n 256 _ (by have := HM.out; have h1 := this.a; have h2 := this.b; have h3 := this.c; have h4 := this.op; have h5 := this.im; have h6 := this.cond; have h7 := this.n; simp only at h1 h2 h3 h4 h5 h6 h7; omega)).mono ?_
  rintro e w' ⟨rfl, rfl⟩
  go_wp2_with fail
  refine ⟨Below.refl _ _, mix_step ?_⟩
  simp only [pickOps, nth, Act.put, List.setIfInBounds_toArray, List.set_cons_succ, List.set_cons_zero]
  (repeat (go_big_quiet_step (fail)))
  refine wpQuiet_nil ?_
  go_wp2_with fail
  refine (within_walk 0 12 _ (by have := HM.out; have h1 := this.a; have h2 := this.b; have h3 := this.c; have h4 := this.op; have h5 := this.im; have h6 := this.cond; have h7 := this.n; simp only at h1 h2 h3 h4 h5 h6 h7; omega)).mono ?_
  rintro e w' ⟨rfl, rfl⟩
  go_wp2_with fail
  refine ⟨Below.refl _ _, mix_end ?_⟩
  simp only [pickOps, nth, Act.put, List.setIfInBounds_toArray, List.set_cons_succ, List.set_cons_zero]
  (repeat (go_big_quiet_step (fail)))
  refine wpQuiet_nil ?_
  clear l0 l3 l4 l5 l6 l7 l9 l10
  have c0 : w2.cell? ⟨w.heap.size, 0, none⟩ = some (.int .i64 6) := ((H2.at 0 rfl).cell 0).trans rfl
  go_wp2_with fail
  go_ret
  refine ⟨?_, B2.out⟩
  first | rfl | (show Ending.returned (.bool (decide _)) = _; rw [decide_eq_true (by omega)]) | (show Ending.returned (.bool (!decide _)) = _; rw [decide_eq_false (by omega)]; rfl)

theorem may_walk (i : Ins) (w : World) (h : i.May) : Calls Tryd.prog 19 #[i.val] w fun e w' => e = .returned (.bool true) ∧ Below w.heap.size w w' := by
  have hh := h
  obtain ⟨form, u, v, a, b, c, op, im, off, cond, n⟩ := i
  obtain ⟨hf, ha, hb, hc, ho, hi, hd, hn, h0, h1, h2, h4, h5, h6, hu, hm⟩ := h
  simp only at *
  rcases (by omega : form = 0 ∨ form = 1 ∨ form = 2 ∨ form = 3 ∨ form = 4 ∨ form = 5 ∨ form = 6) with rfl | rfl | rfl | rfl | rfl | rfl | rfl
  · obtain ⟨rfl, rfl, rfl, rfl, rfl⟩ := h0 rfl
    exact imay_0 u a b c op w hh
  · obtain ⟨rfl, rfl, rfl, rfl⟩ := h1 rfl
    exact imay_1 u v a b op im w hh
  · obtain ⟨rfl, rfl, rfl, rfl, rfl, rfl, _⟩ := h2 (.inl rfl)
    exact imay_2 v a b off w hh
  · obtain ⟨rfl, rfl, rfl, rfl, rfl, rfl, _⟩ := h2 (.inr rfl)
    exact imay_3 v a b off w hh
  · obtain ⟨rfl, rfl, rfl, rfl, rfl, rfl, rfl, _⟩ := h4 rfl
    exact imay_4 v cond off w hh
  · obtain ⟨rfl, rfl, rfl, rfl, rfl, rfl, rfl, _⟩ := h5 rfl
    cases v
    · exact imay_5_0 cond c w hh
    · exact imay_5_1 cond c w hh
  · obtain ⟨rfl, rfl, rfl, rfl, rfl, rfl, rfl, rfl⟩ := h6 rfl
    exact imay_6 cond n w hh

end Go.Proofs.YtmnmbpenonodiaaDoor
