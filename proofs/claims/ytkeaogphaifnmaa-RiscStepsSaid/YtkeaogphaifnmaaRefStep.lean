/- The reference's Do, and its Step, case by case: it does what the program's does. -/
import Derived.Test.YtkeaogphaifnmaaRefDo0
import Derived.Test.YtkeaogphaifnmaaRefDo1
import Derived.Test.YtkeaogphaifnmaaRefDo2
import Derived.Test.YtkeaogphaifnmaaRefOf
import Derived.Test.YtkeaogphaifnmaaRefHolds
namespace Go.Proofs.Ytkeaogphaifnmaa
set_option linter.unusedVariables false
set_option linter.unusedSimpArgs false
open Go.RowKit

theorem refdo_walk (c : Cpu) (i : Ins) (w : World) (h : i.May) (hk : c.Ok) (hf : i.form ≤ 1) : Calls Try.prog 30 #[c.val, i.val] w (DoR c i w) := by
  have h8 := h.mov hf
  obtain ⟨⟨hf0, _⟩, ha, hb, hc, ho, hi, _, _, _, _, _, _, _, _, _, _⟩ := h
  obtain ⟨form, u, v, a, bb, cc, op, im, off, cond, nn⟩ := i
  simp only [] at hf0 hf ha hb hc ho hi h8
  have hops : op = 0 ∨ op = 1 ∨ op = 2 ∨ op = 3 ∨ op = 4 ∨ op = 5 ∨ op = 6 ∨ op = 7 ∨ op = 8 ∨ op = 9 ∨ op = 10 ∨ op = 11 := by omega
  rcases (by omega : form = 0 ∨ form = 1) with rfl | rfl
  · rcases hops with rfl | rfl | rfl | rfl | rfl | rfl | rfl | rfl | rfl | rfl | rfl | rfl
    · cases u
      · exact refdo_B0 c v a bb cc im off cond nn w hk (by omega) (by omega) (by omega) (by omega)
      · have h9 := (h8 rfl).2 rfl
        rcases (by omega : cc = 0 ∨ cc = 1) with rfl | rfl
        · exact refdo_C0 c v a bb im off cond nn w hk (by omega) (by omega) (by omega)
        · exact refdo_D0 c v a bb im off cond nn w hk (by omega) (by omega) (by omega)
    · exact refdo_B1 c u v a bb cc im off cond nn w hk (by omega) (by omega) (by omega) (by omega)
    · exact refdo_B2 c u v a bb cc im off cond nn w hk (by omega) (by omega) (by omega) (by omega)
    · exact refdo_B3 c u v a bb cc im off cond nn w hk (by omega) (by omega) (by omega) (by omega)
    · exact refdo_B4 c u v a bb cc im off cond nn w hk (by omega) (by omega) (by omega) (by omega)
    · exact refdo_B5 c u v a bb cc im off cond nn w hk (by omega) (by omega) (by omega) (by omega)
    · exact refdo_B6 c u v a bb cc im off cond nn w hk (by omega) (by omega) (by omega) (by omega)
    · exact refdo_B7 c u v a bb cc im off cond nn w hk (by omega) (by omega) (by omega) (by omega)
    · exact refdo_B8 c u v a bb cc im off cond nn w hk (by omega) (by omega) (by omega) (by omega)
    · exact refdo_B9 c u v a bb cc im off cond nn w hk (by omega) (by omega) (by omega) (by omega)
    · exact refdo_B10 c u v a bb cc im off cond nn w hk (by omega) (by omega) (by omega) (by omega)
    · exact refdo_B11 c u v a bb cc im off cond nn w hk (by omega) (by omega) (by omega) (by omega)
  · rcases hops with rfl | rfl | rfl | rfl | rfl | rfl | rfl | rfl | rfl | rfl | rfl | rfl
    · exact refdo_A0 c u v a bb cc im off cond nn w hk (by omega) (by omega) (by omega) (by omega)
    · exact refdo_A1 c u v a bb cc im off cond nn w hk (by omega) (by omega) (by omega) (by omega)
    · exact refdo_A2 c u v a bb cc im off cond nn w hk (by omega) (by omega) (by omega) (by omega)
    · exact refdo_A3 c u v a bb cc im off cond nn w hk (by omega) (by omega) (by omega) (by omega)
    · exact refdo_A4 c u v a bb cc im off cond nn w hk (by omega) (by omega) (by omega) (by omega)
    · exact refdo_A5 c u v a bb cc im off cond nn w hk (by omega) (by omega) (by omega) (by omega)
    · exact refdo_A6 c u v a bb cc im off cond nn w hk (by omega) (by omega) (by omega) (by omega)
    · exact refdo_A7 c u v a bb cc im off cond nn w hk (by omega) (by omega) (by omega) (by omega)
    · exact refdo_A8 c u v a bb cc im off cond nn w hk (by omega) (by omega) (by omega) (by omega)
    · exact refdo_A9 c u v a bb cc im off cond nn w hk (by omega) (by omega) (by omega) (by omega)
    · exact refdo_A10 c u v a bb cc im off cond nn w hk (by omega) (by omega) (by omega) (by omega)
    · exact refdo_A11 c u v a bb cc im off cond nn w hk (by omega) (by omega) (by omega) (by omega)

theorem ins_ok_of {x : Int} (hx : 0 ≤ x ∧ x < 4294967296) (hg : good (flds x) = true) : (flds x).May := (of_word hx hg).1
set_option maxRecDepth 100000 in
set_option maxHeartbeats 8000000 in
theorem refstep_bad (c : Cpu) (x : Int) (w : World) (hx : 0 ≤ x ∧ x < 4294967296) (hk : c.Ok) (hg : good (flds x) = false) : Calls Try.prog 11 #[c.val, .int .u32 x] w (StepIs c x w) := by
  have HE : Hid (c.step x = (c.next, Ev.odd)) := by unfold Hid Cpu.step; rw [hg]; rfl
  have HX := Lib.hid hx
  have HG := Lib.hid hg
  clear hx hg
  have H0 := (Sep.nil w).alloc3 c.cells Cpu.zero.cells Ev.none.cells 25 25 28
  have K0 := Lib.hid (Ke.below Non (bel3 w (.cells c.cells 25) (.cells Cpu.zero.cells 25) (.cells Ev.none.cells 28)))
  have pc0 : 0 ≤ c.pc := hk.pc.1
  have pc1 : c.pc < 4294967296 := hk.pc.2
  go_enter Try.func11, Try.ntmps11
  go_wp2_with fail
  refine (refof_walk x _ HX.out).mono ?_
  rintro e w1 ⟨he, hb1⟩
  rw [HG.out, if_neg (by decide)] at he
  subst he
  have H1 := H0.bel hb1
  have K1 := Lib.hid (K0.out.trans (Ke.below Non hb1))
  have z1 : w.heap.size + 3 ≤ w1.heap.size := by have := hb1.size; simp at this; omega
  clear hb1 H0
  have f_0 : True := trivial
  have f_1 : True := trivial
  have f_2 : True := trivial
  have f_3 : True := trivial
  have f_4 : True := trivial
  go_wp2_with (first | (have _f := f_0; refine alloc_sep rfl 35 rfl H1 (z := Ins.zero.val) (cs := Ins.zero.cells) (by kernel_rfl) rfl ?_; intro w2 H2 b2 s2; have z2 : w.heap.size + 3 ≤ w2.heap.size := (by omega); clear s2; clear _f f_0) | (have _f := f_1; refine store_sep rfl 35 (.tmp 6) (.tmp 17) rfl H2 0 rfl rfl rfl (by kernel_rfl) rfl ?_ ?_; rfl; intro w3 H3 k3 s3; have z3 : w.heap.size + 3 ≤ w3.heap.size := (by omega); clear s3; have K3 := Lib.hid (ke2 (K1.out.trans (Ke.below Non b2)) k3 (by omega)); clear _f f_1) | (have _f := f_2; refine load_sep rfl 25 (.tmp 2) rfl H3 3 rfl rfl Try.underlying25 rfl (by kernel_rfl) ?_; clear _f f_2) | (have _f := f_3; refine alloc_sep rfl 25 rfl H3 (z := Cpu.zero.val) (cs := Cpu.zero.cells) (by kernel_rfl) rfl ?_; intro w4 H4 b4 s4; have z4 : w.heap.size + 3 ≤ w4.heap.size := (by omega); clear s4; clear _f f_3) | (have _f := f_4; refine store_sep rfl 25 (.tmp 8) (.tmp 19) rfl H4 0 rfl rfl rfl (by kernel_rfl) rfl ?_ ?_; rfl; intro w5 H5 k5 s5; have z5 : w.heap.size + 3 ≤ w5.heap.size := (by omega); clear s5; have K5 := Lib.hid (ke2 (K3.out.trans (Ke.below Non b4)) k5 (by omega)); have p21 : w5.cell? ⟨w.heap.size, 21, none⟩ = some (.int .u32 c.pc) := cell_of H5 4 rfl 21 rfl; clear _f f_4))
  refine (ref_word (c.pc + 1) _ (by omega)).mono ?_
  rintro e w' ⟨rfl, rfl⟩
  have f_0 : True := trivial
  have f_1 : True := trivial
  have f_2 : True := trivial
  have f_3 : True := trivial
  go_wp2_with (first | (have _f := f_0; refine store1_sep rfl 22 (.tmp 25) (.tmp 24) rfl H5 0 rfl rfl rfl rfl (by kernel_rfl) ?_ ?_; rfl; intro w6 H6' k6 s6; have z6 : w.heap.size + 3 ≤ w6.heap.size := (by omega); clear s6; have H6 : Sep w6 [(w3.heap.size, c.next.cells, 25), (w1.heap.size, Ins.zero.cells, 35), (w.heap.size + 2, Ev.none.cells, 28), (w.heap.size + 1, Cpu.zero.cells, 25), (w.heap.size, c.cells, 25)] := H6'; have K6 := Lib.hid (ke2 K5.out k6 (by omega)); clear _f f_0) | (have _f := f_1; refine load_sep rfl 25 (.tmp 8) rfl H6 0 rfl rfl Try.underlying25 rfl (by kernel_rfl) ?_; clear _f f_1) | (have _f := f_2; refine store_sep rfl 25 (.tmp 4) (.tmp 28) rfl H6 3 rfl rfl rfl (by kernel_rfl) rfl ?_ ?_; rfl; intro w7 H7 k7 s7; have z7 : w.heap.size + 3 ≤ w7.heap.size := (by omega); clear s7; clear _f f_2) | (have _f := f_3; refine store_sep rfl 28 (.tmp 5) (.tmp 29) rfl H7 2 rfl rfl rfl (by kernel_rfl) rfl ?_ ?_; rfl; intro w8 H8 k8 s8; have z8 : w.heap.size + 3 ≤ w8.heap.size := (by omega); clear s8; clear _f f_3))
  refine bodyPost_ret (res_cell_cell rfl rfl (H8.at 3 rfl) Try.underlying25 rfl (by kernel_rfl) rfl (H8.at 2 rfl) Try.underlying28 rfl (by kernel_rfl)) rfl (step_is HE.out rfl ?_)
  exact (ke2 (ke2 K6.out k7 (by omega)) k8 (by omega)).non

set_option maxRecDepth 100000 in
set_option maxHeartbeats 8000000 in
theorem refstep_do0 (c : Cpu) (x : Int) (w : World) (hx : 0 ≤ x ∧ x < 4294967296) (hk : c.Ok) (hg : good (flds x) = true) (hf : (flds x).form = 0) : Calls Try.prog 11 #[c.val, .int .u32 x] w (StepIs c x w) := by
  have hbd := flds_bd hx
  have HST : Hid (c.step x = c.next.exec (flds x)) := by unfold Hid Cpu.step; rw [if_pos hg]
  have HM := Lib.hid (ins_ok_of hx hg)
  have HX := Lib.hid hx
  have HG := Lib.hid hg
  obtain ⟨i, hi⟩ : ∃ i, i = flds x := ⟨_, rfl⟩
  have HI := Lib.hid hi
  rw [← hi] at hbd hf HST HM
  have hkn := ok_next hk
  clear hx hg hi
  obtain ⟨r, hr⟩ : ∃ r, r = c.next.op i (c.next.r i.b.toNat) (c.next.num i) := ⟨_, rfl⟩
  have HR := Lib.hid hr.symm
  have HE0 : Hid (c.step x = outOf c.next r) := by unfold Hid; rw [HST.out]; unfold Cpu.exec; rw [if_pos (by omega), ← hr]
  have hdo := fun w => refdo_walk c.next i w HM.out hkn (by omega)
  have HDO := Lib.hid hdo
  clear hr hdo hbd HST HM
  obtain ⟨form, u, v, a, bb, cc, op, im, off, cond, nn⟩ := i
  simp only at hf
  subst hf
  have H0 := (Sep.nil w).alloc3 c.cells Cpu.zero.cells Ev.none.cells 25 25 28
  have K0 := Lib.hid (Ke.below Non (bel3 w (.cells c.cells 25) (.cells Cpu.zero.cells 25) (.cells Ev.none.cells 28)))
  have pc0 : 0 ≤ c.pc := hk.pc.1
  have pc1 : c.pc < 4294967296 := hk.pc.2
  go_enter Try.func11, Try.ntmps11
  go_wp2_with fail
  refine (refof_walk x _ HX.out).mono ?_
  rintro e w1 ⟨he, hb1⟩
  rw [HG.out, if_pos rfl, ← HI.out] at he
  subst he
  have H1 := H0.bel hb1
  have K1 := Lib.hid (K0.out.trans (Ke.below Non hb1))
  have z1 : w.heap.size + 3 ≤ w1.heap.size := by have := hb1.size; simp at this; omega
  clear hb1 H0
  have f_0 : True := trivial
  have f_1 : True := trivial
  have f_2 : True := trivial
  have f_3 : True := trivial
  have f_4 : True := trivial
  go_wp2_with (first | (have _f := f_0; refine alloc_sep rfl 35 rfl H1 (z := Ins.zero.val) (cs := Ins.zero.cells) (by kernel_rfl) rfl ?_; intro w2 H2 b2 s2; have z2 : w.heap.size + 3 ≤ w2.heap.size := (by omega); clear s2; clear _f f_0) | (have _f := f_1; refine store_sep rfl 35 (.tmp 6) (.tmp 17) rfl H2 0 rfl rfl rfl (by kernel_rfl) rfl ?_ ?_; rfl; intro w3 H3 k3 s3; have z3 : w.heap.size + 3 ≤ w3.heap.size := (by omega); clear s3; have K3 := Lib.hid (ke2 (K1.out.trans (Ke.below Non b2)) k3 (by omega)); clear _f f_1) | (have _f := f_2; refine load_sep rfl 25 (.tmp 2) rfl H3 3 rfl rfl Try.underlying25 rfl (by kernel_rfl) ?_; clear _f f_2) | (have _f := f_3; refine alloc_sep rfl 25 rfl H3 (z := Cpu.zero.val) (cs := Cpu.zero.cells) (by kernel_rfl) rfl ?_; intro w4 H4 b4 s4; have z4 : w.heap.size + 3 ≤ w4.heap.size := (by omega); clear s4; clear _f f_3) | (have _f := f_4; refine store_sep rfl 25 (.tmp 8) (.tmp 19) rfl H4 0 rfl rfl rfl (by kernel_rfl) rfl ?_ ?_; rfl; intro w5 H5 k5 s5; have z5 : w.heap.size + 3 ≤ w5.heap.size := (by omega); clear s5; have K5 := Lib.hid (ke2 (K3.out.trans (Ke.below Non b4)) k5 (by omega)); have p21 : w5.cell? ⟨w.heap.size, 21, none⟩ = some (.int .u32 c.pc) := cell_of H5 4 rfl 21 rfl; clear _f f_4))
  refine (ref_word (c.pc + 1) _ (by omega)).mono ?_
  rintro e w' ⟨rfl, rfl⟩
  have f_0 : True := trivial
  have f_1 : True := trivial
  have f_2 : True := trivial
  go_wp2_with (first | (have _f := f_0; refine store1_sep rfl 22 (.tmp 25) (.tmp 24) rfl H5 0 rfl rfl rfl rfl (by kernel_rfl) ?_ ?_; rfl; intro w6 H6' k6 s6; have z6 : w.heap.size + 3 ≤ w6.heap.size := (by omega); clear s6; have H6 : Sep w6 [(w3.heap.size, c.next.cells, 25), (w1.heap.size, (Ins.mk 0 u v a bb cc op im off cond nn).cells, 35), (w.heap.size + 2, Ev.none.cells, 28), (w.heap.size + 1, Cpu.zero.cells, 25), (w.heap.size, c.cells, 25)] := H6'; have K6 := Lib.hid (ke2 K5.out k6 (by omega)); have f0 : w6.cell? ⟨w1.heap.size, 0, none⟩ = some (.int .i64 0) := cell_of H6 1 rfl 0 rfl; clear _f f_0) | (have _f := f_1; refine load_sep rfl 25 (.tmp 8) rfl H6 0 rfl rfl Try.underlying25 rfl (by kernel_rfl) ?_; clear _f f_1) | (have _f := f_2; refine load_sep rfl 35 (.tmp 6) rfl H6 1 rfl rfl Try.underlying35 rfl (by kernel_rfl) ?_; clear _f f_2))
  refine (HDO.out _).mono ?_
  rintro e w9 ⟨hd, hb9⟩
  rw [HR.out] at hd
  have H9 := H6.bel hb9
  have K9 := Lib.hid (K6.out.trans (Ke.below Non hb9))
  have z9 : w.heap.size + 3 ≤ w9.heap.size := by have := hb9.size; omega
  clear hb9
  cases r with
  | none =>
    simp only at hd
    subst hd
    have HE := Lib.hid (HE0.out.trans (show outOf c.next none = (c.next, Ev.odd) from rfl))
    have f_0 : True := trivial
    have f_1 : True := trivial
    have f_2 : True := trivial
    have f_3 : True := trivial
    have f_4 : True := trivial
    go_wp2_with (first | (have _f := f_0; refine alloc_sep rfl 25 rfl H9 (z := Cpu.zero.val) (cs := Cpu.zero.cells) (by kernel_rfl) rfl ?_; intro w10 H10 b10 s10; have z10 : w.heap.size + 3 ≤ w10.heap.size := (by omega); clear s10; clear _f f_0) | (have _f := f_1; refine store_sep rfl 25 (.tmp 9) (.tmp 37) rfl H10 0 rfl rfl rfl (by kernel_rfl) rfl ?_ ?_; rfl; intro w11 H11 k11 s11; have z11 : w.heap.size + 3 ≤ w11.heap.size := (by omega); clear s11; have K11 := Lib.hid (ke2 (K9.out.trans (Ke.below Non b10)) k11 (by omega)); clear _f f_1) | (have _f := f_2; refine load_sep rfl 25 (.tmp 8) rfl H11 1 rfl rfl Try.underlying25 rfl (by kernel_rfl) ?_; clear _f f_2) | (have _f := f_3; refine store_sep rfl 25 (.tmp 4) (.tmp 41) rfl H11 4 rfl rfl rfl (by kernel_rfl) rfl ?_ ?_; rfl; intro w7 H7 k7 s7; have z7 : w.heap.size + 3 ≤ w7.heap.size := (by omega); clear s7; clear _f f_3) | (have _f := f_4; refine store_sep rfl 28 (.tmp 5) (.tmp 42) rfl H7 3 rfl rfl rfl (by kernel_rfl) rfl ?_ ?_; rfl; intro w8 H8 k8 s8; have z8 : w.heap.size + 3 ≤ w8.heap.size := (by omega); clear s8; clear _f f_4))
    refine bodyPost_ret (res_cell_cell rfl rfl (H8.at 4 rfl) Try.underlying25 rfl (by kernel_rfl) rfl (H8.at 3 rfl) Try.underlying28 rfl (by kernel_rfl)) rfl (step_is HE.out rfl ?_)
    exact (ke2 (ke2 K11.out k7 (by omega)) k8 (by omega)).non
  | some d =>
    simp only at hd
    subst hd
    have HE := Lib.hid (HE0.out.trans (show outOf c.next (some d) = (d, Ev.none) from rfl))
    have f_0 : True := trivial
    have f_1 : True := trivial
    have f_2 : True := trivial
    have f_3 : True := trivial
    have f_4 : True := trivial
    go_wp2_with (first | (have _f := f_0; refine alloc_sep rfl 25 rfl H9 (z := Cpu.zero.val) (cs := Cpu.zero.cells) (by kernel_rfl) rfl ?_; intro w10 H10 b10 s10; have z10 : w.heap.size + 3 ≤ w10.heap.size := (by omega); clear s10; clear _f f_0) | (have _f := f_1; refine store_sep rfl 25 (.tmp 9) (.tmp 37) rfl H10 0 rfl rfl rfl (by kernel_rfl) rfl ?_ ?_; rfl; intro w11 H11 k11 s11; have z11 : w.heap.size + 3 ≤ w11.heap.size := (by omega); clear s11; have K11 := Lib.hid (ke2 (K9.out.trans (Ke.below Non b10)) k11 (by omega)); clear _f f_1) | (have _f := f_2; refine load_sep rfl 25 (.tmp 9) rfl H11 0 rfl rfl Try.underlying25 rfl (by kernel_rfl) ?_; clear _f f_2) | (have _f := f_3; refine store_sep rfl 25 (.tmp 4) (.tmp 43) rfl H11 4 rfl rfl rfl (by kernel_rfl) rfl ?_ ?_; rfl; intro w7 H7 k7 s7; have z7 : w.heap.size + 3 ≤ w7.heap.size := (by omega); clear s7; clear _f f_3) | (have _f := f_4; refine store_sep rfl 28 (.tmp 5) (.tmp 44) rfl H7 3 rfl rfl rfl (by kernel_rfl) rfl ?_ ?_; rfl; intro w8 H8 k8 s8; have z8 : w.heap.size + 3 ≤ w8.heap.size := (by omega); clear s8; clear _f f_4))
    refine bodyPost_ret (res_cell_cell rfl rfl (H8.at 4 rfl) Try.underlying25 rfl (by kernel_rfl) rfl (H8.at 3 rfl) Try.underlying28 rfl (by kernel_rfl)) rfl (step_is HE.out rfl ?_)
    exact (ke2 (ke2 K11.out k7 (by omega)) k8 (by omega)).non

set_option maxRecDepth 100000 in
set_option maxHeartbeats 8000000 in
theorem refstep_do1 (c : Cpu) (x : Int) (w : World) (hx : 0 ≤ x ∧ x < 4294967296) (hk : c.Ok) (hg : good (flds x) = true) (hf : (flds x).form = 1) : Calls Try.prog 11 #[c.val, .int .u32 x] w (StepIs c x w) := by
  have hbd := flds_bd hx
  have HST : Hid (c.step x = c.next.exec (flds x)) := by unfold Hid Cpu.step; rw [if_pos hg]
  have HM := Lib.hid (ins_ok_of hx hg)
  have HX := Lib.hid hx
  have HG := Lib.hid hg
  obtain ⟨i, hi⟩ : ∃ i, i = flds x := ⟨_, rfl⟩
  have HI := Lib.hid hi
  rw [← hi] at hbd hf HST HM
  have hkn := ok_next hk
  clear hx hg hi
  obtain ⟨r, hr⟩ : ∃ r, r = c.next.op i (c.next.r i.b.toNat) (c.next.num i) := ⟨_, rfl⟩
  have HR := Lib.hid hr.symm
  have HE0 : Hid (c.step x = outOf c.next r) := by unfold Hid; rw [HST.out]; unfold Cpu.exec; rw [if_pos (by omega), ← hr]
  have hdo := fun w => refdo_walk c.next i w HM.out hkn (by omega)
  have HDO := Lib.hid hdo
  clear hr hdo hbd HST HM
  obtain ⟨form, u, v, a, bb, cc, op, im, off, cond, nn⟩ := i
  simp only at hf
  subst hf
  have H0 := (Sep.nil w).alloc3 c.cells Cpu.zero.cells Ev.none.cells 25 25 28
  have K0 := Lib.hid (Ke.below Non (bel3 w (.cells c.cells 25) (.cells Cpu.zero.cells 25) (.cells Ev.none.cells 28)))
  have pc0 : 0 ≤ c.pc := hk.pc.1
  have pc1 : c.pc < 4294967296 := hk.pc.2
  go_enter Try.func11, Try.ntmps11
  go_wp2_with fail
  refine (refof_walk x _ HX.out).mono ?_
  rintro e w1 ⟨he, hb1⟩
  rw [HG.out, if_pos rfl, ← HI.out] at he
  subst he
  have H1 := H0.bel hb1
  have K1 := Lib.hid (K0.out.trans (Ke.below Non hb1))
  have z1 : w.heap.size + 3 ≤ w1.heap.size := by have := hb1.size; simp at this; omega
  clear hb1 H0
  have f_0 : True := trivial
  have f_1 : True := trivial
  have f_2 : True := trivial
  have f_3 : True := trivial
  have f_4 : True := trivial
  go_wp2_with (first | (have _f := f_0; refine alloc_sep rfl 35 rfl H1 (z := Ins.zero.val) (cs := Ins.zero.cells) (by kernel_rfl) rfl ?_; intro w2 H2 b2 s2; have z2 : w.heap.size + 3 ≤ w2.heap.size := (by omega); clear s2; clear _f f_0) | (have _f := f_1; refine store_sep rfl 35 (.tmp 6) (.tmp 17) rfl H2 0 rfl rfl rfl (by kernel_rfl) rfl ?_ ?_; rfl; intro w3 H3 k3 s3; have z3 : w.heap.size + 3 ≤ w3.heap.size := (by omega); clear s3; have K3 := Lib.hid (ke2 (K1.out.trans (Ke.below Non b2)) k3 (by omega)); clear _f f_1) | (have _f := f_2; refine load_sep rfl 25 (.tmp 2) rfl H3 3 rfl rfl Try.underlying25 rfl (by kernel_rfl) ?_; clear _f f_2) | (have _f := f_3; refine alloc_sep rfl 25 rfl H3 (z := Cpu.zero.val) (cs := Cpu.zero.cells) (by kernel_rfl) rfl ?_; intro w4 H4 b4 s4; have z4 : w.heap.size + 3 ≤ w4.heap.size := (by omega); clear s4; clear _f f_3) | (have _f := f_4; refine store_sep rfl 25 (.tmp 8) (.tmp 19) rfl H4 0 rfl rfl rfl (by kernel_rfl) rfl ?_ ?_; rfl; intro w5 H5 k5 s5; have z5 : w.heap.size + 3 ≤ w5.heap.size := (by omega); clear s5; have K5 := Lib.hid (ke2 (K3.out.trans (Ke.below Non b4)) k5 (by omega)); have p21 : w5.cell? ⟨w.heap.size, 21, none⟩ = some (.int .u32 c.pc) := cell_of H5 4 rfl 21 rfl; clear _f f_4))
  refine (ref_word (c.pc + 1) _ (by omega)).mono ?_
  rintro e w' ⟨rfl, rfl⟩
  have f_0 : True := trivial
  have f_1 : True := trivial
  have f_2 : True := trivial
  go_wp2_with (first | (have _f := f_0; refine store1_sep rfl 22 (.tmp 25) (.tmp 24) rfl H5 0 rfl rfl rfl rfl (by kernel_rfl) ?_ ?_; rfl; intro w6 H6' k6 s6; have z6 : w.heap.size + 3 ≤ w6.heap.size := (by omega); clear s6; have H6 : Sep w6 [(w3.heap.size, c.next.cells, 25), (w1.heap.size, (Ins.mk 1 u v a bb cc op im off cond nn).cells, 35), (w.heap.size + 2, Ev.none.cells, 28), (w.heap.size + 1, Cpu.zero.cells, 25), (w.heap.size, c.cells, 25)] := H6'; have K6 := Lib.hid (ke2 K5.out k6 (by omega)); have f0 : w6.cell? ⟨w1.heap.size, 0, none⟩ = some (.int .i64 1) := cell_of H6 1 rfl 0 rfl; clear _f f_0) | (have _f := f_1; refine load_sep rfl 25 (.tmp 8) rfl H6 0 rfl rfl Try.underlying25 rfl (by kernel_rfl) ?_; clear _f f_1) | (have _f := f_2; refine load_sep rfl 35 (.tmp 6) rfl H6 1 rfl rfl Try.underlying35 rfl (by kernel_rfl) ?_; clear _f f_2))
  refine (HDO.out _).mono ?_
  rintro e w9 ⟨hd, hb9⟩
  rw [HR.out] at hd
  have H9 := H6.bel hb9
  have K9 := Lib.hid (K6.out.trans (Ke.below Non hb9))
  have z9 : w.heap.size + 3 ≤ w9.heap.size := by have := hb9.size; omega
  clear hb9
  cases r with
  | none =>
    simp only at hd
    subst hd
    have HE := Lib.hid (HE0.out.trans (show outOf c.next none = (c.next, Ev.odd) from rfl))
    have f_0 : True := trivial
    have f_1 : True := trivial
    have f_2 : True := trivial
    have f_3 : True := trivial
    have f_4 : True := trivial
    go_wp2_with (first | (have _f := f_0; refine alloc_sep rfl 25 rfl H9 (z := Cpu.zero.val) (cs := Cpu.zero.cells) (by kernel_rfl) rfl ?_; intro w10 H10 b10 s10; have z10 : w.heap.size + 3 ≤ w10.heap.size := (by omega); clear s10; clear _f f_0) | (have _f := f_1; refine store_sep rfl 25 (.tmp 9) (.tmp 37) rfl H10 0 rfl rfl rfl (by kernel_rfl) rfl ?_ ?_; rfl; intro w11 H11 k11 s11; have z11 : w.heap.size + 3 ≤ w11.heap.size := (by omega); clear s11; have K11 := Lib.hid (ke2 (K9.out.trans (Ke.below Non b10)) k11 (by omega)); clear _f f_1) | (have _f := f_2; refine load_sep rfl 25 (.tmp 8) rfl H11 1 rfl rfl Try.underlying25 rfl (by kernel_rfl) ?_; clear _f f_2) | (have _f := f_3; refine store_sep rfl 25 (.tmp 4) (.tmp 41) rfl H11 4 rfl rfl rfl (by kernel_rfl) rfl ?_ ?_; rfl; intro w7 H7 k7 s7; have z7 : w.heap.size + 3 ≤ w7.heap.size := (by omega); clear s7; clear _f f_3) | (have _f := f_4; refine store_sep rfl 28 (.tmp 5) (.tmp 42) rfl H7 3 rfl rfl rfl (by kernel_rfl) rfl ?_ ?_; rfl; intro w8 H8 k8 s8; have z8 : w.heap.size + 3 ≤ w8.heap.size := (by omega); clear s8; clear _f f_4))
    refine bodyPost_ret (res_cell_cell rfl rfl (H8.at 4 rfl) Try.underlying25 rfl (by kernel_rfl) rfl (H8.at 3 rfl) Try.underlying28 rfl (by kernel_rfl)) rfl (step_is HE.out rfl ?_)
    exact (ke2 (ke2 K11.out k7 (by omega)) k8 (by omega)).non
  | some d =>
    simp only at hd
    subst hd
    have HE := Lib.hid (HE0.out.trans (show outOf c.next (some d) = (d, Ev.none) from rfl))
    have f_0 : True := trivial
    have f_1 : True := trivial
    have f_2 : True := trivial
    have f_3 : True := trivial
    have f_4 : True := trivial
    go_wp2_with (first | (have _f := f_0; refine alloc_sep rfl 25 rfl H9 (z := Cpu.zero.val) (cs := Cpu.zero.cells) (by kernel_rfl) rfl ?_; intro w10 H10 b10 s10; have z10 : w.heap.size + 3 ≤ w10.heap.size := (by omega); clear s10; clear _f f_0) | (have _f := f_1; refine store_sep rfl 25 (.tmp 9) (.tmp 37) rfl H10 0 rfl rfl rfl (by kernel_rfl) rfl ?_ ?_; rfl; intro w11 H11 k11 s11; have z11 : w.heap.size + 3 ≤ w11.heap.size := (by omega); clear s11; have K11 := Lib.hid (ke2 (K9.out.trans (Ke.below Non b10)) k11 (by omega)); clear _f f_1) | (have _f := f_2; refine load_sep rfl 25 (.tmp 9) rfl H11 0 rfl rfl Try.underlying25 rfl (by kernel_rfl) ?_; clear _f f_2) | (have _f := f_3; refine store_sep rfl 25 (.tmp 4) (.tmp 43) rfl H11 4 rfl rfl rfl (by kernel_rfl) rfl ?_ ?_; rfl; intro w7 H7 k7 s7; have z7 : w.heap.size + 3 ≤ w7.heap.size := (by omega); clear s7; clear _f f_3) | (have _f := f_4; refine store_sep rfl 28 (.tmp 5) (.tmp 44) rfl H7 3 rfl rfl rfl (by kernel_rfl) rfl ?_ ?_; rfl; intro w8 H8 k8 s8; have z8 : w.heap.size + 3 ≤ w8.heap.size := (by omega); clear s8; clear _f f_4))
    refine bodyPost_ret (res_cell_cell rfl rfl (H8.at 4 rfl) Try.underlying25 rfl (by kernel_rfl) rfl (H8.at 3 rfl) Try.underlying28 rfl (by kernel_rfl)) rfl (step_is HE.out rfl ?_)
    exact (ke2 (ke2 K11.out k7 (by omega)) k8 (by omega)).non

set_option maxRecDepth 100000 in
set_option maxHeartbeats 8000000 in
theorem refstep_load (c : Cpu) (x : Int) (w : World) (hx : 0 ≤ x ∧ x < 4294967296) (hk : c.Ok) (hg : good (flds x) = true) (hf : (flds x).form = 2) : Calls Try.prog 11 #[c.val, .int .u32 x] w (StepIs c x w) := by
  have hbd := flds_bd hx
  have HST : Hid (c.step x = c.next.exec (flds x)) := by unfold Hid Cpu.step; rw [if_pos hg]
  have HM := Lib.hid (ins_ok_of hx hg)
  have HX := Lib.hid hx
  have HG := Lib.hid hg
  obtain ⟨i, hi⟩ : ∃ i, i = flds x := ⟨_, rfl⟩
  have HI := Lib.hid hi
  rw [← hi] at hbd hf HST HM
  have hkn := ok_next hk
  clear hx hg hi
  obtain ⟨form, u, v, a, bb, cc, op, im, off, cond, nn⟩ := i
  simp only at hf
  subst hf
  obtain ⟨jb, rfl⟩ := Int.eq_ofNat_of_zero_le hbd.2.2.1.1
  have hj : jb < 16 := by have := hbd.2.2.1.2; simp only at this; omega
  obtain ⟨m, hm⟩ : ∃ m, m = c.r jb := ⟨_, rfl⟩
  have hm0 : 0 ≤ m := by rw [hm]; exact (hk.r jb).1
  have hm1 : m < 4294967296 := by rw [hm]; exact (hk.r jb).2
  have ho1 : -2147483648 ≤ off := hbd.2.2.2.2.2.2.2.2.1
  have ho2 : off < 2147483648 := hbd.2.2.2.2.2.2.2.2.2
  have HR := Lib.hid (reg_cell c w jb hj hm)
  have HE : Hid (c.step x = (c.next, ⟨1, W.wd (m + off), v, a, 0, 0⟩)) := by
    unfold Hid; rw [HST.out]; unfold Cpu.exec; rw [hm]; rfl
  clear hm hbd HST
  have H0 := (Sep.nil w).alloc3 c.cells Cpu.zero.cells Ev.none.cells 25 25 28
  have K0 := Lib.hid (Ke.below Non (bel3 w (.cells c.cells 25) (.cells Cpu.zero.cells 25) (.cells Ev.none.cells 28)))
  have pc0 : 0 ≤ c.pc := hk.pc.1
  have pc1 : c.pc < 4294967296 := hk.pc.2
  go_enter Try.func11, Try.ntmps11
  go_wp2_with fail
  refine (refof_walk x _ HX.out).mono ?_
  rintro e w1 ⟨he, hb1⟩
  rw [HG.out, if_pos rfl, ← HI.out] at he
  subst he
  have H1 := H0.bel hb1
  have K1 := Lib.hid (K0.out.trans (Ke.below Non hb1))
  have z1 : w.heap.size + 3 ≤ w1.heap.size := by have := hb1.size; simp at this; omega
  clear hb1 H0
  have f_0 : True := trivial
  have f_1 : True := trivial
  have f_2 : True := trivial
  have f_3 : True := trivial
  have f_4 : True := trivial
  go_wp2_with (first | (have _f := f_0; refine alloc_sep rfl 35 rfl H1 (z := Ins.zero.val) (cs := Ins.zero.cells) (by kernel_rfl) rfl ?_; intro w2 H2 b2 s2; have z2 : w.heap.size + 3 ≤ w2.heap.size := (by omega); clear s2; clear _f f_0) | (have _f := f_1; refine store_sep rfl 35 (.tmp 6) (.tmp 17) rfl H2 0 rfl rfl rfl (by kernel_rfl) rfl ?_ ?_; rfl; intro w3 H3 k3 s3; have z3 : w.heap.size + 3 ≤ w3.heap.size := (by omega); clear s3; have K3 := Lib.hid (ke2 (K1.out.trans (Ke.below Non b2)) k3 (by omega)); clear _f f_1) | (have _f := f_2; refine load_sep rfl 25 (.tmp 2) rfl H3 3 rfl rfl Try.underlying25 rfl (by kernel_rfl) ?_; clear _f f_2) | (have _f := f_3; refine alloc_sep rfl 25 rfl H3 (z := Cpu.zero.val) (cs := Cpu.zero.cells) (by kernel_rfl) rfl ?_; intro w4 H4 b4 s4; have z4 : w.heap.size + 3 ≤ w4.heap.size := (by omega); clear s4; clear _f f_3) | (have _f := f_4; refine store_sep rfl 25 (.tmp 8) (.tmp 19) rfl H4 0 rfl rfl rfl (by kernel_rfl) rfl ?_ ?_; rfl; intro w5 H5 k5 s5; have z5 : w.heap.size + 3 ≤ w5.heap.size := (by omega); clear s5; have K5 := Lib.hid (ke2 (K3.out.trans (Ke.below Non b4)) k5 (by omega)); have p21 : w5.cell? ⟨w.heap.size, 21, none⟩ = some (.int .u32 c.pc) := cell_of H5 4 rfl 21 rfl; clear _f f_4))
  refine (ref_word (c.pc + 1) _ (by omega)).mono ?_
  rintro e w' ⟨rfl, rfl⟩
  have f_0 : True := trivial
  go_wp2_with (first | (have _f := f_0; refine store1_sep rfl 22 (.tmp 25) (.tmp 24) rfl H5 0 rfl rfl rfl rfl (by kernel_rfl) ?_ ?_; rfl; intro w6 H6' k6 s6; have z6 : w.heap.size + 3 ≤ w6.heap.size := (by omega); clear s6; have H6 : Sep w6 [(w3.heap.size, c.next.cells, 25), (w1.heap.size, (Ins.mk 2 u v a jb cc op im off cond nn).cells, 35), (w.heap.size + 2, Ev.none.cells, 28), (w.heap.size + 1, Cpu.zero.cells, 25), (w.heap.size, c.cells, 25)] := H6'; have K6 := Lib.hid (ke2 K5.out k6 (by omega)); have f0 : w6.cell? ⟨w1.heap.size, 0, none⟩ = some (.int .i64 2) := cell_of H6 1 rfl 0 rfl; clear _f f_0))
  refine wp_region_mix' [([0, 1, 2, 3, 4, 5, 6, 7, 8], 9)] [10] (by kernel_rfl) (by kernel_rfl) (fun _ _ d _ _ h => by cases d <;> exact h) ?_
  intro w9 hb9
  have H9 := H6.bel hb9
  have K9 := Lib.hid (K6.out.trans (Ke.below Non hb9))
  have z9 : w.heap.size + 3 ≤ w9.heap.size := by have := hb9.size; omega
  have q1 := (H9.at 4 rfl).laterCellB (v := .int .u32 m) jb HR.out
  have q2 := (H9.at 1 rfl).laterCellB (v := .int .i64 jb) 4 rfl
  have q3 := (H9.at 1 rfl).laterCellB (v := .int .i64 off) 8 rfl
  refine mix_step ?_
  simp only [pickOps, nth]
  (repeat (go_big_quiet_step (fail)))
  refine wpQuiet_nil ?_
  clear q1 q2 q3 hb9
  go_wp2_with fail
  refine (ref_word (m + off) _ (by omega)).mono ?_
  rintro e w' ⟨rfl, rfl⟩
  go_wp2_with fail
  refine ⟨Below.refl _ _, mix_end ?_⟩
  simp only [pickOps, nth]
  (repeat (go_big_quiet_step (fail)))
  refine wpQuiet_nil ?_
  have g0 : w9.cell? ⟨w1.heap.size, 0, none⟩ = some (.int .i64 2) := cell_of H9 1 rfl 0 rfl
  go_wp2_with fail
  refine wp_region_mixK (fun k => k = w.heap.size + 1 ∨ k = w.heap.size + 2) [([1, 2, 3, 4, 5, 6, 0], 7), ([], 8)] [] (by kernel_rfl) (by kernel_rfl) (fun _ _ d _ _ h => by cases d <;> exact h) ?_
  intro w12 hb12
  have H12 := H9.bel hb12
  have K12 := Lib.hid (K9.out.trans (Ke.below Non hb12))
  have z12 : w.heap.size + 3 ≤ w12.heap.size := by have := hb12.size; omega
  clear hb12
  have n3 : ¬ (w3.heap.size = w.heap.size + 1 ∨ w3.heap.size = w.heap.size + 2) := by omega
  have n0 : ¬ (w1.heap.size = w.heap.size + 1 ∨ w1.heap.size = w.heap.size + 2) := by omega
  have q1 := fun x => ((H12.at 0 rfl).later (G := (fun k => k = w.heap.size + 1 ∨ k = w.heap.size + 2)) n3 x).loads (P := Try.prog) Try.underlying25 rfl (by kernel_rfl)
  have q2 := (H12.at 1 rfl).laterCell (G := (fun k => k = w.heap.size + 1 ∨ k = w.heap.size + 2)) n0 2 (v := .bool v) rfl
  have q3 := (H12.at 1 rfl).laterCell (G := (fun k => k = w.heap.size + 1 ∨ k = w.heap.size + 2)) n0 3 (v := .int .i64 a) rfl
  refine mixK_step ?_
  simp only [pickOps, nth]
  (repeat (go_big_quiet_step (fail)))
  go_big_quiet_want
  refine quiet_row 25 (.tmp 8) rfl rfl q1 ?_
  go_big_quiet_on
  refine wpQuiet_nil ?_
  go_wp2_with (refine store_sep rfl 25 (.tmp 4) (.tmp 61) rfl H12 3 rfl rfl rfl (by kernel_rfl) rfl ?_ ?_; rfl; intro w7 H7 k7 s7; have z7 : w.heap.size + 3 ≤ w7.heap.size := (by omega); clear s7)
  refine ⟨k7.mono (fun i hi hh => Or.inl hh), mixK_step ?_⟩
  simp only [pickOps, nth]
  refine wpQuiet_nil ?_
  go_wp2_with (refine store_sep rfl 28 (.tmp 5) (.tmp 67) rfl H7 2 rfl rfl rfl (by kernel_rfl) rfl ?_ ?_; rfl; intro w8 H8 k8 s8; have z8 : w.heap.size + 3 ≤ w8.heap.size := (by omega); clear s8)
  refine ⟨k8.mono (fun i hi hh => Or.inr hh), mixK_end ?_⟩
  simp only [pickOps, nth]
  refine wpQuiet_nil ?_
  go_wp2_with fail
  refine bodyPost_ret (res_cell_cell rfl rfl (H8.at 3 rfl) Try.underlying25 rfl (by kernel_rfl) rfl (H8.at 2 rfl) Try.underlying28 rfl (by kernel_rfl)) rfl (step_is HE.out rfl ?_)
  exact (ke2 (ke2 K12.out k7 (by omega)) k8 (by omega)).non

set_option maxRecDepth 100000 in
set_option maxHeartbeats 8000000 in
theorem refstep_store_false (c : Cpu) (x : Int) (w : World) (hx : 0 ≤ x ∧ x < 4294967296) (hk : c.Ok) (hg : good (flds x) = true) (hf : (flds x).form = 3) (hv : (flds x).v = false) : Calls Try.prog 11 #[c.val, .int .u32 x] w (StepIs c x w) := by
  have hbd := flds_bd hx
  have HST : Hid (c.step x = c.next.exec (flds x)) := by unfold Hid Cpu.step; rw [if_pos hg]
  have HM := Lib.hid (ins_ok_of hx hg)
  have HX := Lib.hid hx
  have HG := Lib.hid hg
  obtain ⟨i, hi⟩ : ∃ i, i = flds x := ⟨_, rfl⟩
  have HI := Lib.hid hi
  rw [← hi] at hbd hf hv HST HM
  have hkn := ok_next hk
  clear hx hg hi
  obtain ⟨form, u, v, a, bb, cc, op, im, off, cond, nn⟩ := i
  simp only at hf hv
  subst hf hv
  obtain ⟨jb, rfl⟩ := Int.eq_ofNat_of_zero_le hbd.2.2.1.1
  have hj : jb < 16 := by have := hbd.2.2.1.2; simp only at this; omega
  obtain ⟨m, hm⟩ : ∃ m, m = c.r jb := ⟨_, rfl⟩
  have hm0 : 0 ≤ m := by rw [hm]; exact (hk.r jb).1
  have hm1 : m < 4294967296 := by rw [hm]; exact (hk.r jb).2
  have ho1 : -2147483648 ≤ off := hbd.2.2.2.2.2.2.2.2.1
  have ho2 : off < 2147483648 := hbd.2.2.2.2.2.2.2.2.2
  have HR := Lib.hid (reg_cell c w jb hj hm)
  obtain ⟨ja, rfl⟩ := Int.eq_ofNat_of_zero_le hbd.2.1.1
  have hja : ja < 16 := by have := hbd.2.1.2; simp only at this; omega
  obtain ⟨ma, hma⟩ : ∃ m, m = c.r ja := ⟨_, rfl⟩
  have ha0 : 0 ≤ ma := by rw [hma]; exact (hk.r ja).1
  have ha1 : ma < 4294967296 := by rw [hma]; exact (hk.r ja).2
  have HRA := Lib.hid (reg_cell c w ja hja hma)
  have HE : Hid (c.step x = (c.next, ⟨2, W.wd (m + off), false, jb, ma, 0⟩)) := by
    unfold Hid; rw [HST.out]; unfold Cpu.exec; rw [hm, hma]; rfl
  clear hm hma hbd HST
  have H0 := (Sep.nil w).alloc3 c.cells Cpu.zero.cells Ev.none.cells 25 25 28
  have K0 := Lib.hid (Ke.below Non (bel3 w (.cells c.cells 25) (.cells Cpu.zero.cells 25) (.cells Ev.none.cells 28)))
  have pc0 : 0 ≤ c.pc := hk.pc.1
  have pc1 : c.pc < 4294967296 := hk.pc.2
  go_enter Try.func11, Try.ntmps11
  go_wp2_with fail
  refine (refof_walk x _ HX.out).mono ?_
  rintro e w1 ⟨he, hb1⟩
  rw [HG.out, if_pos rfl, ← HI.out] at he
  subst he
  have H1 := H0.bel hb1
  have K1 := Lib.hid (K0.out.trans (Ke.below Non hb1))
  have z1 : w.heap.size + 3 ≤ w1.heap.size := by have := hb1.size; simp at this; omega
  clear hb1 H0
  have f_0 : True := trivial
  have f_1 : True := trivial
  have f_2 : True := trivial
  have f_3 : True := trivial
  have f_4 : True := trivial
  go_wp2_with (first | (have _f := f_0; refine alloc_sep rfl 35 rfl H1 (z := Ins.zero.val) (cs := Ins.zero.cells) (by kernel_rfl) rfl ?_; intro w2 H2 b2 s2; have z2 : w.heap.size + 3 ≤ w2.heap.size := (by omega); clear s2; clear _f f_0) | (have _f := f_1; refine store_sep rfl 35 (.tmp 6) (.tmp 17) rfl H2 0 rfl rfl rfl (by kernel_rfl) rfl ?_ ?_; rfl; intro w3 H3 k3 s3; have z3 : w.heap.size + 3 ≤ w3.heap.size := (by omega); clear s3; have K3 := Lib.hid (ke2 (K1.out.trans (Ke.below Non b2)) k3 (by omega)); clear _f f_1) | (have _f := f_2; refine load_sep rfl 25 (.tmp 2) rfl H3 3 rfl rfl Try.underlying25 rfl (by kernel_rfl) ?_; clear _f f_2) | (have _f := f_3; refine alloc_sep rfl 25 rfl H3 (z := Cpu.zero.val) (cs := Cpu.zero.cells) (by kernel_rfl) rfl ?_; intro w4 H4 b4 s4; have z4 : w.heap.size + 3 ≤ w4.heap.size := (by omega); clear s4; clear _f f_3) | (have _f := f_4; refine store_sep rfl 25 (.tmp 8) (.tmp 19) rfl H4 0 rfl rfl rfl (by kernel_rfl) rfl ?_ ?_; rfl; intro w5 H5 k5 s5; have z5 : w.heap.size + 3 ≤ w5.heap.size := (by omega); clear s5; have K5 := Lib.hid (ke2 (K3.out.trans (Ke.below Non b4)) k5 (by omega)); have p21 : w5.cell? ⟨w.heap.size, 21, none⟩ = some (.int .u32 c.pc) := cell_of H5 4 rfl 21 rfl; clear _f f_4))
  refine (ref_word (c.pc + 1) _ (by omega)).mono ?_
  rintro e w' ⟨rfl, rfl⟩
  have f_0 : True := trivial
  go_wp2_with (first | (have _f := f_0; refine store1_sep rfl 22 (.tmp 25) (.tmp 24) rfl H5 0 rfl rfl rfl rfl (by kernel_rfl) ?_ ?_; rfl; intro w6 H6' k6 s6; have z6 : w.heap.size + 3 ≤ w6.heap.size := (by omega); clear s6; have H6 : Sep w6 [(w3.heap.size, c.next.cells, 25), (w1.heap.size, (Ins.mk 3 u false ja jb cc op im off cond nn).cells, 35), (w.heap.size + 2, Ev.none.cells, 28), (w.heap.size + 1, Cpu.zero.cells, 25), (w.heap.size, c.cells, 25)] := H6'; have K6 := Lib.hid (ke2 K5.out k6 (by omega)); have f0 : w6.cell? ⟨w1.heap.size, 0, none⟩ = some (.int .i64 3) := cell_of H6 1 rfl 0 rfl; clear _f f_0))
  refine wp_region_mix' [([0, 1, 2, 3, 4, 5, 6, 7, 8], 9)] [10] (by kernel_rfl) (by kernel_rfl) (fun _ _ d _ _ h => by cases d <;> exact h) ?_
  intro w9 hb9
  have H9 := H6.bel hb9
  have K9 := Lib.hid (K6.out.trans (Ke.below Non hb9))
  have z9 : w.heap.size + 3 ≤ w9.heap.size := by have := hb9.size; omega
  have q1 := (H9.at 4 rfl).laterCellB (v := .int .u32 m) jb HR.out
  have q2 := (H9.at 1 rfl).laterCellB (v := .int .i64 jb) 4 rfl
  have q3 := (H9.at 1 rfl).laterCellB (v := .int .i64 off) 8 rfl
  refine mix_step ?_
  simp only [pickOps, nth]
  (repeat (go_big_quiet_step (fail)))
  refine wpQuiet_nil ?_
  clear q1 q2 q3 hb9
  go_wp2_with fail
  refine (ref_word (m + off) _ (by omega)).mono ?_
  rintro e w' ⟨rfl, rfl⟩
  go_wp2_with fail
  refine ⟨Below.refl _ _, mix_end ?_⟩
  simp only [pickOps, nth]
  (repeat (go_big_quiet_step (fail)))
  refine wpQuiet_nil ?_
  have g0 : w9.cell? ⟨w1.heap.size, 0, none⟩ = some (.int .i64 3) := cell_of H9 1 rfl 0 rfl
  have g2 : w9.cell? ⟨w1.heap.size, 2, none⟩ = some (.bool false) := cell_of H9 1 rfl 2 rfl
  have g3 : w9.cell? ⟨w1.heap.size, 3, none⟩ = some (.int .i64 ja) := cell_of H9 1 rfl 3 rfl
  have ga : w9.cell? ⟨w.heap.size, ja, none⟩ = some (.int .u32 ma) := cell_of H9 4 rfl ja HRA.out
  go_wp2_with fail
  refine wp_region_mixK (fun k => k = w.heap.size + 1 ∨ k = w.heap.size + 2) [([1, 2, 3, 4, 5, 6, 7, 0], 8), ([], 9)] [] (by kernel_rfl) (by kernel_rfl) (fun _ _ d _ _ h => by cases d <;> exact h) ?_
  intro w12 hb12
  have H12 := H9.bel hb12
  have K12 := Lib.hid (K9.out.trans (Ke.below Non hb12))
  have z12 : w.heap.size + 3 ≤ w12.heap.size := by have := hb12.size; omega
  clear hb12
  have n3 : ¬ (w3.heap.size = w.heap.size + 1 ∨ w3.heap.size = w.heap.size + 2) := by omega
  have n0 : ¬ (w1.heap.size = w.heap.size + 1 ∨ w1.heap.size = w.heap.size + 2) := by omega
  have q1 := fun x => ((H12.at 0 rfl).later (G := (fun k => k = w.heap.size + 1 ∨ k = w.heap.size + 2)) n3 x).loads (P := Try.prog) Try.underlying25 rfl (by kernel_rfl)
  have q2 := (H12.at 1 rfl).laterCell (G := (fun k => k = w.heap.size + 1 ∨ k = w.heap.size + 2)) n0 2 (v := .bool false) rfl
  have q3 := (H12.at 1 rfl).laterCell (G := (fun k => k = w.heap.size + 1 ∨ k = w.heap.size + 2)) n0 4 (v := .int .i64 jb) rfl
  refine mixK_step ?_
  simp only [pickOps, nth]
  (repeat (go_big_quiet_step (fail)))
  go_big_quiet_want
  refine quiet_row 25 (.tmp 8) rfl rfl q1 ?_
  go_big_quiet_on
  refine wpQuiet_nil ?_
  go_wp2_with (refine store_sep rfl 25 (.tmp 4) (.tmp 77) rfl H12 3 rfl rfl rfl (by kernel_rfl) rfl ?_ ?_; rfl; intro w7 H7 k7 s7; have z7 : w.heap.size + 3 ≤ w7.heap.size := (by omega); clear s7)
  refine ⟨k7.mono (fun i hi hh => Or.inl hh), mixK_step ?_⟩
  simp only [pickOps, nth]
  refine wpQuiet_nil ?_
  go_wp2_with (refine store_sep rfl 28 (.tmp 5) (.tmp 84) rfl H7 2 rfl rfl rfl (by kernel_rfl) rfl ?_ ?_; rfl; intro w8 H8 k8 s8; have z8 : w.heap.size + 3 ≤ w8.heap.size := (by omega); clear s8)
  refine ⟨k8.mono (fun i hi hh => Or.inr hh), mixK_end ?_⟩
  simp only [pickOps, nth]
  refine wpQuiet_nil ?_
  go_wp2_with fail
  refine bodyPost_ret (res_cell_cell rfl rfl (H8.at 3 rfl) Try.underlying25 rfl (by kernel_rfl) rfl (H8.at 2 rfl) Try.underlying28 rfl (by kernel_rfl)) rfl (step_is HE.out rfl ?_)
  exact (ke2 (ke2 K12.out k7 (by omega)) k8 (by omega)).non

set_option maxRecDepth 100000 in
set_option maxHeartbeats 8000000 in
theorem refstep_store_true (c : Cpu) (x : Int) (w : World) (hx : 0 ≤ x ∧ x < 4294967296) (hk : c.Ok) (hg : good (flds x) = true) (hf : (flds x).form = 3) (hv : (flds x).v = true) : Calls Try.prog 11 #[c.val, .int .u32 x] w (StepIs c x w) := by
  have hbd := flds_bd hx
  have HST : Hid (c.step x = c.next.exec (flds x)) := by unfold Hid Cpu.step; rw [if_pos hg]
  have HM := Lib.hid (ins_ok_of hx hg)
  have HX := Lib.hid hx
  have HG := Lib.hid hg
  obtain ⟨i, hi⟩ : ∃ i, i = flds x := ⟨_, rfl⟩
  have HI := Lib.hid hi
  rw [← hi] at hbd hf hv HST HM
  have hkn := ok_next hk
  clear hx hg hi
  obtain ⟨form, u, v, a, bb, cc, op, im, off, cond, nn⟩ := i
  simp only at hf hv
  subst hf hv
  obtain ⟨jb, rfl⟩ := Int.eq_ofNat_of_zero_le hbd.2.2.1.1
  have hj : jb < 16 := by have := hbd.2.2.1.2; simp only at this; omega
  obtain ⟨m, hm⟩ : ∃ m, m = c.r jb := ⟨_, rfl⟩
  have hm0 : 0 ≤ m := by rw [hm]; exact (hk.r jb).1
  have hm1 : m < 4294967296 := by rw [hm]; exact (hk.r jb).2
  have ho1 : -2147483648 ≤ off := hbd.2.2.2.2.2.2.2.2.1
  have ho2 : off < 2147483648 := hbd.2.2.2.2.2.2.2.2.2
  have HR := Lib.hid (reg_cell c w jb hj hm)
  obtain ⟨ja, rfl⟩ := Int.eq_ofNat_of_zero_le hbd.2.1.1
  have hja : ja < 16 := by have := hbd.2.1.2; simp only at this; omega
  obtain ⟨ma, hma⟩ : ∃ m, m = c.r ja := ⟨_, rfl⟩
  have ha0 : 0 ≤ ma := by rw [hma]; exact (hk.r ja).1
  have ha1 : ma < 4294967296 := by rw [hma]; exact (hk.r ja).2
  have HRA := Lib.hid (reg_cell c w ja hja hma)
  have HE : Hid (c.step x = (c.next, ⟨2, W.wd (m + off), true, jb, ma % 256, 0⟩)) := by
    unfold Hid; rw [HST.out]; unfold Cpu.exec; rw [hm, hma]; rfl
  clear hm hma hbd HST
  have H0 := (Sep.nil w).alloc3 c.cells Cpu.zero.cells Ev.none.cells 25 25 28
  have K0 := Lib.hid (Ke.below Non (bel3 w (.cells c.cells 25) (.cells Cpu.zero.cells 25) (.cells Ev.none.cells 28)))
  have pc0 : 0 ≤ c.pc := hk.pc.1
  have pc1 : c.pc < 4294967296 := hk.pc.2
  go_enter Try.func11, Try.ntmps11
  go_wp2_with fail
  refine (refof_walk x _ HX.out).mono ?_
  rintro e w1 ⟨he, hb1⟩
  rw [HG.out, if_pos rfl, ← HI.out] at he
  subst he
  have H1 := H0.bel hb1
  have K1 := Lib.hid (K0.out.trans (Ke.below Non hb1))
  have z1 : w.heap.size + 3 ≤ w1.heap.size := by have := hb1.size; simp at this; omega
  clear hb1 H0
  have f_0 : True := trivial
  have f_1 : True := trivial
  have f_2 : True := trivial
  have f_3 : True := trivial
  have f_4 : True := trivial
  go_wp2_with (first | (have _f := f_0; refine alloc_sep rfl 35 rfl H1 (z := Ins.zero.val) (cs := Ins.zero.cells) (by kernel_rfl) rfl ?_; intro w2 H2 b2 s2; have z2 : w.heap.size + 3 ≤ w2.heap.size := (by omega); clear s2; clear _f f_0) | (have _f := f_1; refine store_sep rfl 35 (.tmp 6) (.tmp 17) rfl H2 0 rfl rfl rfl (by kernel_rfl) rfl ?_ ?_; rfl; intro w3 H3 k3 s3; have z3 : w.heap.size + 3 ≤ w3.heap.size := (by omega); clear s3; have K3 := Lib.hid (ke2 (K1.out.trans (Ke.below Non b2)) k3 (by omega)); clear _f f_1) | (have _f := f_2; refine load_sep rfl 25 (.tmp 2) rfl H3 3 rfl rfl Try.underlying25 rfl (by kernel_rfl) ?_; clear _f f_2) | (have _f := f_3; refine alloc_sep rfl 25 rfl H3 (z := Cpu.zero.val) (cs := Cpu.zero.cells) (by kernel_rfl) rfl ?_; intro w4 H4 b4 s4; have z4 : w.heap.size + 3 ≤ w4.heap.size := (by omega); clear s4; clear _f f_3) | (have _f := f_4; refine store_sep rfl 25 (.tmp 8) (.tmp 19) rfl H4 0 rfl rfl rfl (by kernel_rfl) rfl ?_ ?_; rfl; intro w5 H5 k5 s5; have z5 : w.heap.size + 3 ≤ w5.heap.size := (by omega); clear s5; have K5 := Lib.hid (ke2 (K3.out.trans (Ke.below Non b4)) k5 (by omega)); have p21 : w5.cell? ⟨w.heap.size, 21, none⟩ = some (.int .u32 c.pc) := cell_of H5 4 rfl 21 rfl; clear _f f_4))
  refine (ref_word (c.pc + 1) _ (by omega)).mono ?_
  rintro e w' ⟨rfl, rfl⟩
  have f_0 : True := trivial
  go_wp2_with (first | (have _f := f_0; refine store1_sep rfl 22 (.tmp 25) (.tmp 24) rfl H5 0 rfl rfl rfl rfl (by kernel_rfl) ?_ ?_; rfl; intro w6 H6' k6 s6; have z6 : w.heap.size + 3 ≤ w6.heap.size := (by omega); clear s6; have H6 : Sep w6 [(w3.heap.size, c.next.cells, 25), (w1.heap.size, (Ins.mk 3 u true ja jb cc op im off cond nn).cells, 35), (w.heap.size + 2, Ev.none.cells, 28), (w.heap.size + 1, Cpu.zero.cells, 25), (w.heap.size, c.cells, 25)] := H6'; have K6 := Lib.hid (ke2 K5.out k6 (by omega)); have f0 : w6.cell? ⟨w1.heap.size, 0, none⟩ = some (.int .i64 3) := cell_of H6 1 rfl 0 rfl; clear _f f_0))
  refine wp_region_mix' [([0, 1, 2, 3, 4, 5, 6, 7, 8], 9)] [10] (by kernel_rfl) (by kernel_rfl) (fun _ _ d _ _ h => by cases d <;> exact h) ?_
  intro w9 hb9
  have H9 := H6.bel hb9
  have K9 := Lib.hid (K6.out.trans (Ke.below Non hb9))
  have z9 : w.heap.size + 3 ≤ w9.heap.size := by have := hb9.size; omega
  have q1 := (H9.at 4 rfl).laterCellB (v := .int .u32 m) jb HR.out
  have q2 := (H9.at 1 rfl).laterCellB (v := .int .i64 jb) 4 rfl
  have q3 := (H9.at 1 rfl).laterCellB (v := .int .i64 off) 8 rfl
  refine mix_step ?_
  simp only [pickOps, nth]
  (repeat (go_big_quiet_step (fail)))
  refine wpQuiet_nil ?_
  clear q1 q2 q3 hb9
  go_wp2_with fail
  refine (ref_word (m + off) _ (by omega)).mono ?_
  rintro e w' ⟨rfl, rfl⟩
  go_wp2_with fail
  refine ⟨Below.refl _ _, mix_end ?_⟩
  simp only [pickOps, nth]
  (repeat (go_big_quiet_step (fail)))
  refine wpQuiet_nil ?_
  have g0 : w9.cell? ⟨w1.heap.size, 0, none⟩ = some (.int .i64 3) := cell_of H9 1 rfl 0 rfl
  have g2 : w9.cell? ⟨w1.heap.size, 2, none⟩ = some (.bool true) := cell_of H9 1 rfl 2 rfl
  have g3 : w9.cell? ⟨w1.heap.size, 3, none⟩ = some (.int .i64 ja) := cell_of H9 1 rfl 3 rfl
  have ga : w9.cell? ⟨w.heap.size, ja, none⟩ = some (.int .u32 ma) := cell_of H9 4 rfl ja HRA.out
  go_wp2_with fail
  refine wp_region_mixK (fun k => k = w.heap.size + 1 ∨ k = w.heap.size + 2) [([1, 2, 3, 4, 5, 6, 7, 0], 8), ([], 9)] [] (by kernel_rfl) (by kernel_rfl) (fun _ _ d _ _ h => by cases d <;> exact h) ?_
  intro w12 hb12
  have H12 := H9.bel hb12
  have K12 := Lib.hid (K9.out.trans (Ke.below Non hb12))
  have z12 : w.heap.size + 3 ≤ w12.heap.size := by have := hb12.size; omega
  clear hb12
  have n3 : ¬ (w3.heap.size = w.heap.size + 1 ∨ w3.heap.size = w.heap.size + 2) := by omega
  have n0 : ¬ (w1.heap.size = w.heap.size + 1 ∨ w1.heap.size = w.heap.size + 2) := by omega
  have q1 := fun x => ((H12.at 0 rfl).later (G := (fun k => k = w.heap.size + 1 ∨ k = w.heap.size + 2)) n3 x).loads (P := Try.prog) Try.underlying25 rfl (by kernel_rfl)
  have q2 := (H12.at 1 rfl).laterCell (G := (fun k => k = w.heap.size + 1 ∨ k = w.heap.size + 2)) n0 2 (v := .bool true) rfl
  have q3 := (H12.at 1 rfl).laterCell (G := (fun k => k = w.heap.size + 1 ∨ k = w.heap.size + 2)) n0 4 (v := .int .i64 jb) rfl
  refine mixK_step ?_
  simp only [pickOps, nth]
  (repeat (go_big_quiet_step (fail)))
  go_big_quiet_want
  refine quiet_row 25 (.tmp 8) rfl rfl q1 ?_
  go_big_quiet_on
  refine wpQuiet_nil ?_
  go_wp2_with (refine store_sep rfl 25 (.tmp 4) (.tmp 77) rfl H12 3 rfl rfl rfl (by kernel_rfl) rfl ?_ ?_; rfl; intro w7 H7 k7 s7; have z7 : w.heap.size + 3 ≤ w7.heap.size := (by omega); clear s7)
  refine ⟨k7.mono (fun i hi hh => Or.inl hh), mixK_step ?_⟩
  simp only [pickOps, nth]
  refine wpQuiet_nil ?_
  go_wp2_with (refine store_sep rfl 28 (.tmp 5) (.tmp 84) rfl H7 2 rfl rfl rfl (by kernel_rfl) rfl ?_ ?_; rfl; intro w8 H8 k8 s8; have z8 : w.heap.size + 3 ≤ w8.heap.size := (by omega); clear s8)
  refine ⟨k8.mono (fun i hi hh => Or.inr hh), mixK_end ?_⟩
  simp only [pickOps, nth]
  refine wpQuiet_nil ?_
  go_wp2_with fail
  refine bodyPost_ret (res_cell_cell rfl rfl (H8.at 3 rfl) Try.underlying25 rfl (by kernel_rfl) rfl (H8.at 2 rfl) Try.underlying28 rfl (by kernel_rfl)) rfl (step_is HE.out rfl ?_)
  exact (ke2 (ke2 K12.out k7 (by omega)) k8 (by omega)).non

set_option maxRecDepth 100000 in
set_option maxHeartbeats 8000000 in
theorem refstep_not4 (c : Cpu) (x : Int) (w : World) (hx : 0 ≤ x ∧ x < 4294967296) (hk : c.Ok) (hg : good (flds x) = true) (hf : (flds x).form = 4) (hc : c.next.cond (flds x).cond = false) : Calls Try.prog 11 #[c.val, .int .u32 x] w (StepIs c x w) := by
  have hbd := flds_bd hx
  have HST : Hid (c.step x = c.next.exec (flds x)) := by unfold Hid Cpu.step; rw [if_pos hg]
  have HM := Lib.hid (ins_ok_of hx hg)
  have HX := Lib.hid hx
  have HG := Lib.hid hg
  obtain ⟨i, hi⟩ : ∃ i, i = flds x := ⟨_, rfl⟩
  have HI := Lib.hid hi
  rw [← hi] at hbd hf HST HM
  have hkn := ok_next hk
  clear hx hg hi
  rw [← HI.out] at hc
  have hc2 : c.cond i.cond = false := hc
  have HC := Lib.hid hc2
  have HE : Hid (c.step x = (c.next, Ev.none)) := by unfold Hid; rw [HST.out]; unfold Cpu.exec; rw [if_neg (by omega), if_neg (by omega), if_neg (by omega), if_pos hc]
  clear hc hc2 HST hbd
  obtain ⟨form, u, v, a, bb, cc, op, im, off, cond, nn⟩ := i
  simp only at hf
  subst hf
  have H0 := (Sep.nil w).alloc3 c.cells Cpu.zero.cells Ev.none.cells 25 25 28
  have K0 := Lib.hid (Ke.below Non (bel3 w (.cells c.cells 25) (.cells Cpu.zero.cells 25) (.cells Ev.none.cells 28)))
  have pc0 : 0 ≤ c.pc := hk.pc.1
  have pc1 : c.pc < 4294967296 := hk.pc.2
  go_enter Try.func11, Try.ntmps11
  go_wp2_with fail
  refine (refof_walk x _ HX.out).mono ?_
  rintro e w1 ⟨he, hb1⟩
  rw [HG.out, if_pos rfl, ← HI.out] at he
  subst he
  have H1 := H0.bel hb1
  have K1 := Lib.hid (K0.out.trans (Ke.below Non hb1))
  have z1 : w.heap.size + 3 ≤ w1.heap.size := by have := hb1.size; simp at this; omega
  clear hb1 H0
  have f_0 : True := trivial
  have f_1 : True := trivial
  have f_2 : True := trivial
  have f_3 : True := trivial
  have f_4 : True := trivial
  go_wp2_with (first | (have _f := f_0; refine alloc_sep rfl 35 rfl H1 (z := Ins.zero.val) (cs := Ins.zero.cells) (by kernel_rfl) rfl ?_; intro w2 H2 b2 s2; have z2 : w.heap.size + 3 ≤ w2.heap.size := (by omega); clear s2; clear _f f_0) | (have _f := f_1; refine store_sep rfl 35 (.tmp 6) (.tmp 17) rfl H2 0 rfl rfl rfl (by kernel_rfl) rfl ?_ ?_; rfl; intro w3 H3 k3 s3; have z3 : w.heap.size + 3 ≤ w3.heap.size := (by omega); clear s3; have K3 := Lib.hid (ke2 (K1.out.trans (Ke.below Non b2)) k3 (by omega)); clear _f f_1) | (have _f := f_2; refine load_sep rfl 25 (.tmp 2) rfl H3 3 rfl rfl Try.underlying25 rfl (by kernel_rfl) ?_; clear _f f_2) | (have _f := f_3; refine alloc_sep rfl 25 rfl H3 (z := Cpu.zero.val) (cs := Cpu.zero.cells) (by kernel_rfl) rfl ?_; intro w4 H4 b4 s4; have z4 : w.heap.size + 3 ≤ w4.heap.size := (by omega); clear s4; clear _f f_3) | (have _f := f_4; refine store_sep rfl 25 (.tmp 8) (.tmp 19) rfl H4 0 rfl rfl rfl (by kernel_rfl) rfl ?_ ?_; rfl; intro w5 H5 k5 s5; have z5 : w.heap.size + 3 ≤ w5.heap.size := (by omega); clear s5; have K5 := Lib.hid (ke2 (K3.out.trans (Ke.below Non b4)) k5 (by omega)); have p21 : w5.cell? ⟨w.heap.size, 21, none⟩ = some (.int .u32 c.pc) := cell_of H5 4 rfl 21 rfl; clear _f f_4))
  refine (ref_word (c.pc + 1) _ (by omega)).mono ?_
  rintro e w' ⟨rfl, rfl⟩
  have f_0 : True := trivial
  have f_1 : True := trivial
  go_wp2_with (first | (have _f := f_0; refine store1_sep rfl 22 (.tmp 25) (.tmp 24) rfl H5 0 rfl rfl rfl rfl (by kernel_rfl) ?_ ?_; rfl; intro w6 H6' k6 s6; have z6 : w.heap.size + 3 ≤ w6.heap.size := (by omega); clear s6; have H6 : Sep w6 [(w3.heap.size, c.next.cells, 25), (w1.heap.size, (Ins.mk 4 u v a bb cc op im off cond nn).cells, 35), (w.heap.size + 2, Ev.none.cells, 28), (w.heap.size + 1, Cpu.zero.cells, 25), (w.heap.size, c.cells, 25)] := H6'; have K6 := Lib.hid (ke2 K5.out k6 (by omega)); have f0 : w6.cell? ⟨w1.heap.size, 0, none⟩ = some (.int .i64 4) := cell_of H6 1 rfl 0 rfl; have f9 : w6.cell? ⟨w1.heap.size, 9, none⟩ = some (.int .i64 cond) := cell_of H6 1 rfl 9 rfl; clear _f f_0) | (have _f := f_1; refine load_sep rfl 25 (.tmp 2) rfl H6 4 rfl rfl Try.underlying25 rfl (by kernel_rfl) ?_; clear _f f_1))
  refine (refholds_walk c cond _).mono ?_
  rw [HC.out]
  rintro e w9 ⟨rfl, hb9⟩
  have H9 := H6.bel hb9
  have K9 := Lib.hid (K6.out.trans (Ke.below Non hb9))
  have z9 : w.heap.size + 3 ≤ w9.heap.size := by have := hb9.size; omega
  clear hb9
  have g0 : w9.cell? ⟨w1.heap.size, 0, none⟩ = some (.int .i64 4) := cell_of H9 1 rfl 0 rfl
  have g2 : w9.cell? ⟨w1.heap.size, 2, none⟩ = some (.bool v) := cell_of H9 1 rfl 2 rfl
  have g8 : w9.cell? ⟨w1.heap.size, 8, none⟩ = some (.int .i64 off) := cell_of H9 1 rfl 8 rfl
  have g10 : w9.cell? ⟨w1.heap.size, 10, none⟩ = some (.int .i64 nn) := cell_of H9 1 rfl 10 rfl
  have p22 : w9.cell? ⟨w3.heap.size, 21, none⟩ = some (.int .u32 c.next.pc) := cell_of H9 0 rfl 21 rfl
  have f_0 : True := trivial
  have f_1 : True := trivial
  have f_2 : True := trivial
  go_wp2_with (first | (have _f := f_0; refine load_sep rfl 25 (.tmp 8) rfl H9 0 rfl rfl Try.underlying25 rfl (by kernel_rfl) ?_; clear _f f_0) | (have _f := f_1; refine store_sep rfl 25 (.tmp 4) (.tmp 90) rfl H9 3 rfl rfl rfl (by kernel_rfl) rfl ?_ ?_; rfl; intro w7 H7 k7 s7; have z7 : w.heap.size + 3 ≤ w7.heap.size := (by omega); clear s7; clear _f f_1) | (have _f := f_2; refine store_sep rfl 28 (.tmp 5) (.tmp 91) rfl H7 2 rfl rfl rfl (by kernel_rfl) rfl ?_ ?_; rfl; intro w8 H8 k8 s8; have z8 : w.heap.size + 3 ≤ w8.heap.size := (by omega); clear s8; clear _f f_2))
  refine bodyPost_ret (res_cell_cell rfl rfl (H8.at 3 rfl) Try.underlying25 rfl (by kernel_rfl) rfl (H8.at 2 rfl) Try.underlying28 rfl (by kernel_rfl)) rfl (step_is HE.out rfl ?_)
  exact (ke2 (ke2 K9.out k7 (by omega)) k8 (by omega)).non

set_option maxRecDepth 100000 in
set_option maxHeartbeats 8000000 in
theorem refstep_not5 (c : Cpu) (x : Int) (w : World) (hx : 0 ≤ x ∧ x < 4294967296) (hk : c.Ok) (hg : good (flds x) = true) (hf : (flds x).form = 5) (hc : c.next.cond (flds x).cond = false) : Calls Try.prog 11 #[c.val, .int .u32 x] w (StepIs c x w) := by
  have hbd := flds_bd hx
  have HST : Hid (c.step x = c.next.exec (flds x)) := by unfold Hid Cpu.step; rw [if_pos hg]
  have HM := Lib.hid (ins_ok_of hx hg)
  have HX := Lib.hid hx
  have HG := Lib.hid hg
  obtain ⟨i, hi⟩ : ∃ i, i = flds x := ⟨_, rfl⟩
  have HI := Lib.hid hi
  rw [← hi] at hbd hf HST HM
  have hkn := ok_next hk
  clear hx hg hi
  rw [← HI.out] at hc
  have hc2 : c.cond i.cond = false := hc
  have HC := Lib.hid hc2
  have HE : Hid (c.step x = (c.next, Ev.none)) := by unfold Hid; rw [HST.out]; unfold Cpu.exec; rw [if_neg (by omega), if_neg (by omega), if_neg (by omega), if_pos hc]
  clear hc hc2 HST hbd
  obtain ⟨form, u, v, a, bb, cc, op, im, off, cond, nn⟩ := i
  simp only at hf
  subst hf
  have H0 := (Sep.nil w).alloc3 c.cells Cpu.zero.cells Ev.none.cells 25 25 28
  have K0 := Lib.hid (Ke.below Non (bel3 w (.cells c.cells 25) (.cells Cpu.zero.cells 25) (.cells Ev.none.cells 28)))
  have pc0 : 0 ≤ c.pc := hk.pc.1
  have pc1 : c.pc < 4294967296 := hk.pc.2
  go_enter Try.func11, Try.ntmps11
  go_wp2_with fail
  refine (refof_walk x _ HX.out).mono ?_
  rintro e w1 ⟨he, hb1⟩
  rw [HG.out, if_pos rfl, ← HI.out] at he
  subst he
  have H1 := H0.bel hb1
  have K1 := Lib.hid (K0.out.trans (Ke.below Non hb1))
  have z1 : w.heap.size + 3 ≤ w1.heap.size := by have := hb1.size; simp at this; omega
  clear hb1 H0
  have f_0 : True := trivial
  have f_1 : True := trivial
  have f_2 : True := trivial
  have f_3 : True := trivial
  have f_4 : True := trivial
  go_wp2_with (first | (have _f := f_0; refine alloc_sep rfl 35 rfl H1 (z := Ins.zero.val) (cs := Ins.zero.cells) (by kernel_rfl) rfl ?_; intro w2 H2 b2 s2; have z2 : w.heap.size + 3 ≤ w2.heap.size := (by omega); clear s2; clear _f f_0) | (have _f := f_1; refine store_sep rfl 35 (.tmp 6) (.tmp 17) rfl H2 0 rfl rfl rfl (by kernel_rfl) rfl ?_ ?_; rfl; intro w3 H3 k3 s3; have z3 : w.heap.size + 3 ≤ w3.heap.size := (by omega); clear s3; have K3 := Lib.hid (ke2 (K1.out.trans (Ke.below Non b2)) k3 (by omega)); clear _f f_1) | (have _f := f_2; refine load_sep rfl 25 (.tmp 2) rfl H3 3 rfl rfl Try.underlying25 rfl (by kernel_rfl) ?_; clear _f f_2) | (have _f := f_3; refine alloc_sep rfl 25 rfl H3 (z := Cpu.zero.val) (cs := Cpu.zero.cells) (by kernel_rfl) rfl ?_; intro w4 H4 b4 s4; have z4 : w.heap.size + 3 ≤ w4.heap.size := (by omega); clear s4; clear _f f_3) | (have _f := f_4; refine store_sep rfl 25 (.tmp 8) (.tmp 19) rfl H4 0 rfl rfl rfl (by kernel_rfl) rfl ?_ ?_; rfl; intro w5 H5 k5 s5; have z5 : w.heap.size + 3 ≤ w5.heap.size := (by omega); clear s5; have K5 := Lib.hid (ke2 (K3.out.trans (Ke.below Non b4)) k5 (by omega)); have p21 : w5.cell? ⟨w.heap.size, 21, none⟩ = some (.int .u32 c.pc) := cell_of H5 4 rfl 21 rfl; clear _f f_4))
  refine (ref_word (c.pc + 1) _ (by omega)).mono ?_
  rintro e w' ⟨rfl, rfl⟩
  have f_0 : True := trivial
  have f_1 : True := trivial
  go_wp2_with (first | (have _f := f_0; refine store1_sep rfl 22 (.tmp 25) (.tmp 24) rfl H5 0 rfl rfl rfl rfl (by kernel_rfl) ?_ ?_; rfl; intro w6 H6' k6 s6; have z6 : w.heap.size + 3 ≤ w6.heap.size := (by omega); clear s6; have H6 : Sep w6 [(w3.heap.size, c.next.cells, 25), (w1.heap.size, (Ins.mk 5 u v a bb cc op im off cond nn).cells, 35), (w.heap.size + 2, Ev.none.cells, 28), (w.heap.size + 1, Cpu.zero.cells, 25), (w.heap.size, c.cells, 25)] := H6'; have K6 := Lib.hid (ke2 K5.out k6 (by omega)); have f0 : w6.cell? ⟨w1.heap.size, 0, none⟩ = some (.int .i64 5) := cell_of H6 1 rfl 0 rfl; have f9 : w6.cell? ⟨w1.heap.size, 9, none⟩ = some (.int .i64 cond) := cell_of H6 1 rfl 9 rfl; clear _f f_0) | (have _f := f_1; refine load_sep rfl 25 (.tmp 2) rfl H6 4 rfl rfl Try.underlying25 rfl (by kernel_rfl) ?_; clear _f f_1))
  refine (refholds_walk c cond _).mono ?_
  rw [HC.out]
  rintro e w9 ⟨rfl, hb9⟩
  have H9 := H6.bel hb9
  have K9 := Lib.hid (K6.out.trans (Ke.below Non hb9))
  have z9 : w.heap.size + 3 ≤ w9.heap.size := by have := hb9.size; omega
  clear hb9
  have g0 : w9.cell? ⟨w1.heap.size, 0, none⟩ = some (.int .i64 5) := cell_of H9 1 rfl 0 rfl
  have g2 : w9.cell? ⟨w1.heap.size, 2, none⟩ = some (.bool v) := cell_of H9 1 rfl 2 rfl
  have g8 : w9.cell? ⟨w1.heap.size, 8, none⟩ = some (.int .i64 off) := cell_of H9 1 rfl 8 rfl
  have g10 : w9.cell? ⟨w1.heap.size, 10, none⟩ = some (.int .i64 nn) := cell_of H9 1 rfl 10 rfl
  have p22 : w9.cell? ⟨w3.heap.size, 21, none⟩ = some (.int .u32 c.next.pc) := cell_of H9 0 rfl 21 rfl
  have f_0 : True := trivial
  have f_1 : True := trivial
  have f_2 : True := trivial
  go_wp2_with (first | (have _f := f_0; refine load_sep rfl 25 (.tmp 8) rfl H9 0 rfl rfl Try.underlying25 rfl (by kernel_rfl) ?_; clear _f f_0) | (have _f := f_1; refine store_sep rfl 25 (.tmp 4) (.tmp 90) rfl H9 3 rfl rfl rfl (by kernel_rfl) rfl ?_ ?_; rfl; intro w7 H7 k7 s7; have z7 : w.heap.size + 3 ≤ w7.heap.size := (by omega); clear s7; clear _f f_1) | (have _f := f_2; refine store_sep rfl 28 (.tmp 5) (.tmp 91) rfl H7 2 rfl rfl rfl (by kernel_rfl) rfl ?_ ?_; rfl; intro w8 H8 k8 s8; have z8 : w.heap.size + 3 ≤ w8.heap.size := (by omega); clear s8; clear _f f_2))
  refine bodyPost_ret (res_cell_cell rfl rfl (H8.at 3 rfl) Try.underlying25 rfl (by kernel_rfl) rfl (H8.at 2 rfl) Try.underlying28 rfl (by kernel_rfl)) rfl (step_is HE.out rfl ?_)
  exact (ke2 (ke2 K9.out k7 (by omega)) k8 (by omega)).non

set_option maxRecDepth 100000 in
set_option maxHeartbeats 8000000 in
theorem refstep_not6 (c : Cpu) (x : Int) (w : World) (hx : 0 ≤ x ∧ x < 4294967296) (hk : c.Ok) (hg : good (flds x) = true) (hf : (flds x).form = 6) (hc : c.next.cond (flds x).cond = false) : Calls Try.prog 11 #[c.val, .int .u32 x] w (StepIs c x w) := by
  have hbd := flds_bd hx
  have HST : Hid (c.step x = c.next.exec (flds x)) := by unfold Hid Cpu.step; rw [if_pos hg]
  have HM := Lib.hid (ins_ok_of hx hg)
  have HX := Lib.hid hx
  have HG := Lib.hid hg
  obtain ⟨i, hi⟩ : ∃ i, i = flds x := ⟨_, rfl⟩
  have HI := Lib.hid hi
  rw [← hi] at hbd hf HST HM
  have hkn := ok_next hk
  clear hx hg hi
  rw [← HI.out] at hc
  have hc2 : c.cond i.cond = false := hc
  have HC := Lib.hid hc2
  have HE : Hid (c.step x = (c.next, Ev.none)) := by unfold Hid; rw [HST.out]; unfold Cpu.exec; rw [if_neg (by omega), if_neg (by omega), if_neg (by omega), if_pos hc]
  clear hc hc2 HST hbd
  obtain ⟨form, u, v, a, bb, cc, op, im, off, cond, nn⟩ := i
  simp only at hf
  subst hf
  have H0 := (Sep.nil w).alloc3 c.cells Cpu.zero.cells Ev.none.cells 25 25 28
  have K0 := Lib.hid (Ke.below Non (bel3 w (.cells c.cells 25) (.cells Cpu.zero.cells 25) (.cells Ev.none.cells 28)))
  have pc0 : 0 ≤ c.pc := hk.pc.1
  have pc1 : c.pc < 4294967296 := hk.pc.2
  go_enter Try.func11, Try.ntmps11
  go_wp2_with fail
  refine (refof_walk x _ HX.out).mono ?_
  rintro e w1 ⟨he, hb1⟩
  rw [HG.out, if_pos rfl, ← HI.out] at he
  subst he
  have H1 := H0.bel hb1
  have K1 := Lib.hid (K0.out.trans (Ke.below Non hb1))
  have z1 : w.heap.size + 3 ≤ w1.heap.size := by have := hb1.size; simp at this; omega
  clear hb1 H0
  have f_0 : True := trivial
  have f_1 : True := trivial
  have f_2 : True := trivial
  have f_3 : True := trivial
  have f_4 : True := trivial
  go_wp2_with (first | (have _f := f_0; refine alloc_sep rfl 35 rfl H1 (z := Ins.zero.val) (cs := Ins.zero.cells) (by kernel_rfl) rfl ?_; intro w2 H2 b2 s2; have z2 : w.heap.size + 3 ≤ w2.heap.size := (by omega); clear s2; clear _f f_0) | (have _f := f_1; refine store_sep rfl 35 (.tmp 6) (.tmp 17) rfl H2 0 rfl rfl rfl (by kernel_rfl) rfl ?_ ?_; rfl; intro w3 H3 k3 s3; have z3 : w.heap.size + 3 ≤ w3.heap.size := (by omega); clear s3; have K3 := Lib.hid (ke2 (K1.out.trans (Ke.below Non b2)) k3 (by omega)); clear _f f_1) | (have _f := f_2; refine load_sep rfl 25 (.tmp 2) rfl H3 3 rfl rfl Try.underlying25 rfl (by kernel_rfl) ?_; clear _f f_2) | (have _f := f_3; refine alloc_sep rfl 25 rfl H3 (z := Cpu.zero.val) (cs := Cpu.zero.cells) (by kernel_rfl) rfl ?_; intro w4 H4 b4 s4; have z4 : w.heap.size + 3 ≤ w4.heap.size := (by omega); clear s4; clear _f f_3) | (have _f := f_4; refine store_sep rfl 25 (.tmp 8) (.tmp 19) rfl H4 0 rfl rfl rfl (by kernel_rfl) rfl ?_ ?_; rfl; intro w5 H5 k5 s5; have z5 : w.heap.size + 3 ≤ w5.heap.size := (by omega); clear s5; have K5 := Lib.hid (ke2 (K3.out.trans (Ke.below Non b4)) k5 (by omega)); have p21 : w5.cell? ⟨w.heap.size, 21, none⟩ = some (.int .u32 c.pc) := cell_of H5 4 rfl 21 rfl; clear _f f_4))
  refine (ref_word (c.pc + 1) _ (by omega)).mono ?_
  rintro e w' ⟨rfl, rfl⟩
  have f_0 : True := trivial
  have f_1 : True := trivial
  go_wp2_with (first | (have _f := f_0; refine store1_sep rfl 22 (.tmp 25) (.tmp 24) rfl H5 0 rfl rfl rfl rfl (by kernel_rfl) ?_ ?_; rfl; intro w6 H6' k6 s6; have z6 : w.heap.size + 3 ≤ w6.heap.size := (by omega); clear s6; have H6 : Sep w6 [(w3.heap.size, c.next.cells, 25), (w1.heap.size, (Ins.mk 6 u v a bb cc op im off cond nn).cells, 35), (w.heap.size + 2, Ev.none.cells, 28), (w.heap.size + 1, Cpu.zero.cells, 25), (w.heap.size, c.cells, 25)] := H6'; have K6 := Lib.hid (ke2 K5.out k6 (by omega)); have f0 : w6.cell? ⟨w1.heap.size, 0, none⟩ = some (.int .i64 6) := cell_of H6 1 rfl 0 rfl; have f9 : w6.cell? ⟨w1.heap.size, 9, none⟩ = some (.int .i64 cond) := cell_of H6 1 rfl 9 rfl; clear _f f_0) | (have _f := f_1; refine load_sep rfl 25 (.tmp 2) rfl H6 4 rfl rfl Try.underlying25 rfl (by kernel_rfl) ?_; clear _f f_1))
  refine (refholds_walk c cond _).mono ?_
  rw [HC.out]
  rintro e w9 ⟨rfl, hb9⟩
  have H9 := H6.bel hb9
  have K9 := Lib.hid (K6.out.trans (Ke.below Non hb9))
  have z9 : w.heap.size + 3 ≤ w9.heap.size := by have := hb9.size; omega
  clear hb9
  have g0 : w9.cell? ⟨w1.heap.size, 0, none⟩ = some (.int .i64 6) := cell_of H9 1 rfl 0 rfl
  have g2 : w9.cell? ⟨w1.heap.size, 2, none⟩ = some (.bool v) := cell_of H9 1 rfl 2 rfl
  have g8 : w9.cell? ⟨w1.heap.size, 8, none⟩ = some (.int .i64 off) := cell_of H9 1 rfl 8 rfl
  have g10 : w9.cell? ⟨w1.heap.size, 10, none⟩ = some (.int .i64 nn) := cell_of H9 1 rfl 10 rfl
  have p22 : w9.cell? ⟨w3.heap.size, 21, none⟩ = some (.int .u32 c.next.pc) := cell_of H9 0 rfl 21 rfl
  have f_0 : True := trivial
  have f_1 : True := trivial
  have f_2 : True := trivial
  go_wp2_with (first | (have _f := f_0; refine load_sep rfl 25 (.tmp 8) rfl H9 0 rfl rfl Try.underlying25 rfl (by kernel_rfl) ?_; clear _f f_0) | (have _f := f_1; refine store_sep rfl 25 (.tmp 4) (.tmp 90) rfl H9 3 rfl rfl rfl (by kernel_rfl) rfl ?_ ?_; rfl; intro w7 H7 k7 s7; have z7 : w.heap.size + 3 ≤ w7.heap.size := (by omega); clear s7; clear _f f_1) | (have _f := f_2; refine store_sep rfl 28 (.tmp 5) (.tmp 91) rfl H7 2 rfl rfl rfl (by kernel_rfl) rfl ?_ ?_; rfl; intro w8 H8 k8 s8; have z8 : w.heap.size + 3 ≤ w8.heap.size := (by omega); clear s8; clear _f f_2))
  refine bodyPost_ret (res_cell_cell rfl rfl (H8.at 3 rfl) Try.underlying25 rfl (by kernel_rfl) rfl (H8.at 2 rfl) Try.underlying28 rfl (by kernel_rfl)) rfl (step_is HE.out rfl ?_)
  exact (ke2 (ke2 K9.out k7 (by omega)) k8 (by omega)).non

set_option maxRecDepth 100000 in
set_option maxHeartbeats 8000000 in
theorem refstep_trap (c : Cpu) (x : Int) (w : World) (hx : 0 ≤ x ∧ x < 4294967296) (hk : c.Ok) (hg : good (flds x) = true) (hf : (flds x).form = 6) (hc : c.next.cond (flds x).cond = true) (hn : (flds x).n < 16) : Calls Try.prog 11 #[c.val, .int .u32 x] w (StepIs c x w) := by
  have hbd := flds_bd hx
  have HST : Hid (c.step x = c.next.exec (flds x)) := by unfold Hid Cpu.step; rw [if_pos hg]
  have HM := Lib.hid (ins_ok_of hx hg)
  have HX := Lib.hid hx
  have HG := Lib.hid hg
  obtain ⟨i, hi⟩ : ∃ i, i = flds x := ⟨_, rfl⟩
  have HI := Lib.hid hi
  rw [← hi] at hbd hf hn HST HM
  have hkn := ok_next hk
  clear hx hg hi
  rw [← HI.out] at hc
  have hc2 : c.cond i.cond = true := hc
  have HC := Lib.hid hc2
  have HE : Hid (c.step x = (c.next, ⟨3, 0, false, 0, 0, i.n⟩)) := by unfold Hid; rw [HST.out]; unfold Cpu.exec; rw [if_neg (by omega), if_neg (by omega), if_neg (by omega), if_neg (by rw [hc]; simp), if_pos hf, if_neg (by omega)]
  clear hc hc2 HST hbd
  obtain ⟨form, u, v, a, bb, cc, op, im, off, cond, nn⟩ := i
  simp only at hf hn
  subst hf
  have H0 := (Sep.nil w).alloc3 c.cells Cpu.zero.cells Ev.none.cells 25 25 28
  have K0 := Lib.hid (Ke.below Non (bel3 w (.cells c.cells 25) (.cells Cpu.zero.cells 25) (.cells Ev.none.cells 28)))
  have pc0 : 0 ≤ c.pc := hk.pc.1
  have pc1 : c.pc < 4294967296 := hk.pc.2
  go_enter Try.func11, Try.ntmps11
  go_wp2_with fail
  refine (refof_walk x _ HX.out).mono ?_
  rintro e w1 ⟨he, hb1⟩
  rw [HG.out, if_pos rfl, ← HI.out] at he
  subst he
  have H1 := H0.bel hb1
  have K1 := Lib.hid (K0.out.trans (Ke.below Non hb1))
  have z1 : w.heap.size + 3 ≤ w1.heap.size := by have := hb1.size; simp at this; omega
  clear hb1 H0
  have f_0 : True := trivial
  have f_1 : True := trivial
  have f_2 : True := trivial
  have f_3 : True := trivial
  have f_4 : True := trivial
  go_wp2_with (first | (have _f := f_0; refine alloc_sep rfl 35 rfl H1 (z := Ins.zero.val) (cs := Ins.zero.cells) (by kernel_rfl) rfl ?_; intro w2 H2 b2 s2; have z2 : w.heap.size + 3 ≤ w2.heap.size := (by omega); clear s2; clear _f f_0) | (have _f := f_1; refine store_sep rfl 35 (.tmp 6) (.tmp 17) rfl H2 0 rfl rfl rfl (by kernel_rfl) rfl ?_ ?_; rfl; intro w3 H3 k3 s3; have z3 : w.heap.size + 3 ≤ w3.heap.size := (by omega); clear s3; have K3 := Lib.hid (ke2 (K1.out.trans (Ke.below Non b2)) k3 (by omega)); clear _f f_1) | (have _f := f_2; refine load_sep rfl 25 (.tmp 2) rfl H3 3 rfl rfl Try.underlying25 rfl (by kernel_rfl) ?_; clear _f f_2) | (have _f := f_3; refine alloc_sep rfl 25 rfl H3 (z := Cpu.zero.val) (cs := Cpu.zero.cells) (by kernel_rfl) rfl ?_; intro w4 H4 b4 s4; have z4 : w.heap.size + 3 ≤ w4.heap.size := (by omega); clear s4; clear _f f_3) | (have _f := f_4; refine store_sep rfl 25 (.tmp 8) (.tmp 19) rfl H4 0 rfl rfl rfl (by kernel_rfl) rfl ?_ ?_; rfl; intro w5 H5 k5 s5; have z5 : w.heap.size + 3 ≤ w5.heap.size := (by omega); clear s5; have K5 := Lib.hid (ke2 (K3.out.trans (Ke.below Non b4)) k5 (by omega)); have p21 : w5.cell? ⟨w.heap.size, 21, none⟩ = some (.int .u32 c.pc) := cell_of H5 4 rfl 21 rfl; clear _f f_4))
  refine (ref_word (c.pc + 1) _ (by omega)).mono ?_
  rintro e w' ⟨rfl, rfl⟩
  have f_0 : True := trivial
  have f_1 : True := trivial
  go_wp2_with (first | (have _f := f_0; refine store1_sep rfl 22 (.tmp 25) (.tmp 24) rfl H5 0 rfl rfl rfl rfl (by kernel_rfl) ?_ ?_; rfl; intro w6 H6' k6 s6; have z6 : w.heap.size + 3 ≤ w6.heap.size := (by omega); clear s6; have H6 : Sep w6 [(w3.heap.size, c.next.cells, 25), (w1.heap.size, (Ins.mk 6 u v a bb cc op im off cond nn).cells, 35), (w.heap.size + 2, Ev.none.cells, 28), (w.heap.size + 1, Cpu.zero.cells, 25), (w.heap.size, c.cells, 25)] := H6'; have K6 := Lib.hid (ke2 K5.out k6 (by omega)); have f0 : w6.cell? ⟨w1.heap.size, 0, none⟩ = some (.int .i64 6) := cell_of H6 1 rfl 0 rfl; have f9 : w6.cell? ⟨w1.heap.size, 9, none⟩ = some (.int .i64 cond) := cell_of H6 1 rfl 9 rfl; clear _f f_0) | (have _f := f_1; refine load_sep rfl 25 (.tmp 2) rfl H6 4 rfl rfl Try.underlying25 rfl (by kernel_rfl) ?_; clear _f f_1))
  refine (refholds_walk c cond _).mono ?_
  rw [HC.out]
  rintro e w9 ⟨rfl, hb9⟩
  have H9 := H6.bel hb9
  have K9 := Lib.hid (K6.out.trans (Ke.below Non hb9))
  have z9 : w.heap.size + 3 ≤ w9.heap.size := by have := hb9.size; omega
  clear hb9
  have g0 : w9.cell? ⟨w1.heap.size, 0, none⟩ = some (.int .i64 6) := cell_of H9 1 rfl 0 rfl
  have g2 : w9.cell? ⟨w1.heap.size, 2, none⟩ = some (.bool v) := cell_of H9 1 rfl 2 rfl
  have g8 : w9.cell? ⟨w1.heap.size, 8, none⟩ = some (.int .i64 off) := cell_of H9 1 rfl 8 rfl
  have g10 : w9.cell? ⟨w1.heap.size, 10, none⟩ = some (.int .i64 nn) := cell_of H9 1 rfl 10 rfl
  have p22 : w9.cell? ⟨w3.heap.size, 21, none⟩ = some (.int .u32 c.next.pc) := cell_of H9 0 rfl 21 rfl
  go_wp2_with fail
  refine wp_region_mixK (fun k => k = w.heap.size + 1 ∨ k = w.heap.size + 2) [([1, 2, 3, 0], 4), ([], 5)] [] (by kernel_rfl) (by kernel_rfl) (fun _ _ d _ _ h => by cases d <;> exact h) ?_
  intro w12 hb12
  have H12 := H9.bel hb12
  have K12 := Lib.hid (K9.out.trans (Ke.below Non hb12))
  have z12 : w.heap.size + 3 ≤ w12.heap.size := by have := hb12.size; omega
  clear hb12
  have n3 : ¬ (w3.heap.size = w.heap.size + 1 ∨ w3.heap.size = w.heap.size + 2) := by omega
  have n0 : ¬ (w1.heap.size = w.heap.size + 1 ∨ w1.heap.size = w.heap.size + 2) := by omega
  have q1 := fun x => ((H12.at 0 rfl).later (G := (fun k => k = w.heap.size + 1 ∨ k = w.heap.size + 2)) n3 x).loads (P := Try.prog) Try.underlying25 rfl (by kernel_rfl)
  have q2 := (H12.at 1 rfl).laterCell (G := (fun k => k = w.heap.size + 1 ∨ k = w.heap.size + 2)) n0 10 (v := .int .i64 nn) rfl
  refine mixK_step ?_
  simp only [pickOps, nth]
  (repeat (go_big_quiet_step (fail)))
  go_big_quiet_want
  refine quiet_row 25 (.tmp 8) rfl rfl q1 ?_
  go_big_quiet_on
  refine wpQuiet_nil ?_
  go_wp2_with (refine store_sep rfl 25 (.tmp 4) (.tmp 100) rfl H12 3 rfl rfl rfl (by kernel_rfl) rfl ?_ ?_; rfl; intro w7 H7 k7 s7; have z7 : w.heap.size + 3 ≤ w7.heap.size := (by omega); clear s7)
  refine ⟨k7.mono (fun i hi hh => Or.inl hh), mixK_step ?_⟩
  simp only [pickOps, nth]
  refine wpQuiet_nil ?_
  go_wp2_with (refine store_sep rfl 28 (.tmp 5) (.tmp 103) rfl H7 2 rfl rfl rfl (by kernel_rfl) rfl ?_ ?_; rfl; intro w8 H8 k8 s8; have z8 : w.heap.size + 3 ≤ w8.heap.size := (by omega); clear s8)
  refine ⟨k8.mono (fun i hi hh => Or.inr hh), mixK_end ?_⟩
  simp only [pickOps, nth]
  refine wpQuiet_nil ?_
  go_wp2_with fail
  refine bodyPost_ret (res_cell_cell rfl rfl (H8.at 3 rfl) Try.underlying25 rfl (by kernel_rfl) rfl (H8.at 2 rfl) Try.underlying28 rfl (by kernel_rfl)) rfl (step_is HE.out rfl ?_)
  exact (ke2 (ke2 K12.out k7 (by omega)) k8 (by omega)).non

set_option maxRecDepth 100000 in
set_option maxHeartbeats 8000000 in
theorem refstep_call (c : Cpu) (x : Int) (w : World) (hx : 0 ≤ x ∧ x < 4294967296) (hk : c.Ok) (hg : good (flds x) = true) (hf : (flds x).form = 6) (hc : c.next.cond (flds x).cond = true) (hn : 16 ≤ (flds x).n) : Calls Try.prog 11 #[c.val, .int .u32 x] w (StepIs c x w) := by
  have hbd := flds_bd hx
  have HST : Hid (c.step x = c.next.exec (flds x)) := by unfold Hid Cpu.step; rw [if_pos hg]
  have HM := Lib.hid (ins_ok_of hx hg)
  have HX := Lib.hid hx
  have HG := Lib.hid hg
  obtain ⟨i, hi⟩ : ∃ i, i = flds x := ⟨_, rfl⟩
  have HI := Lib.hid hi
  rw [← hi] at hbd hf hn HST HM
  have hkn := ok_next hk
  clear hx hg hi
  rw [← HI.out] at hc
  have hc2 : c.cond i.cond = true := hc
  have HC := Lib.hid hc2
  have HE : Hid (c.step x = (c.next, ⟨4, 0, false, 0, 0, i.n⟩)) := by unfold Hid; rw [HST.out]; unfold Cpu.exec; rw [if_neg (by omega), if_neg (by omega), if_neg (by omega), if_neg (by rw [hc]; simp), if_pos hf, if_pos hn]
  clear hc hc2 HST hbd
  obtain ⟨form, u, v, a, bb, cc, op, im, off, cond, nn⟩ := i
  simp only at hf hn
  subst hf
  have H0 := (Sep.nil w).alloc3 c.cells Cpu.zero.cells Ev.none.cells 25 25 28
  have K0 := Lib.hid (Ke.below Non (bel3 w (.cells c.cells 25) (.cells Cpu.zero.cells 25) (.cells Ev.none.cells 28)))
  have pc0 : 0 ≤ c.pc := hk.pc.1
  have pc1 : c.pc < 4294967296 := hk.pc.2
  go_enter Try.func11, Try.ntmps11
  go_wp2_with fail
  refine (refof_walk x _ HX.out).mono ?_
  rintro e w1 ⟨he, hb1⟩
  rw [HG.out, if_pos rfl, ← HI.out] at he
  subst he
  have H1 := H0.bel hb1
  have K1 := Lib.hid (K0.out.trans (Ke.below Non hb1))
  have z1 : w.heap.size + 3 ≤ w1.heap.size := by have := hb1.size; simp at this; omega
  clear hb1 H0
  have f_0 : True := trivial
  have f_1 : True := trivial
  have f_2 : True := trivial
  have f_3 : True := trivial
  have f_4 : True := trivial
  go_wp2_with (first | (have _f := f_0; refine alloc_sep rfl 35 rfl H1 (z := Ins.zero.val) (cs := Ins.zero.cells) (by kernel_rfl) rfl ?_; intro w2 H2 b2 s2; have z2 : w.heap.size + 3 ≤ w2.heap.size := (by omega); clear s2; clear _f f_0) | (have _f := f_1; refine store_sep rfl 35 (.tmp 6) (.tmp 17) rfl H2 0 rfl rfl rfl (by kernel_rfl) rfl ?_ ?_; rfl; intro w3 H3 k3 s3; have z3 : w.heap.size + 3 ≤ w3.heap.size := (by omega); clear s3; have K3 := Lib.hid (ke2 (K1.out.trans (Ke.below Non b2)) k3 (by omega)); clear _f f_1) | (have _f := f_2; refine load_sep rfl 25 (.tmp 2) rfl H3 3 rfl rfl Try.underlying25 rfl (by kernel_rfl) ?_; clear _f f_2) | (have _f := f_3; refine alloc_sep rfl 25 rfl H3 (z := Cpu.zero.val) (cs := Cpu.zero.cells) (by kernel_rfl) rfl ?_; intro w4 H4 b4 s4; have z4 : w.heap.size + 3 ≤ w4.heap.size := (by omega); clear s4; clear _f f_3) | (have _f := f_4; refine store_sep rfl 25 (.tmp 8) (.tmp 19) rfl H4 0 rfl rfl rfl (by kernel_rfl) rfl ?_ ?_; rfl; intro w5 H5 k5 s5; have z5 : w.heap.size + 3 ≤ w5.heap.size := (by omega); clear s5; have K5 := Lib.hid (ke2 (K3.out.trans (Ke.below Non b4)) k5 (by omega)); have p21 : w5.cell? ⟨w.heap.size, 21, none⟩ = some (.int .u32 c.pc) := cell_of H5 4 rfl 21 rfl; clear _f f_4))
  refine (ref_word (c.pc + 1) _ (by omega)).mono ?_
  rintro e w' ⟨rfl, rfl⟩
  have f_0 : True := trivial
  have f_1 : True := trivial
  go_wp2_with (first | (have _f := f_0; refine store1_sep rfl 22 (.tmp 25) (.tmp 24) rfl H5 0 rfl rfl rfl rfl (by kernel_rfl) ?_ ?_; rfl; intro w6 H6' k6 s6; have z6 : w.heap.size + 3 ≤ w6.heap.size := (by omega); clear s6; have H6 : Sep w6 [(w3.heap.size, c.next.cells, 25), (w1.heap.size, (Ins.mk 6 u v a bb cc op im off cond nn).cells, 35), (w.heap.size + 2, Ev.none.cells, 28), (w.heap.size + 1, Cpu.zero.cells, 25), (w.heap.size, c.cells, 25)] := H6'; have K6 := Lib.hid (ke2 K5.out k6 (by omega)); have f0 : w6.cell? ⟨w1.heap.size, 0, none⟩ = some (.int .i64 6) := cell_of H6 1 rfl 0 rfl; have f9 : w6.cell? ⟨w1.heap.size, 9, none⟩ = some (.int .i64 cond) := cell_of H6 1 rfl 9 rfl; clear _f f_0) | (have _f := f_1; refine load_sep rfl 25 (.tmp 2) rfl H6 4 rfl rfl Try.underlying25 rfl (by kernel_rfl) ?_; clear _f f_1))
  refine (refholds_walk c cond _).mono ?_
  rw [HC.out]
  rintro e w9 ⟨rfl, hb9⟩
  have H9 := H6.bel hb9
  have K9 := Lib.hid (K6.out.trans (Ke.below Non hb9))
  have z9 : w.heap.size + 3 ≤ w9.heap.size := by have := hb9.size; omega
  clear hb9
  have g0 : w9.cell? ⟨w1.heap.size, 0, none⟩ = some (.int .i64 6) := cell_of H9 1 rfl 0 rfl
  have g2 : w9.cell? ⟨w1.heap.size, 2, none⟩ = some (.bool v) := cell_of H9 1 rfl 2 rfl
  have g8 : w9.cell? ⟨w1.heap.size, 8, none⟩ = some (.int .i64 off) := cell_of H9 1 rfl 8 rfl
  have g10 : w9.cell? ⟨w1.heap.size, 10, none⟩ = some (.int .i64 nn) := cell_of H9 1 rfl 10 rfl
  have p22 : w9.cell? ⟨w3.heap.size, 21, none⟩ = some (.int .u32 c.next.pc) := cell_of H9 0 rfl 21 rfl
  go_wp2_with fail
  refine wp_region_mixK (fun k => k = w.heap.size + 1 ∨ k = w.heap.size + 2) [([1, 2, 3, 0], 4), ([], 5)] [] (by kernel_rfl) (by kernel_rfl) (fun _ _ d _ _ h => by cases d <;> exact h) ?_
  intro w12 hb12
  have H12 := H9.bel hb12
  have K12 := Lib.hid (K9.out.trans (Ke.below Non hb12))
  have z12 : w.heap.size + 3 ≤ w12.heap.size := by have := hb12.size; omega
  clear hb12
  have n3 : ¬ (w3.heap.size = w.heap.size + 1 ∨ w3.heap.size = w.heap.size + 2) := by omega
  have n0 : ¬ (w1.heap.size = w.heap.size + 1 ∨ w1.heap.size = w.heap.size + 2) := by omega
  have q1 := fun x => ((H12.at 0 rfl).later (G := (fun k => k = w.heap.size + 1 ∨ k = w.heap.size + 2)) n3 x).loads (P := Try.prog) Try.underlying25 rfl (by kernel_rfl)
  have q2 := (H12.at 1 rfl).laterCell (G := (fun k => k = w.heap.size + 1 ∨ k = w.heap.size + 2)) n0 10 (v := .int .i64 nn) rfl
  refine mixK_step ?_
  simp only [pickOps, nth]
  (repeat (go_big_quiet_step (fail)))
  go_big_quiet_want
  refine quiet_row 25 (.tmp 8) rfl rfl q1 ?_
  go_big_quiet_on
  refine wpQuiet_nil ?_
  go_wp2_with (refine store_sep rfl 25 (.tmp 4) (.tmp 107) rfl H12 3 rfl rfl rfl (by kernel_rfl) rfl ?_ ?_; rfl; intro w7 H7 k7 s7; have z7 : w.heap.size + 3 ≤ w7.heap.size := (by omega); clear s7)
  refine ⟨k7.mono (fun i hi hh => Or.inl hh), mixK_step ?_⟩
  simp only [pickOps, nth]
  refine wpQuiet_nil ?_
  go_wp2_with (refine store_sep rfl 28 (.tmp 5) (.tmp 110) rfl H7 2 rfl rfl rfl (by kernel_rfl) rfl ?_ ?_; rfl; intro w8 H8 k8 s8; have z8 : w.heap.size + 3 ≤ w8.heap.size := (by omega); clear s8)
  refine ⟨k8.mono (fun i hi hh => Or.inr hh), mixK_end ?_⟩
  simp only [pickOps, nth]
  refine wpQuiet_nil ?_
  go_wp2_with fail
  refine bodyPost_ret (res_cell_cell rfl rfl (H8.at 3 rfl) Try.underlying25 rfl (by kernel_rfl) rfl (H8.at 2 rfl) Try.underlying28 rfl (by kernel_rfl)) rfl (step_is HE.out rfl ?_)
  exact (ke2 (ke2 K12.out k7 (by omega)) k8 (by omega)).non

set_option maxRecDepth 100000 in
set_option maxHeartbeats 8000000 in
theorem refstep_jump_false (c : Cpu) (x : Int) (w : World) (hx : 0 ≤ x ∧ x < 4294967296) (hk : c.Ok) (hg : good (flds x) = true) (hf : (flds x).form = 4) (hc : c.next.cond (flds x).cond = true) (hv : (flds x).v = false) : Calls Try.prog 11 #[c.val, .int .u32 x] w (StepIs c x w) := by
  have hbd := flds_bd hx
  have HST : Hid (c.step x = c.next.exec (flds x)) := by unfold Hid Cpu.step; rw [if_pos hg]
  have HM := Lib.hid (ins_ok_of hx hg)
  have HX := Lib.hid hx
  have HG := Lib.hid hg
  obtain ⟨i, hi⟩ : ∃ i, i = flds x := ⟨_, rfl⟩
  have HI := Lib.hid hi
  rw [← hi] at hbd hf hv HST HM
  have hkn := ok_next hk
  clear hx hg hi
  rw [← HI.out] at hc
  have hc2 : c.cond i.cond = true := hc
  have HC := Lib.hid hc2
  have hof : -2147483648 ≤ i.off ∧ i.off < 2147483648 := hbd.2.2.2.2.2.2.2.2
  have hcc : 0 ≤ i.c := hbd.2.2.2.1
  have hcc2 : i.c ≤ 15 := HM.out.c.2
  have HE0 : Hid (c.step x = (c.next.jump i.v (if i.form = 5 then c.next.r i.c.toNat / 4 else (c.next.pc + i.off) % 4294967296), Ev.none)) := by unfold Hid; rw [HST.out]; unfold Cpu.exec; rw [if_neg (by omega), if_neg (by omega), if_neg (by omega), if_neg (by rw [hc]; simp), if_neg (by omega)]
  clear hc hc2 HST hbd
  obtain ⟨form, u, v, a, bb, cc, op, im, off, cond, nn⟩ := i
  simp only at hf hv hof hcc hcc2
  subst hf hv
  have ho1 := hof.1
  have ho2 := hof.2
  obtain ⟨pn, hpn⟩ : ∃ pn, pn = c.next.pc := ⟨_, rfl⟩
  have pn0 : 0 ≤ pn := by rw [hpn]; exact hkn.pc.1
  have pn1 : pn < 4294967296 := by rw [hpn]; exact hkn.pc.2
  have HPN := Lib.hid hpn
  have HE : Hid (c.step x = (c.next.jump false (W.wd (pn + off)), Ev.none)) := by unfold Hid; rw [HE0.out, hpn]; rfl
  clear hpn hof
  have H0 := (Sep.nil w).alloc3 c.cells Cpu.zero.cells Ev.none.cells 25 25 28
  have K0 := Lib.hid (Ke.below Non (bel3 w (.cells c.cells 25) (.cells Cpu.zero.cells 25) (.cells Ev.none.cells 28)))
  have pc0 : 0 ≤ c.pc := hk.pc.1
  have pc1 : c.pc < 4294967296 := hk.pc.2
  go_enter Try.func11, Try.ntmps11
  go_wp2_with fail
  refine (refof_walk x _ HX.out).mono ?_
  rintro e w1 ⟨he, hb1⟩
  rw [HG.out, if_pos rfl, ← HI.out] at he
  subst he
  have H1 := H0.bel hb1
  have K1 := Lib.hid (K0.out.trans (Ke.below Non hb1))
  have z1 : w.heap.size + 3 ≤ w1.heap.size := by have := hb1.size; simp at this; omega
  clear hb1 H0
  have f_0 : True := trivial
  have f_1 : True := trivial
  have f_2 : True := trivial
  have f_3 : True := trivial
  have f_4 : True := trivial
  go_wp2_with (first | (have _f := f_0; refine alloc_sep rfl 35 rfl H1 (z := Ins.zero.val) (cs := Ins.zero.cells) (by kernel_rfl) rfl ?_; intro w2 H2 b2 s2; have z2 : w.heap.size + 3 ≤ w2.heap.size := (by omega); clear s2; clear _f f_0) | (have _f := f_1; refine store_sep rfl 35 (.tmp 6) (.tmp 17) rfl H2 0 rfl rfl rfl (by kernel_rfl) rfl ?_ ?_; rfl; intro w3 H3 k3 s3; have z3 : w.heap.size + 3 ≤ w3.heap.size := (by omega); clear s3; have K3 := Lib.hid (ke2 (K1.out.trans (Ke.below Non b2)) k3 (by omega)); clear _f f_1) | (have _f := f_2; refine load_sep rfl 25 (.tmp 2) rfl H3 3 rfl rfl Try.underlying25 rfl (by kernel_rfl) ?_; clear _f f_2) | (have _f := f_3; refine alloc_sep rfl 25 rfl H3 (z := Cpu.zero.val) (cs := Cpu.zero.cells) (by kernel_rfl) rfl ?_; intro w4 H4 b4 s4; have z4 : w.heap.size + 3 ≤ w4.heap.size := (by omega); clear s4; clear _f f_3) | (have _f := f_4; refine store_sep rfl 25 (.tmp 8) (.tmp 19) rfl H4 0 rfl rfl rfl (by kernel_rfl) rfl ?_ ?_; rfl; intro w5 H5 k5 s5; have z5 : w.heap.size + 3 ≤ w5.heap.size := (by omega); clear s5; have K5 := Lib.hid (ke2 (K3.out.trans (Ke.below Non b4)) k5 (by omega)); have p21 : w5.cell? ⟨w.heap.size, 21, none⟩ = some (.int .u32 c.pc) := cell_of H5 4 rfl 21 rfl; clear _f f_4))
  refine (ref_word (c.pc + 1) _ (by omega)).mono ?_
  rintro e w' ⟨rfl, rfl⟩
  have f_0 : True := trivial
  have f_1 : True := trivial
  go_wp2_with (first | (have _f := f_0; refine store1_sep rfl 22 (.tmp 25) (.tmp 24) rfl H5 0 rfl rfl rfl rfl (by kernel_rfl) ?_ ?_; rfl; intro w6 H6' k6 s6; have z6 : w.heap.size + 3 ≤ w6.heap.size := (by omega); clear s6; have H6 : Sep w6 [(w3.heap.size, c.next.cells, 25), (w1.heap.size, (Ins.mk 4 u false a bb cc op im off cond nn).cells, 35), (w.heap.size + 2, Ev.none.cells, 28), (w.heap.size + 1, Cpu.zero.cells, 25), (w.heap.size, c.cells, 25)] := H6'; have K6 := Lib.hid (ke2 K5.out k6 (by omega)); have f0 : w6.cell? ⟨w1.heap.size, 0, none⟩ = some (.int .i64 4) := cell_of H6 1 rfl 0 rfl; have f9 : w6.cell? ⟨w1.heap.size, 9, none⟩ = some (.int .i64 cond) := cell_of H6 1 rfl 9 rfl; clear _f f_0) | (have _f := f_1; refine load_sep rfl 25 (.tmp 2) rfl H6 4 rfl rfl Try.underlying25 rfl (by kernel_rfl) ?_; clear _f f_1))
  refine (refholds_walk c cond _).mono ?_
  rw [HC.out]
  rintro e w9 ⟨rfl, hb9⟩
  have H9 := H6.bel hb9
  have K9 := Lib.hid (K6.out.trans (Ke.below Non hb9))
  have z9 : w.heap.size + 3 ≤ w9.heap.size := by have := hb9.size; omega
  clear hb9
  have g0 : w9.cell? ⟨w1.heap.size, 0, none⟩ = some (.int .i64 4) := cell_of H9 1 rfl 0 rfl
  have g2 : w9.cell? ⟨w1.heap.size, 2, none⟩ = some (.bool false) := cell_of H9 1 rfl 2 rfl
  have g8 : w9.cell? ⟨w1.heap.size, 8, none⟩ = some (.int .i64 off) := cell_of H9 1 rfl 8 rfl
  have g10 : w9.cell? ⟨w1.heap.size, 10, none⟩ = some (.int .i64 nn) := cell_of H9 1 rfl 10 rfl
  have p22 : w9.cell? ⟨w3.heap.size, 21, none⟩ = some (.int .u32 pn) := (by rw [HPN.out]; exact cell_of H9 0 rfl 21 rfl)
  go_wp2_with fail
  refine (ref_word (pn + off) _ (by omega)).mono ?_
  rintro e w' ⟨rfl, rfl⟩
  have f_0 : True := trivial
  have f_1 : True := trivial
  have f_2 : True := trivial
  have f_3 : True := trivial
  go_wp2_with (first | (have _f := f_0; refine store1_sep rfl 22 (.tmp 137) (.tmp 136) rfl H9 0 rfl rfl rfl rfl (by kernel_rfl) ?_ ?_; rfl; intro w11 H11' k11 s11; have z11 : w.heap.size + 3 ≤ w11.heap.size := (by omega); clear s11; have H11 : Sep w11 [(w3.heap.size, (c.next.jump false (W.wd (pn + off))).cells, 25), (w1.heap.size, _, 35), (w.heap.size + 2, Ev.none.cells, 28), (w.heap.size + 1, Cpu.zero.cells, 25), (w.heap.size, c.cells, 25)] := H11'; have K11 := Lib.hid (ke2 K9.out k11 (by omega)); clear _f f_0) | (have _f := f_1; refine load_sep rfl 25 (.tmp 8) rfl H11 0 rfl rfl Try.underlying25 rfl (by kernel_rfl) ?_; clear _f f_1) | (have _f := f_2; refine store_sep rfl 25 (.tmp 4) (.tmp 138) rfl H11 3 rfl rfl rfl (by kernel_rfl) rfl ?_ ?_; rfl; intro w7 H7 k7 s7; have z7 : w.heap.size + 3 ≤ w7.heap.size := (by omega); clear s7; clear _f f_2) | (have _f := f_3; refine store_sep rfl 28 (.tmp 5) (.tmp 139) rfl H7 2 rfl rfl rfl (by kernel_rfl) rfl ?_ ?_; rfl; intro w8 H8 k8 s8; have z8 : w.heap.size + 3 ≤ w8.heap.size := (by omega); clear s8; clear _f f_3))
  refine bodyPost_ret (res_cell_cell rfl rfl (H8.at 3 rfl) Try.underlying25 rfl (by kernel_rfl) rfl (H8.at 2 rfl) Try.underlying28 rfl (by kernel_rfl)) rfl (step_is HE.out rfl ?_)
  exact (ke2 (ke2 K11.out k7 (by omega)) k8 (by omega)).non

set_option maxRecDepth 100000 in
set_option maxHeartbeats 8000000 in
theorem refstep_jump_true (c : Cpu) (x : Int) (w : World) (hx : 0 ≤ x ∧ x < 4294967296) (hk : c.Ok) (hg : good (flds x) = true) (hf : (flds x).form = 4) (hc : c.next.cond (flds x).cond = true) (hv : (flds x).v = true) : Calls Try.prog 11 #[c.val, .int .u32 x] w (StepIs c x w) := by
  have hbd := flds_bd hx
  have HST : Hid (c.step x = c.next.exec (flds x)) := by unfold Hid Cpu.step; rw [if_pos hg]
  have HM := Lib.hid (ins_ok_of hx hg)
  have HX := Lib.hid hx
  have HG := Lib.hid hg
  obtain ⟨i, hi⟩ : ∃ i, i = flds x := ⟨_, rfl⟩
  have HI := Lib.hid hi
  rw [← hi] at hbd hf hv HST HM
  have hkn := ok_next hk
  clear hx hg hi
  rw [← HI.out] at hc
  have hc2 : c.cond i.cond = true := hc
  have HC := Lib.hid hc2
  have hof : -2147483648 ≤ i.off ∧ i.off < 2147483648 := hbd.2.2.2.2.2.2.2.2
  have hcc : 0 ≤ i.c := hbd.2.2.2.1
  have hcc2 : i.c ≤ 15 := HM.out.c.2
  have HE0 : Hid (c.step x = (c.next.jump i.v (if i.form = 5 then c.next.r i.c.toNat / 4 else (c.next.pc + i.off) % 4294967296), Ev.none)) := by unfold Hid; rw [HST.out]; unfold Cpu.exec; rw [if_neg (by omega), if_neg (by omega), if_neg (by omega), if_neg (by rw [hc]; simp), if_neg (by omega)]
  clear hc hc2 HST hbd
  obtain ⟨form, u, v, a, bb, cc, op, im, off, cond, nn⟩ := i
  simp only at hf hv hof hcc hcc2
  subst hf hv
  have ho1 := hof.1
  have ho2 := hof.2
  obtain ⟨pn, hpn⟩ : ∃ pn, pn = c.next.pc := ⟨_, rfl⟩
  have pn0 : 0 ≤ pn := by rw [hpn]; exact hkn.pc.1
  have pn1 : pn < 4294967296 := by rw [hpn]; exact hkn.pc.2
  have HPN := Lib.hid hpn
  have HE : Hid (c.step x = (c.next.jump true (W.wd (pn + off)), Ev.none)) := by unfold Hid; rw [HE0.out, hpn]; rfl
  clear hpn hof
  have H0 := (Sep.nil w).alloc3 c.cells Cpu.zero.cells Ev.none.cells 25 25 28
  have K0 := Lib.hid (Ke.below Non (bel3 w (.cells c.cells 25) (.cells Cpu.zero.cells 25) (.cells Ev.none.cells 28)))
  have pc0 : 0 ≤ c.pc := hk.pc.1
  have pc1 : c.pc < 4294967296 := hk.pc.2
  go_enter Try.func11, Try.ntmps11
  go_wp2_with fail
  refine (refof_walk x _ HX.out).mono ?_
  rintro e w1 ⟨he, hb1⟩
  rw [HG.out, if_pos rfl, ← HI.out] at he
  subst he
  have H1 := H0.bel hb1
  have K1 := Lib.hid (K0.out.trans (Ke.below Non hb1))
  have z1 : w.heap.size + 3 ≤ w1.heap.size := by have := hb1.size; simp at this; omega
  clear hb1 H0
  have f_0 : True := trivial
  have f_1 : True := trivial
  have f_2 : True := trivial
  have f_3 : True := trivial
  have f_4 : True := trivial
  go_wp2_with (first | (have _f := f_0; refine alloc_sep rfl 35 rfl H1 (z := Ins.zero.val) (cs := Ins.zero.cells) (by kernel_rfl) rfl ?_; intro w2 H2 b2 s2; have z2 : w.heap.size + 3 ≤ w2.heap.size := (by omega); clear s2; clear _f f_0) | (have _f := f_1; refine store_sep rfl 35 (.tmp 6) (.tmp 17) rfl H2 0 rfl rfl rfl (by kernel_rfl) rfl ?_ ?_; rfl; intro w3 H3 k3 s3; have z3 : w.heap.size + 3 ≤ w3.heap.size := (by omega); clear s3; have K3 := Lib.hid (ke2 (K1.out.trans (Ke.below Non b2)) k3 (by omega)); clear _f f_1) | (have _f := f_2; refine load_sep rfl 25 (.tmp 2) rfl H3 3 rfl rfl Try.underlying25 rfl (by kernel_rfl) ?_; clear _f f_2) | (have _f := f_3; refine alloc_sep rfl 25 rfl H3 (z := Cpu.zero.val) (cs := Cpu.zero.cells) (by kernel_rfl) rfl ?_; intro w4 H4 b4 s4; have z4 : w.heap.size + 3 ≤ w4.heap.size := (by omega); clear s4; clear _f f_3) | (have _f := f_4; refine store_sep rfl 25 (.tmp 8) (.tmp 19) rfl H4 0 rfl rfl rfl (by kernel_rfl) rfl ?_ ?_; rfl; intro w5 H5 k5 s5; have z5 : w.heap.size + 3 ≤ w5.heap.size := (by omega); clear s5; have K5 := Lib.hid (ke2 (K3.out.trans (Ke.below Non b4)) k5 (by omega)); have p21 : w5.cell? ⟨w.heap.size, 21, none⟩ = some (.int .u32 c.pc) := cell_of H5 4 rfl 21 rfl; clear _f f_4))
  refine (ref_word (c.pc + 1) _ (by omega)).mono ?_
  rintro e w' ⟨rfl, rfl⟩
  have f_0 : True := trivial
  have f_1 : True := trivial
  go_wp2_with (first | (have _f := f_0; refine store1_sep rfl 22 (.tmp 25) (.tmp 24) rfl H5 0 rfl rfl rfl rfl (by kernel_rfl) ?_ ?_; rfl; intro w6 H6' k6 s6; have z6 : w.heap.size + 3 ≤ w6.heap.size := (by omega); clear s6; have H6 : Sep w6 [(w3.heap.size, c.next.cells, 25), (w1.heap.size, (Ins.mk 4 u true a bb cc op im off cond nn).cells, 35), (w.heap.size + 2, Ev.none.cells, 28), (w.heap.size + 1, Cpu.zero.cells, 25), (w.heap.size, c.cells, 25)] := H6'; have K6 := Lib.hid (ke2 K5.out k6 (by omega)); have f0 : w6.cell? ⟨w1.heap.size, 0, none⟩ = some (.int .i64 4) := cell_of H6 1 rfl 0 rfl; have f9 : w6.cell? ⟨w1.heap.size, 9, none⟩ = some (.int .i64 cond) := cell_of H6 1 rfl 9 rfl; clear _f f_0) | (have _f := f_1; refine load_sep rfl 25 (.tmp 2) rfl H6 4 rfl rfl Try.underlying25 rfl (by kernel_rfl) ?_; clear _f f_1))
  refine (refholds_walk c cond _).mono ?_
  rw [HC.out]
  rintro e w9 ⟨rfl, hb9⟩
  have H9 := H6.bel hb9
  have K9 := Lib.hid (K6.out.trans (Ke.below Non hb9))
  have z9 : w.heap.size + 3 ≤ w9.heap.size := by have := hb9.size; omega
  clear hb9
  have g0 : w9.cell? ⟨w1.heap.size, 0, none⟩ = some (.int .i64 4) := cell_of H9 1 rfl 0 rfl
  have g2 : w9.cell? ⟨w1.heap.size, 2, none⟩ = some (.bool true) := cell_of H9 1 rfl 2 rfl
  have g8 : w9.cell? ⟨w1.heap.size, 8, none⟩ = some (.int .i64 off) := cell_of H9 1 rfl 8 rfl
  have g10 : w9.cell? ⟨w1.heap.size, 10, none⟩ = some (.int .i64 nn) := cell_of H9 1 rfl 10 rfl
  have p22 : w9.cell? ⟨w3.heap.size, 21, none⟩ = some (.int .u32 pn) := (by rw [HPN.out]; exact cell_of H9 0 rfl 21 rfl)
  go_wp2_with fail
  refine (ref_word (pn + off) _ (by omega)).mono ?_
  rintro e w' ⟨rfl, rfl⟩
  go_wp2_with fail
  refine (ref_word (4 * pn) _ (by omega)).mono ?_
  rintro e w' ⟨rfl, rfl⟩
  have f_0 : True := trivial
  have f_1 : True := trivial
  have f_2 : True := trivial
  have f_3 : True := trivial
  have f_4 : True := trivial
  go_wp2_with (first | (have _f := f_0; refine store1_sep rfl 22 (.tmp 135) (.tmp 133) rfl H9 0 rfl rfl rfl rfl (by kernel_rfl) ?_ ?_; rfl; intro w10 H10 k10 s10; have z10 : w.heap.size + 3 ≤ w10.heap.size := (by omega); clear s10; have K10 := Lib.hid (ke2 K9.out k10 (by omega)); clear _f f_0) | (have _f := f_1; refine store1_sep rfl 22 (.tmp 137) (.tmp 136) rfl H10 0 rfl rfl rfl rfl (by kernel_rfl) ?_ ?_; rfl; intro w11 H11' k11 s11; have z11 : w.heap.size + 3 ≤ w11.heap.size := (by omega); clear s11; have H11 : Sep w11 [(w3.heap.size, (c.next.jump true (W.wd (pn + off))).cells, 25), (w1.heap.size, _, 35), (w.heap.size + 2, Ev.none.cells, 28), (w.heap.size + 1, Cpu.zero.cells, 25), (w.heap.size, c.cells, 25)] := (by rw [← jump_cells c.next pn _ HPN.out]; exact H11'); have K11 := Lib.hid (ke2 K10.out k11 (by omega)); clear _f f_1) | (have _f := f_2; refine load_sep rfl 25 (.tmp 8) rfl H11 0 rfl rfl Try.underlying25 rfl (by kernel_rfl) ?_; clear _f f_2) | (have _f := f_3; refine store_sep rfl 25 (.tmp 4) (.tmp 138) rfl H11 3 rfl rfl rfl (by kernel_rfl) rfl ?_ ?_; rfl; intro w7 H7 k7 s7; have z7 : w.heap.size + 3 ≤ w7.heap.size := (by omega); clear s7; clear _f f_3) | (have _f := f_4; refine store_sep rfl 28 (.tmp 5) (.tmp 139) rfl H7 2 rfl rfl rfl (by kernel_rfl) rfl ?_ ?_; rfl; intro w8 H8 k8 s8; have z8 : w.heap.size + 3 ≤ w8.heap.size := (by omega); clear s8; clear _f f_4))
  refine bodyPost_ret (res_cell_cell rfl rfl (H8.at 3 rfl) Try.underlying25 rfl (by kernel_rfl) rfl (H8.at 2 rfl) Try.underlying28 rfl (by kernel_rfl)) rfl (step_is HE.out rfl ?_)
  exact (ke2 (ke2 K11.out k7 (by omega)) k8 (by omega)).non

set_option maxRecDepth 100000 in
set_option maxHeartbeats 8000000 in
theorem refstep_to_false (c : Cpu) (x : Int) (w : World) (hx : 0 ≤ x ∧ x < 4294967296) (hk : c.Ok) (hg : good (flds x) = true) (hf : (flds x).form = 5) (hc : c.next.cond (flds x).cond = true) (hv : (flds x).v = false) : Calls Try.prog 11 #[c.val, .int .u32 x] w (StepIs c x w) := by
  have hbd := flds_bd hx
  have HST : Hid (c.step x = c.next.exec (flds x)) := by unfold Hid Cpu.step; rw [if_pos hg]
  have HM := Lib.hid (ins_ok_of hx hg)
  have HX := Lib.hid hx
  have HG := Lib.hid hg
  obtain ⟨i, hi⟩ : ∃ i, i = flds x := ⟨_, rfl⟩
  have HI := Lib.hid hi
  rw [← hi] at hbd hf hv HST HM
  have hkn := ok_next hk
  clear hx hg hi
  rw [← HI.out] at hc
  have hc2 : c.cond i.cond = true := hc
  have HC := Lib.hid hc2
  have hof : -2147483648 ≤ i.off ∧ i.off < 2147483648 := hbd.2.2.2.2.2.2.2.2
  have hcc : 0 ≤ i.c := hbd.2.2.2.1
  have hcc2 : i.c ≤ 15 := HM.out.c.2
  have HE0 : Hid (c.step x = (c.next.jump i.v (if i.form = 5 then c.next.r i.c.toNat / 4 else (c.next.pc + i.off) % 4294967296), Ev.none)) := by unfold Hid; rw [HST.out]; unfold Cpu.exec; rw [if_neg (by omega), if_neg (by omega), if_neg (by omega), if_neg (by rw [hc]; simp), if_neg (by omega)]
  clear hc hc2 HST hbd
  obtain ⟨form, u, v, a, bb, cc, op, im, off, cond, nn⟩ := i
  simp only at hf hv hof hcc hcc2
  subst hf hv
  have ho1 := hof.1
  have ho2 := hof.2
  obtain ⟨pn, hpn⟩ : ∃ pn, pn = c.next.pc := ⟨_, rfl⟩
  have pn0 : 0 ≤ pn := by rw [hpn]; exact hkn.pc.1
  have pn1 : pn < 4294967296 := by rw [hpn]; exact hkn.pc.2
  have HPN := Lib.hid hpn
  obtain ⟨jc, rfl⟩ := Int.eq_ofNat_of_zero_le hcc
  have hj : jc < 16 := by omega
  obtain ⟨m, hm⟩ : ∃ m, m = c.r jc := ⟨_, rfl⟩
  have hm0 : 0 ≤ m := by rw [hm]; exact (hk.r jc).1
  have hm1 : m < 4294967296 := by rw [hm]; exact (hk.r jc).2
  have HR := Lib.hid (reg_cell c w jc hj hm)
  have HE : Hid (c.step x = (c.next.jump false (m / 4), Ev.none)) := by unfold Hid; rw [HE0.out, hm]; rfl
  clear hpn hof hm
  have H0 := (Sep.nil w).alloc3 c.cells Cpu.zero.cells Ev.none.cells 25 25 28
  have K0 := Lib.hid (Ke.below Non (bel3 w (.cells c.cells 25) (.cells Cpu.zero.cells 25) (.cells Ev.none.cells 28)))
  have pc0 : 0 ≤ c.pc := hk.pc.1
  have pc1 : c.pc < 4294967296 := hk.pc.2
  go_enter Try.func11, Try.ntmps11
  go_wp2_with fail
  refine (refof_walk x _ HX.out).mono ?_
  rintro e w1 ⟨he, hb1⟩
  rw [HG.out, if_pos rfl, ← HI.out] at he
  subst he
  have H1 := H0.bel hb1
  have K1 := Lib.hid (K0.out.trans (Ke.below Non hb1))
  have z1 : w.heap.size + 3 ≤ w1.heap.size := by have := hb1.size; simp at this; omega
  clear hb1 H0
  have f_0 : True := trivial
  have f_1 : True := trivial
  have f_2 : True := trivial
  have f_3 : True := trivial
  have f_4 : True := trivial
  go_wp2_with (first | (have _f := f_0; refine alloc_sep rfl 35 rfl H1 (z := Ins.zero.val) (cs := Ins.zero.cells) (by kernel_rfl) rfl ?_; intro w2 H2 b2 s2; have z2 : w.heap.size + 3 ≤ w2.heap.size := (by omega); clear s2; clear _f f_0) | (have _f := f_1; refine store_sep rfl 35 (.tmp 6) (.tmp 17) rfl H2 0 rfl rfl rfl (by kernel_rfl) rfl ?_ ?_; rfl; intro w3 H3 k3 s3; have z3 : w.heap.size + 3 ≤ w3.heap.size := (by omega); clear s3; have K3 := Lib.hid (ke2 (K1.out.trans (Ke.below Non b2)) k3 (by omega)); clear _f f_1) | (have _f := f_2; refine load_sep rfl 25 (.tmp 2) rfl H3 3 rfl rfl Try.underlying25 rfl (by kernel_rfl) ?_; clear _f f_2) | (have _f := f_3; refine alloc_sep rfl 25 rfl H3 (z := Cpu.zero.val) (cs := Cpu.zero.cells) (by kernel_rfl) rfl ?_; intro w4 H4 b4 s4; have z4 : w.heap.size + 3 ≤ w4.heap.size := (by omega); clear s4; clear _f f_3) | (have _f := f_4; refine store_sep rfl 25 (.tmp 8) (.tmp 19) rfl H4 0 rfl rfl rfl (by kernel_rfl) rfl ?_ ?_; rfl; intro w5 H5 k5 s5; have z5 : w.heap.size + 3 ≤ w5.heap.size := (by omega); clear s5; have K5 := Lib.hid (ke2 (K3.out.trans (Ke.below Non b4)) k5 (by omega)); have p21 : w5.cell? ⟨w.heap.size, 21, none⟩ = some (.int .u32 c.pc) := cell_of H5 4 rfl 21 rfl; clear _f f_4))
  refine (ref_word (c.pc + 1) _ (by omega)).mono ?_
  rintro e w' ⟨rfl, rfl⟩
  have f_0 : True := trivial
  have f_1 : True := trivial
  go_wp2_with (first | (have _f := f_0; refine store1_sep rfl 22 (.tmp 25) (.tmp 24) rfl H5 0 rfl rfl rfl rfl (by kernel_rfl) ?_ ?_; rfl; intro w6 H6' k6 s6; have z6 : w.heap.size + 3 ≤ w6.heap.size := (by omega); clear s6; have H6 : Sep w6 [(w3.heap.size, c.next.cells, 25), (w1.heap.size, (Ins.mk 5 u false a bb jc op im off cond nn).cells, 35), (w.heap.size + 2, Ev.none.cells, 28), (w.heap.size + 1, Cpu.zero.cells, 25), (w.heap.size, c.cells, 25)] := H6'; have K6 := Lib.hid (ke2 K5.out k6 (by omega)); have f0 : w6.cell? ⟨w1.heap.size, 0, none⟩ = some (.int .i64 5) := cell_of H6 1 rfl 0 rfl; have f9 : w6.cell? ⟨w1.heap.size, 9, none⟩ = some (.int .i64 cond) := cell_of H6 1 rfl 9 rfl; clear _f f_0) | (have _f := f_1; refine load_sep rfl 25 (.tmp 2) rfl H6 4 rfl rfl Try.underlying25 rfl (by kernel_rfl) ?_; clear _f f_1))
  refine (refholds_walk c cond _).mono ?_
  rw [HC.out]
  rintro e w9 ⟨rfl, hb9⟩
  have H9 := H6.bel hb9
  have K9 := Lib.hid (K6.out.trans (Ke.below Non hb9))
  have z9 : w.heap.size + 3 ≤ w9.heap.size := by have := hb9.size; omega
  clear hb9
  have g0 : w9.cell? ⟨w1.heap.size, 0, none⟩ = some (.int .i64 5) := cell_of H9 1 rfl 0 rfl
  have g2 : w9.cell? ⟨w1.heap.size, 2, none⟩ = some (.bool false) := cell_of H9 1 rfl 2 rfl
  have g8 : w9.cell? ⟨w1.heap.size, 8, none⟩ = some (.int .i64 off) := cell_of H9 1 rfl 8 rfl
  have g10 : w9.cell? ⟨w1.heap.size, 10, none⟩ = some (.int .i64 nn) := cell_of H9 1 rfl 10 rfl
  have p22 : w9.cell? ⟨w3.heap.size, 21, none⟩ = some (.int .u32 pn) := (by rw [HPN.out]; exact cell_of H9 0 rfl 21 rfl)
  have g5 : w9.cell? ⟨w1.heap.size, 5, none⟩ = some (.int .i64 jc) := cell_of H9 1 rfl 5 rfl
  have gm : w9.cell? ⟨w.heap.size, jc, none⟩ = some (.int .u32 m) := cell_of H9 4 rfl jc HR.out
  go_wp2_with fail
  refine (ref_word (pn + off) _ (by omega)).mono ?_
  rintro e w' ⟨rfl, rfl⟩
  have f_0 : True := trivial
  have f_1 : True := trivial
  have f_2 : True := trivial
  have f_3 : True := trivial
  go_wp2_with (first | (have _f := f_0; refine store1_sep rfl 22 (.tmp 137) (.tmp 136) rfl H9 0 rfl rfl rfl rfl (by kernel_rfl) ?_ ?_; rfl; intro w11 H11' k11 s11; have z11 : w.heap.size + 3 ≤ w11.heap.size := (by omega); clear s11; have H11 : Sep w11 [(w3.heap.size, (c.next.jump false (m / 4)).cells, 25), (w1.heap.size, _, 35), (w.heap.size + 2, Ev.none.cells, 28), (w.heap.size + 1, Cpu.zero.cells, 25), (w.heap.size, c.cells, 25)] := H11'; have K11 := Lib.hid (ke2 K9.out k11 (by omega)); clear _f f_0) | (have _f := f_1; refine load_sep rfl 25 (.tmp 8) rfl H11 0 rfl rfl Try.underlying25 rfl (by kernel_rfl) ?_; clear _f f_1) | (have _f := f_2; refine store_sep rfl 25 (.tmp 4) (.tmp 138) rfl H11 3 rfl rfl rfl (by kernel_rfl) rfl ?_ ?_; rfl; intro w7 H7 k7 s7; have z7 : w.heap.size + 3 ≤ w7.heap.size := (by omega); clear s7; clear _f f_2) | (have _f := f_3; refine store_sep rfl 28 (.tmp 5) (.tmp 139) rfl H7 2 rfl rfl rfl (by kernel_rfl) rfl ?_ ?_; rfl; intro w8 H8 k8 s8; have z8 : w.heap.size + 3 ≤ w8.heap.size := (by omega); clear s8; clear _f f_3))
  refine bodyPost_ret (res_cell_cell rfl rfl (H8.at 3 rfl) Try.underlying25 rfl (by kernel_rfl) rfl (H8.at 2 rfl) Try.underlying28 rfl (by kernel_rfl)) rfl (step_is HE.out rfl ?_)
  exact (ke2 (ke2 K11.out k7 (by omega)) k8 (by omega)).non

set_option maxRecDepth 100000 in
set_option maxHeartbeats 8000000 in
theorem refstep_to_true (c : Cpu) (x : Int) (w : World) (hx : 0 ≤ x ∧ x < 4294967296) (hk : c.Ok) (hg : good (flds x) = true) (hf : (flds x).form = 5) (hc : c.next.cond (flds x).cond = true) (hv : (flds x).v = true) : Calls Try.prog 11 #[c.val, .int .u32 x] w (StepIs c x w) := by
  have hbd := flds_bd hx
  have HST : Hid (c.step x = c.next.exec (flds x)) := by unfold Hid Cpu.step; rw [if_pos hg]
  have HM := Lib.hid (ins_ok_of hx hg)
  have HX := Lib.hid hx
  have HG := Lib.hid hg
  obtain ⟨i, hi⟩ : ∃ i, i = flds x := ⟨_, rfl⟩
  have HI := Lib.hid hi
  rw [← hi] at hbd hf hv HST HM
  have hkn := ok_next hk
  clear hx hg hi
  rw [← HI.out] at hc
  have hc2 : c.cond i.cond = true := hc
  have HC := Lib.hid hc2
  have hof : -2147483648 ≤ i.off ∧ i.off < 2147483648 := hbd.2.2.2.2.2.2.2.2
  have hcc : 0 ≤ i.c := hbd.2.2.2.1
  have hcc2 : i.c ≤ 15 := HM.out.c.2
  have HE0 : Hid (c.step x = (c.next.jump i.v (if i.form = 5 then c.next.r i.c.toNat / 4 else (c.next.pc + i.off) % 4294967296), Ev.none)) := by unfold Hid; rw [HST.out]; unfold Cpu.exec; rw [if_neg (by omega), if_neg (by omega), if_neg (by omega), if_neg (by rw [hc]; simp), if_neg (by omega)]
  clear hc hc2 HST hbd
  obtain ⟨form, u, v, a, bb, cc, op, im, off, cond, nn⟩ := i
  simp only at hf hv hof hcc hcc2
  subst hf hv
  have ho1 := hof.1
  have ho2 := hof.2
  obtain ⟨pn, hpn⟩ : ∃ pn, pn = c.next.pc := ⟨_, rfl⟩
  have pn0 : 0 ≤ pn := by rw [hpn]; exact hkn.pc.1
  have pn1 : pn < 4294967296 := by rw [hpn]; exact hkn.pc.2
  have HPN := Lib.hid hpn
  obtain ⟨jc, rfl⟩ := Int.eq_ofNat_of_zero_le hcc
  have hj : jc < 16 := by omega
  obtain ⟨m, hm⟩ : ∃ m, m = c.r jc := ⟨_, rfl⟩
  have hm0 : 0 ≤ m := by rw [hm]; exact (hk.r jc).1
  have hm1 : m < 4294967296 := by rw [hm]; exact (hk.r jc).2
  have HR := Lib.hid (reg_cell c w jc hj hm)
  have HE : Hid (c.step x = (c.next.jump true (m / 4), Ev.none)) := by unfold Hid; rw [HE0.out, hm]; rfl
  clear hpn hof hm
  have H0 := (Sep.nil w).alloc3 c.cells Cpu.zero.cells Ev.none.cells 25 25 28
  have K0 := Lib.hid (Ke.below Non (bel3 w (.cells c.cells 25) (.cells Cpu.zero.cells 25) (.cells Ev.none.cells 28)))
  have pc0 : 0 ≤ c.pc := hk.pc.1
  have pc1 : c.pc < 4294967296 := hk.pc.2
  go_enter Try.func11, Try.ntmps11
  go_wp2_with fail
  refine (refof_walk x _ HX.out).mono ?_
  rintro e w1 ⟨he, hb1⟩
  rw [HG.out, if_pos rfl, ← HI.out] at he
  subst he
  have H1 := H0.bel hb1
  have K1 := Lib.hid (K0.out.trans (Ke.below Non hb1))
  have z1 : w.heap.size + 3 ≤ w1.heap.size := by have := hb1.size; simp at this; omega
  clear hb1 H0
  have f_0 : True := trivial
  have f_1 : True := trivial
  have f_2 : True := trivial
  have f_3 : True := trivial
  have f_4 : True := trivial
  go_wp2_with (first | (have _f := f_0; refine alloc_sep rfl 35 rfl H1 (z := Ins.zero.val) (cs := Ins.zero.cells) (by kernel_rfl) rfl ?_; intro w2 H2 b2 s2; have z2 : w.heap.size + 3 ≤ w2.heap.size := (by omega); clear s2; clear _f f_0) | (have _f := f_1; refine store_sep rfl 35 (.tmp 6) (.tmp 17) rfl H2 0 rfl rfl rfl (by kernel_rfl) rfl ?_ ?_; rfl; intro w3 H3 k3 s3; have z3 : w.heap.size + 3 ≤ w3.heap.size := (by omega); clear s3; have K3 := Lib.hid (ke2 (K1.out.trans (Ke.below Non b2)) k3 (by omega)); clear _f f_1) | (have _f := f_2; refine load_sep rfl 25 (.tmp 2) rfl H3 3 rfl rfl Try.underlying25 rfl (by kernel_rfl) ?_; clear _f f_2) | (have _f := f_3; refine alloc_sep rfl 25 rfl H3 (z := Cpu.zero.val) (cs := Cpu.zero.cells) (by kernel_rfl) rfl ?_; intro w4 H4 b4 s4; have z4 : w.heap.size + 3 ≤ w4.heap.size := (by omega); clear s4; clear _f f_3) | (have _f := f_4; refine store_sep rfl 25 (.tmp 8) (.tmp 19) rfl H4 0 rfl rfl rfl (by kernel_rfl) rfl ?_ ?_; rfl; intro w5 H5 k5 s5; have z5 : w.heap.size + 3 ≤ w5.heap.size := (by omega); clear s5; have K5 := Lib.hid (ke2 (K3.out.trans (Ke.below Non b4)) k5 (by omega)); have p21 : w5.cell? ⟨w.heap.size, 21, none⟩ = some (.int .u32 c.pc) := cell_of H5 4 rfl 21 rfl; clear _f f_4))
  refine (ref_word (c.pc + 1) _ (by omega)).mono ?_
  rintro e w' ⟨rfl, rfl⟩
  have f_0 : True := trivial
  have f_1 : True := trivial
  go_wp2_with (first | (have _f := f_0; refine store1_sep rfl 22 (.tmp 25) (.tmp 24) rfl H5 0 rfl rfl rfl rfl (by kernel_rfl) ?_ ?_; rfl; intro w6 H6' k6 s6; have z6 : w.heap.size + 3 ≤ w6.heap.size := (by omega); clear s6; have H6 : Sep w6 [(w3.heap.size, c.next.cells, 25), (w1.heap.size, (Ins.mk 5 u true a bb jc op im off cond nn).cells, 35), (w.heap.size + 2, Ev.none.cells, 28), (w.heap.size + 1, Cpu.zero.cells, 25), (w.heap.size, c.cells, 25)] := H6'; have K6 := Lib.hid (ke2 K5.out k6 (by omega)); have f0 : w6.cell? ⟨w1.heap.size, 0, none⟩ = some (.int .i64 5) := cell_of H6 1 rfl 0 rfl; have f9 : w6.cell? ⟨w1.heap.size, 9, none⟩ = some (.int .i64 cond) := cell_of H6 1 rfl 9 rfl; clear _f f_0) | (have _f := f_1; refine load_sep rfl 25 (.tmp 2) rfl H6 4 rfl rfl Try.underlying25 rfl (by kernel_rfl) ?_; clear _f f_1))
  refine (refholds_walk c cond _).mono ?_
  rw [HC.out]
  rintro e w9 ⟨rfl, hb9⟩
  have H9 := H6.bel hb9
  have K9 := Lib.hid (K6.out.trans (Ke.below Non hb9))
  have z9 : w.heap.size + 3 ≤ w9.heap.size := by have := hb9.size; omega
  clear hb9
  have g0 : w9.cell? ⟨w1.heap.size, 0, none⟩ = some (.int .i64 5) := cell_of H9 1 rfl 0 rfl
  have g2 : w9.cell? ⟨w1.heap.size, 2, none⟩ = some (.bool true) := cell_of H9 1 rfl 2 rfl
  have g8 : w9.cell? ⟨w1.heap.size, 8, none⟩ = some (.int .i64 off) := cell_of H9 1 rfl 8 rfl
  have g10 : w9.cell? ⟨w1.heap.size, 10, none⟩ = some (.int .i64 nn) := cell_of H9 1 rfl 10 rfl
  have p22 : w9.cell? ⟨w3.heap.size, 21, none⟩ = some (.int .u32 pn) := (by rw [HPN.out]; exact cell_of H9 0 rfl 21 rfl)
  have g5 : w9.cell? ⟨w1.heap.size, 5, none⟩ = some (.int .i64 jc) := cell_of H9 1 rfl 5 rfl
  have gm : w9.cell? ⟨w.heap.size, jc, none⟩ = some (.int .u32 m) := cell_of H9 4 rfl jc HR.out
  go_wp2_with fail
  refine (ref_word (pn + off) _ (by omega)).mono ?_
  rintro e w' ⟨rfl, rfl⟩
  go_wp2_with fail
  refine (ref_word (4 * pn) _ (by omega)).mono ?_
  rintro e w' ⟨rfl, rfl⟩
  have f_0 : True := trivial
  have f_1 : True := trivial
  have f_2 : True := trivial
  have f_3 : True := trivial
  have f_4 : True := trivial
  go_wp2_with (first | (have _f := f_0; refine store1_sep rfl 22 (.tmp 135) (.tmp 133) rfl H9 0 rfl rfl rfl rfl (by kernel_rfl) ?_ ?_; rfl; intro w10 H10 k10 s10; have z10 : w.heap.size + 3 ≤ w10.heap.size := (by omega); clear s10; have K10 := Lib.hid (ke2 K9.out k10 (by omega)); clear _f f_0) | (have _f := f_1; refine store1_sep rfl 22 (.tmp 137) (.tmp 136) rfl H10 0 rfl rfl rfl rfl (by kernel_rfl) ?_ ?_; rfl; intro w11 H11' k11 s11; have z11 : w.heap.size + 3 ≤ w11.heap.size := (by omega); clear s11; have H11 : Sep w11 [(w3.heap.size, (c.next.jump true (m / 4)).cells, 25), (w1.heap.size, _, 35), (w.heap.size + 2, Ev.none.cells, 28), (w.heap.size + 1, Cpu.zero.cells, 25), (w.heap.size, c.cells, 25)] := (by rw [← jump_cells c.next pn _ HPN.out]; exact H11'); have K11 := Lib.hid (ke2 K10.out k11 (by omega)); clear _f f_1) | (have _f := f_2; refine load_sep rfl 25 (.tmp 8) rfl H11 0 rfl rfl Try.underlying25 rfl (by kernel_rfl) ?_; clear _f f_2) | (have _f := f_3; refine store_sep rfl 25 (.tmp 4) (.tmp 138) rfl H11 3 rfl rfl rfl (by kernel_rfl) rfl ?_ ?_; rfl; intro w7 H7 k7 s7; have z7 : w.heap.size + 3 ≤ w7.heap.size := (by omega); clear s7; clear _f f_3) | (have _f := f_4; refine store_sep rfl 28 (.tmp 5) (.tmp 139) rfl H7 2 rfl rfl rfl (by kernel_rfl) rfl ?_ ?_; rfl; intro w8 H8 k8 s8; have z8 : w.heap.size + 3 ≤ w8.heap.size := (by omega); clear s8; clear _f f_4))
  refine bodyPost_ret (res_cell_cell rfl rfl (H8.at 3 rfl) Try.underlying25 rfl (by kernel_rfl) rfl (H8.at 2 rfl) Try.underlying28 rfl (by kernel_rfl)) rfl (step_is HE.out rfl ?_)
  exact (ke2 (ke2 K11.out k7 (by omega)) k8 (by omega)).non

/-- the reference's Step: every processor, every word. -/
theorem refstep_walk (c : Cpu) (x : Int) (w : World) (hx : 0 ≤ x ∧ x < 4294967296) (hk : c.Ok) : Calls Try.prog 11 #[c.val, .int .u32 x] w (StepIs c x w) := by
  cases hg : good (flds x) with
  | false => exact refstep_bad c x w hx hk hg
  | true =>
    have hb := (flds_bd hx).1
    rcases (by omega : (flds x).form = 0 ∨ (flds x).form = 1 ∨ (flds x).form = 2 ∨ (flds x).form = 3 ∨ (flds x).form = 4 ∨ (flds x).form = 5 ∨ (flds x).form = 6) with h | h | h | h | h | h | h
    · exact refstep_do0 c x w hx hk hg h
    · exact refstep_do1 c x w hx hk hg h
    · exact refstep_load c x w hx hk hg h
    · cases hv : (flds x).v with
      | false => exact refstep_store_false c x w hx hk hg h hv
      | true => exact refstep_store_true c x w hx hk hg h hv
    · cases hc : c.next.cond (flds x).cond with
      | false => exact refstep_not4 c x w hx hk hg h hc
      | true =>
        cases hv : (flds x).v with
        | false => exact refstep_jump_false c x w hx hk hg h hc hv
        | true => exact refstep_jump_true c x w hx hk hg h hc hv
    · cases hc : c.next.cond (flds x).cond with
      | false => exact refstep_not5 c x w hx hk hg h hc
      | true =>
        cases hv : (flds x).v with
        | false => exact refstep_to_false c x w hx hk hg h hc hv
        | true => exact refstep_to_true c x w hx hk hg h hc hv
    · cases hc : c.next.cond (flds x).cond with
      | false => exact refstep_not6 c x w hx hk hg h hc
      | true =>
        by_cases hn : (flds x).n < 16
        · exact refstep_trap c x w hx hk hg h hc hn
        · exact refstep_call c x w hx hk hg h hc (by omega)

end Go.Proofs.Ytkeaogphaifnmaa
