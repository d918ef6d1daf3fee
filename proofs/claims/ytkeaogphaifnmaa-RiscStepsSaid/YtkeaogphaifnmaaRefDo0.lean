/- The reference's Do: operations 0, 1, 2, 3. -/
import Derived.Test.YtkeaogphaifnmaaRefBoth
namespace Go.Proofs.Ytkeaogphaifnmaa
set_option linter.unusedVariables false
set_option linter.unusedSimpArgs false
open Go.RowKit

set_option maxRecDepth 100000 in
set_option maxHeartbeats 8000000 in
theorem refdo_A0 (c : Cpu) (u v : Bool) (a bb cc im off cond nn : Int) (w : World) (hk : c.Ok) (ha : 0 ≤ a ∧ a < 16) (hb : 0 ≤ bb ∧ bb < 16) (hc : 0 ≤ cc ∧ cc < 16) (him : 0 ≤ im ∧ im < 65536) : Calls Try.prog 30 #[c.val, (Ins.mk 1 u v a bb cc 0 im off cond nn).val] w (DoR c (Ins.mk 1 u v a bb cc 0 im off cond nn) w) := by
  have HNB := Lib.hid (c.num_bd (Ins.mk 1 u v a bb cc 0 im off cond nn) hk)
  obtain ⟨n, hn⟩ : ∃ n, n = c.num (Ins.mk 1 u v a bb cc 0 im off cond nn) := ⟨_, rfl⟩
  rw [← hn] at HNB
  have HN := Lib.hid hn
  obtain ⟨jb, rfl⟩ := Int.eq_ofNat_of_zero_le hb.1
  have hj : jb < 16 := by omega
  obtain ⟨m, hm⟩ : ∃ m, m = c.r jb := ⟨_, rfl⟩
  have HM : Hid (m = c.r (Ins.b (Ins.mk 1 u v a jb cc 0 im off cond nn)).toNat) := hm
  have HMB : Hid (0 ≤ m ∧ m < 4294967296) := by rw [hm]; exact hk.r jb
  have hreg := reg_cell c w jb hj hm
  have HREG := Lib.hid hreg
  have HA := Lib.hid ha
  clear hm hreg
  have H0 := (Sep.nil w).alloc3 c.cells (Ins.cells (Ins.mk 1 u v a jb cc 0 im off cond nn)) Cpu.zero.cells 25 35 25
  have B0 := Lib.hid (bel3 w (.cells c.cells 25) (.cells (Ins.cells (Ins.mk 1 u v a jb cc 0 im off cond nn)) 35) (.cells Cpu.zero.cells 25))
  have HV := Lib.hid (show (Ins.mk 1 u v a jb cc 0 im off cond nn).value = n from hn.symm)
  clear hn
  go_enter Try.func30, Try.ntmps30
  go_wp2_with (refine load_sep rfl 35 (.tmp 3) rfl H0 1 rfl rfl Try.underlying35 rfl (by kernel_rfl) ?_)
  refine (refvalue_walk (Ins.mk 1 u v a jb cc 0 im off cond nn) _ him).mono ?_
  rw [HV.out]
  rintro e w1 ⟨rfl, hb1⟩
  have H1 := H0.bel hb1
  have B1 := Lib.hid (bel_then B0.out hb1)
  have f0 : w1.cell? ⟨w.heap.size + 1, 0, none⟩ = some (.int .i64 1) := cell_of H1 1 rfl 0 rfl
  have f1 : w1.cell? ⟨w.heap.size + 1, 1, none⟩ = some (.bool u) := cell_of H1 1 rfl 1 rfl
  have f3 : w1.cell? ⟨w.heap.size + 1, 3, none⟩ = some (.int .i64 a) := cell_of H1 1 rfl 3 rfl
  have f4 : w1.cell? ⟨w.heap.size + 1, 4, none⟩ = some (.int .i64 ((jb : Nat) : Int)) := cell_of H1 1 rfl 4 rfl
  have f5 : w1.cell? ⟨w.heap.size + 1, 5, none⟩ = some (.int .i64 cc) := cell_of H1 1 rfl 5 rfl
  have f6 : w1.cell? ⟨w.heap.size + 1, 6, none⟩ = some (.int .i64 0) := cell_of H1 1 rfl 6 rfl
  have g7 : w1.cell? ⟨w.heap.size, jb, none⟩ = some (.int .u32 m) := cell_of H1 2 rfl jb HREG.out
  have g19 : w1.cell? ⟨w.heap.size, 19, none⟩ = some (.bool c.c) := cell_of H1 2 rfl 19 rfl
  clear hb1 H0
  go_wp2_with (refine load_sep rfl 25 (.tmp 2) rfl H1 2 rfl rfl Try.underlying25 rfl (by kernel_rfl) ?_)
  refine (refset_walk c a _ _ HA.out (by first | exact HNB.out | exact HX.out)).mono ?_
  rintro e w8 ⟨rfl, hb8⟩
  have H8 := H1.bel hb8
  have K8 := Lib.hid ((Ke.below Non B1.out).trans (Ke.below Non hb8))
  clear hb8
  go_wp2_with (refine store_sep rfl 25 (.tmp 4) (.tmp 60) rfl H8 0 rfl rfl rfl (by kernel_rfl) rfl ?_ ?_; rfl; intro w9 H9 k9 s9)
  refine bodyPost_ret (res_cell_tmp rfl rfl (H9.at 0 rfl) Try.underlying25 rfl (by kernel_rfl)) rfl (dr_some HN.out HM.out (by simp [Cpu.op]) rfl ?_)
  exact (ke2 K8.out k9 (by omega)).non

set_option maxRecDepth 100000 in
set_option maxHeartbeats 8000000 in
theorem refdo_B0 (c : Cpu) (v : Bool) (a bb cc im off cond nn : Int) (w : World) (hk : c.Ok) (ha : 0 ≤ a ∧ a < 16) (hb : 0 ≤ bb ∧ bb < 16) (hc : 0 ≤ cc ∧ cc < 16) (him : 0 ≤ im ∧ im < 65536) : Calls Try.prog 30 #[c.val, (Ins.mk 0 false v a bb cc 0 im off cond nn).val] w (DoR c (Ins.mk 0 false v a bb cc 0 im off cond nn) w) := by
  have HNB := Lib.hid (c.num_bd (Ins.mk 0 false v a bb cc 0 im off cond nn) hk)
  obtain ⟨n, hn⟩ : ∃ n, n = c.num (Ins.mk 0 false v a bb cc 0 im off cond nn) := ⟨_, rfl⟩
  rw [← hn] at HNB
  have HN := Lib.hid hn
  obtain ⟨jb, rfl⟩ := Int.eq_ofNat_of_zero_le hb.1
  have hj : jb < 16 := by omega
  obtain ⟨m, hm⟩ : ∃ m, m = c.r jb := ⟨_, rfl⟩
  have HM : Hid (m = c.r (Ins.b (Ins.mk 0 false v a jb cc 0 im off cond nn)).toNat) := hm
  have HMB : Hid (0 ≤ m ∧ m < 4294967296) := by rw [hm]; exact hk.r jb
  have hreg := reg_cell c w jb hj hm
  have HREG := Lib.hid hreg
  have HA := Lib.hid ha
  clear hm hreg
  have H0 := (Sep.nil w).alloc3 c.cells (Ins.cells (Ins.mk 0 false v a jb cc 0 im off cond nn)) Cpu.zero.cells 25 35 25
  have B0 := Lib.hid (bel3 w (.cells c.cells 25) (.cells (Ins.cells (Ins.mk 0 false v a jb cc 0 im off cond nn)) 35) (.cells Cpu.zero.cells 25))
  obtain ⟨z, hz⟩ : ∃ z, z = (Ins.mk 0 false v a jb cc 0 im off cond nn).value := ⟨_, rfl⟩
  have HV := Lib.hid hz.symm
  clear hz
  obtain ⟨jc, rfl⟩ := Int.eq_ofNat_of_zero_le hc.1
  have hjc : jc < 16 := by omega
  have HRC := Lib.hid (reg_cell c w jc hjc (m := n) (by have e := HN.out; simp only [Cpu.num] at e; simpa using e))
  clear hn
  go_enter Try.func30, Try.ntmps30
  go_wp2_with (refine load_sep rfl 35 (.tmp 3) rfl H0 1 rfl rfl Try.underlying35 rfl (by kernel_rfl) ?_)
  refine (refvalue_walk (Ins.mk 0 false v a jb jc 0 im off cond nn) _ him).mono ?_
  rw [HV.out]
  rintro e w1 ⟨rfl, hb1⟩
  have H1 := H0.bel hb1
  have B1 := Lib.hid (bel_then B0.out hb1)
  have f0 : w1.cell? ⟨w.heap.size + 1, 0, none⟩ = some (.int .i64 0) := cell_of H1 1 rfl 0 rfl
  have f1 : w1.cell? ⟨w.heap.size + 1, 1, none⟩ = some (.bool false) := cell_of H1 1 rfl 1 rfl
  have f3 : w1.cell? ⟨w.heap.size + 1, 3, none⟩ = some (.int .i64 a) := cell_of H1 1 rfl 3 rfl
  have f4 : w1.cell? ⟨w.heap.size + 1, 4, none⟩ = some (.int .i64 ((jb : Nat) : Int)) := cell_of H1 1 rfl 4 rfl
  have f5 : w1.cell? ⟨w.heap.size + 1, 5, none⟩ = some (.int .i64 ((jc : Nat) : Int)) := cell_of H1 1 rfl 5 rfl
  have f6 : w1.cell? ⟨w.heap.size + 1, 6, none⟩ = some (.int .i64 0) := cell_of H1 1 rfl 6 rfl
  have g7 : w1.cell? ⟨w.heap.size, jb, none⟩ = some (.int .u32 m) := cell_of H1 2 rfl jb HREG.out
  have g19 : w1.cell? ⟨w.heap.size, 19, none⟩ = some (.bool c.c) := cell_of H1 2 rfl 19 rfl
  have g8 : w1.cell? ⟨w.heap.size, jc, none⟩ = some (.int .u32 n) := cell_of H1 2 rfl jc HRC.out
  clear hb1 H0
  go_wp2_with (refine load_sep rfl 25 (.tmp 2) rfl H1 2 rfl rfl Try.underlying25 rfl (by kernel_rfl) ?_)
  refine (refset_walk c a _ _ HA.out (by first | exact HNB.out | exact HX.out)).mono ?_
  rintro e w8 ⟨rfl, hb8⟩
  have H8 := H1.bel hb8
  have K8 := Lib.hid ((Ke.below Non B1.out).trans (Ke.below Non hb8))
  clear hb8
  go_wp2_with (refine store_sep rfl 25 (.tmp 4) (.tmp 60) rfl H8 0 rfl rfl rfl (by kernel_rfl) rfl ?_ ?_; rfl; intro w9 H9 k9 s9)
  refine bodyPost_ret (res_cell_tmp rfl rfl (H9.at 0 rfl) Try.underlying25 rfl (by kernel_rfl)) rfl (dr_some HN.out HM.out (by simp [Cpu.op]) rfl ?_)
  exact (ke2 K8.out k9 (by omega)).non

set_option maxRecDepth 100000 in
set_option maxHeartbeats 8000000 in
theorem refdo_C0 (c : Cpu) (v : Bool) (a bb im off cond nn : Int) (w : World) (hk : c.Ok) (ha : 0 ≤ a ∧ a < 16) (hb : 0 ≤ bb ∧ bb < 16) (him : 0 ≤ im ∧ im < 65536) : Calls Try.prog 30 #[c.val, (Ins.mk 0 true v a bb 0 0 im off cond nn).val] w (DoR c (Ins.mk 0 true v a bb 0 0 im off cond nn) w) := by
  have HNB := Lib.hid (c.num_bd (Ins.mk 0 true v a bb 0 0 im off cond nn) hk)
  obtain ⟨n, hn⟩ : ∃ n, n = c.num (Ins.mk 0 true v a bb 0 0 im off cond nn) := ⟨_, rfl⟩
  rw [← hn] at HNB
  have HN := Lib.hid hn
  obtain ⟨jb, rfl⟩ := Int.eq_ofNat_of_zero_le hb.1
  have hj : jb < 16 := by omega
  obtain ⟨m, hm⟩ : ∃ m, m = c.r jb := ⟨_, rfl⟩
  have HM : Hid (m = c.r (Ins.b (Ins.mk 0 true v a jb 0 0 im off cond nn)).toNat) := hm
  have HMB : Hid (0 ≤ m ∧ m < 4294967296) := by rw [hm]; exact hk.r jb
  have hreg := reg_cell c w jb hj hm
  have HREG := Lib.hid hreg
  have HA := Lib.hid ha
  clear hm hreg
  have H0 := (Sep.nil w).alloc3 c.cells (Ins.cells (Ins.mk 0 true v a jb 0 0 im off cond nn)) Cpu.zero.cells 25 35 25
  have B0 := Lib.hid (bel3 w (.cells c.cells 25) (.cells (Ins.cells (Ins.mk 0 true v a jb 0 0 im off cond nn)) 35) (.cells Cpu.zero.cells 25))
  obtain ⟨z, hz⟩ : ∃ z, z = (Ins.mk 0 true v a jb 0 0 im off cond nn).value := ⟨_, rfl⟩
  have HV := Lib.hid hz.symm
  clear hz
  have HRC := Lib.hid (show c.cells[16]? = some (.int .u32 n) from by have e := HN.out; simp only [Cpu.num] at e; rw [show n = c.h from by simpa using e]; rfl)
  clear hn
  go_enter Try.func30, Try.ntmps30
  go_wp2_with (refine load_sep rfl 35 (.tmp 3) rfl H0 1 rfl rfl Try.underlying35 rfl (by kernel_rfl) ?_)
  refine (refvalue_walk (Ins.mk 0 true v a jb 0 0 im off cond nn) _ him).mono ?_
  rw [HV.out]
  rintro e w1 ⟨rfl, hb1⟩
  have H1 := H0.bel hb1
  have B1 := Lib.hid (bel_then B0.out hb1)
  have f0 : w1.cell? ⟨w.heap.size + 1, 0, none⟩ = some (.int .i64 0) := cell_of H1 1 rfl 0 rfl
  have f1 : w1.cell? ⟨w.heap.size + 1, 1, none⟩ = some (.bool true) := cell_of H1 1 rfl 1 rfl
  have f3 : w1.cell? ⟨w.heap.size + 1, 3, none⟩ = some (.int .i64 a) := cell_of H1 1 rfl 3 rfl
  have f4 : w1.cell? ⟨w.heap.size + 1, 4, none⟩ = some (.int .i64 ((jb : Nat) : Int)) := cell_of H1 1 rfl 4 rfl
  have f5 : w1.cell? ⟨w.heap.size + 1, 5, none⟩ = some (.int .i64 0) := cell_of H1 1 rfl 5 rfl
  have f6 : w1.cell? ⟨w.heap.size + 1, 6, none⟩ = some (.int .i64 0) := cell_of H1 1 rfl 6 rfl
  have g7 : w1.cell? ⟨w.heap.size, jb, none⟩ = some (.int .u32 m) := cell_of H1 2 rfl jb HREG.out
  have g19 : w1.cell? ⟨w.heap.size, 19, none⟩ = some (.bool c.c) := cell_of H1 2 rfl 19 rfl
  have g8 : w1.cell? ⟨w.heap.size, 16, none⟩ = some (.int .u32 n) := cell_of H1 2 rfl 16 HRC.out
  clear hb1 H0
  have g9 : w1.cell? ⟨w.heap.size, 0, none⟩ = some (.int .u32 (c.r 0)) := cell_of H1 2 rfl 0 rfl
  go_wp2_with (refine load_sep rfl 25 (.tmp 2) rfl H1 2 rfl rfl Try.underlying25 rfl (by kernel_rfl) ?_)
  refine (refset_walk c a _ _ HA.out (by first | exact HNB.out | exact HX.out)).mono ?_
  rintro e w8 ⟨rfl, hb8⟩
  have H8 := H1.bel hb8
  have K8 := Lib.hid ((Ke.below Non B1.out).trans (Ke.below Non hb8))
  clear hb8
  go_wp2_with (refine store_sep rfl 25 (.tmp 4) (.tmp 60) rfl H8 0 rfl rfl rfl (by kernel_rfl) rfl ?_ ?_; rfl; intro w9 H9 k9 s9)
  refine bodyPost_ret (res_cell_tmp rfl rfl (H9.at 0 rfl) Try.underlying25 rfl (by kernel_rfl)) rfl (dr_some HN.out HM.out (by simp [Cpu.op]) rfl ?_)
  exact (ke2 K8.out k9 (by omega)).non

set_option maxRecDepth 100000 in
set_option maxHeartbeats 8000000 in
theorem refdo_D0 (c : Cpu) (v : Bool) (a bb im off cond nn : Int) (w : World) (hk : c.Ok) (ha : 0 ≤ a ∧ a < 16) (hb : 0 ≤ bb ∧ bb < 16) (him : 0 ≤ im ∧ im < 65536) : Calls Try.prog 30 #[c.val, (Ins.mk 0 true v a bb 1 0 im off cond nn).val] w (DoR c (Ins.mk 0 true v a bb 1 0 im off cond nn) w) := by
  have HNB := Lib.hid (c.num_bd (Ins.mk 0 true v a bb 1 0 im off cond nn) hk)
  obtain ⟨n, hn⟩ : ∃ n, n = c.num (Ins.mk 0 true v a bb 1 0 im off cond nn) := ⟨_, rfl⟩
  rw [← hn] at HNB
  have HN := Lib.hid hn
  obtain ⟨jb, rfl⟩ := Int.eq_ofNat_of_zero_le hb.1
  have hj : jb < 16 := by omega
  obtain ⟨m, hm⟩ : ∃ m, m = c.r jb := ⟨_, rfl⟩
  have HM : Hid (m = c.r (Ins.b (Ins.mk 0 true v a jb 1 0 im off cond nn)).toNat) := hm
  have HMB : Hid (0 ≤ m ∧ m < 4294967296) := by rw [hm]; exact hk.r jb
  have hreg := reg_cell c w jb hj hm
  have HREG := Lib.hid hreg
  have HA := Lib.hid ha
  clear hm hreg
  have H0 := (Sep.nil w).alloc3 c.cells (Ins.cells (Ins.mk 0 true v a jb 1 0 im off cond nn)) Cpu.zero.cells 25 35 25
  have B0 := Lib.hid (bel3 w (.cells c.cells 25) (.cells (Ins.cells (Ins.mk 0 true v a jb 1 0 im off cond nn)) 35) (.cells Cpu.zero.cells 25))
  obtain ⟨z, hz⟩ : ∃ z, z = (Ins.mk 0 true v a jb 1 0 im off cond nn).value := ⟨_, rfl⟩
  have HV := Lib.hid hz.symm
  clear hz
  have HFL := Lib.hid (show c.flags = n from by have e := HN.out; simp only [Cpu.num] at e; simpa using e.symm)
  clear hn
  go_enter Try.func30, Try.ntmps30
  go_wp2_with (refine load_sep rfl 35 (.tmp 3) rfl H0 1 rfl rfl Try.underlying35 rfl (by kernel_rfl) ?_)
  refine (refvalue_walk (Ins.mk 0 true v a jb 1 0 im off cond nn) _ him).mono ?_
  rw [HV.out]
  rintro e w1 ⟨rfl, hb1⟩
  have H1 := H0.bel hb1
  have B1 := Lib.hid (bel_then B0.out hb1)
  have f0 : w1.cell? ⟨w.heap.size + 1, 0, none⟩ = some (.int .i64 0) := cell_of H1 1 rfl 0 rfl
  have f1 : w1.cell? ⟨w.heap.size + 1, 1, none⟩ = some (.bool true) := cell_of H1 1 rfl 1 rfl
  have f3 : w1.cell? ⟨w.heap.size + 1, 3, none⟩ = some (.int .i64 a) := cell_of H1 1 rfl 3 rfl
  have f4 : w1.cell? ⟨w.heap.size + 1, 4, none⟩ = some (.int .i64 ((jb : Nat) : Int)) := cell_of H1 1 rfl 4 rfl
  have f5 : w1.cell? ⟨w.heap.size + 1, 5, none⟩ = some (.int .i64 1) := cell_of H1 1 rfl 5 rfl
  have f6 : w1.cell? ⟨w.heap.size + 1, 6, none⟩ = some (.int .i64 0) := cell_of H1 1 rfl 6 rfl
  have g7 : w1.cell? ⟨w.heap.size, jb, none⟩ = some (.int .u32 m) := cell_of H1 2 rfl jb HREG.out
  have g19 : w1.cell? ⟨w.heap.size, 19, none⟩ = some (.bool c.c) := cell_of H1 2 rfl 19 rfl
  clear hb1 H0
  have g9 : w1.cell? ⟨w.heap.size, 1, none⟩ = some (.int .u32 (c.r 1)) := cell_of H1 2 rfl 1 rfl
  have g16 : w1.cell? ⟨w.heap.size, 16, none⟩ = some (.int .u32 c.h) := cell_of H1 2 rfl 16 rfl
  go_wp2_with (refine load_sep rfl 25 (.tmp 2) rfl H1 2 rfl rfl Try.underlying25 rfl (by kernel_rfl) ?_)
  refine (refflags_walk c _).mono ?_
  rw [HFL.out]
  rintro e w2 ⟨rfl, hb2⟩
  have H2 := H1.bel hb2
  have B2 := Lib.hid (bel_then B1.out hb2)
  have e0 : w2.cell? ⟨w.heap.size + 1, 0, none⟩ = some (.int .i64 0) := cell_of H2 1 rfl 0 rfl
  have e1 : w2.cell? ⟨w.heap.size + 1, 1, none⟩ = some (.bool true) := cell_of H2 1 rfl 1 rfl
  have e3 : w2.cell? ⟨w.heap.size + 1, 3, none⟩ = some (.int .i64 a) := cell_of H2 1 rfl 3 rfl
  have e4 : w2.cell? ⟨w.heap.size + 1, 4, none⟩ = some (.int .i64 ((jb : Nat) : Int)) := cell_of H2 1 rfl 4 rfl
  have e5 : w2.cell? ⟨w.heap.size + 1, 5, none⟩ = some (.int .i64 1) := cell_of H2 1 rfl 5 rfl
  have e6 : w2.cell? ⟨w.heap.size + 1, 6, none⟩ = some (.int .i64 0) := cell_of H2 1 rfl 6 rfl
  have r7 : w2.cell? ⟨w.heap.size, jb, none⟩ = some (.int .u32 m) := cell_of H2 2 rfl jb HREG.out
  have r19 : w2.cell? ⟨w.heap.size, 19, none⟩ = some (.bool c.c) := cell_of H2 2 rfl 19 rfl
  clear hb2
  go_wp2_with (refine load_sep rfl 25 (.tmp 2) rfl H2 2 rfl rfl Try.underlying25 rfl (by kernel_rfl) ?_)
  refine (refset_walk c a _ _ HA.out (by first | exact HNB.out | exact HX.out)).mono ?_
  rintro e w8 ⟨rfl, hb8⟩
  have H8 := H2.bel hb8
  have K8 := Lib.hid ((Ke.below Non B2.out).trans (Ke.below Non hb8))
  clear hb8
  go_wp2_with (refine store_sep rfl 25 (.tmp 4) (.tmp 60) rfl H8 0 rfl rfl rfl (by kernel_rfl) rfl ?_ ?_; rfl; intro w9 H9 k9 s9)
  refine bodyPost_ret (res_cell_tmp rfl rfl (H9.at 0 rfl) Try.underlying25 rfl (by kernel_rfl)) rfl (dr_some HN.out HM.out (by simp [Cpu.op]) rfl ?_)
  exact (ke2 K8.out k9 (by omega)).non

set_option maxRecDepth 100000 in
set_option maxHeartbeats 8000000 in
theorem refdo_A1 (c : Cpu) (u v : Bool) (a bb cc im off cond nn : Int) (w : World) (hk : c.Ok) (ha : 0 ≤ a ∧ a < 16) (hb : 0 ≤ bb ∧ bb < 16) (hc : 0 ≤ cc ∧ cc < 16) (him : 0 ≤ im ∧ im < 65536) : Calls Try.prog 30 #[c.val, (Ins.mk 1 u v a bb cc 1 im off cond nn).val] w (DoR c (Ins.mk 1 u v a bb cc 1 im off cond nn) w) := by
  have HNB := Lib.hid (c.num_bd (Ins.mk 1 u v a bb cc 1 im off cond nn) hk)
  obtain ⟨n, hn⟩ : ∃ n, n = c.num (Ins.mk 1 u v a bb cc 1 im off cond nn) := ⟨_, rfl⟩
  rw [← hn] at HNB
  have HN := Lib.hid hn
  obtain ⟨jb, rfl⟩ := Int.eq_ofNat_of_zero_le hb.1
  have hj : jb < 16 := by omega
  obtain ⟨m, hm⟩ : ∃ m, m = c.r jb := ⟨_, rfl⟩
  have HM : Hid (m = c.r (Ins.b (Ins.mk 1 u v a jb cc 1 im off cond nn)).toNat) := hm
  have HMB : Hid (0 ≤ m ∧ m < 4294967296) := by rw [hm]; exact hk.r jb
  have hreg := reg_cell c w jb hj hm
  have HREG := Lib.hid hreg
  have HA := Lib.hid ha
  clear hm hreg
  have H0 := (Sep.nil w).alloc3 c.cells (Ins.cells (Ins.mk 1 u v a jb cc 1 im off cond nn)) Cpu.zero.cells 25 35 25
  have B0 := Lib.hid (bel3 w (.cells c.cells 25) (.cells (Ins.cells (Ins.mk 1 u v a jb cc 1 im off cond nn)) 35) (.cells Cpu.zero.cells 25))
  have HV := Lib.hid (show (Ins.mk 1 u v a jb cc 1 im off cond nn).value = n from hn.symm)
  clear hn
  go_enter Try.func30, Try.ntmps30
  go_wp2_with (refine load_sep rfl 35 (.tmp 3) rfl H0 1 rfl rfl Try.underlying35 rfl (by kernel_rfl) ?_)
  refine (refvalue_walk (Ins.mk 1 u v a jb cc 1 im off cond nn) _ him).mono ?_
  rw [HV.out]
  rintro e w1 ⟨rfl, hb1⟩
  have H1 := H0.bel hb1
  have B1 := Lib.hid (bel_then B0.out hb1)
  have f0 : w1.cell? ⟨w.heap.size + 1, 0, none⟩ = some (.int .i64 1) := cell_of H1 1 rfl 0 rfl
  have f1 : w1.cell? ⟨w.heap.size + 1, 1, none⟩ = some (.bool u) := cell_of H1 1 rfl 1 rfl
  have f3 : w1.cell? ⟨w.heap.size + 1, 3, none⟩ = some (.int .i64 a) := cell_of H1 1 rfl 3 rfl
  have f4 : w1.cell? ⟨w.heap.size + 1, 4, none⟩ = some (.int .i64 ((jb : Nat) : Int)) := cell_of H1 1 rfl 4 rfl
  have f5 : w1.cell? ⟨w.heap.size + 1, 5, none⟩ = some (.int .i64 cc) := cell_of H1 1 rfl 5 rfl
  have f6 : w1.cell? ⟨w.heap.size + 1, 6, none⟩ = some (.int .i64 1) := cell_of H1 1 rfl 6 rfl
  have g7 : w1.cell? ⟨w.heap.size, jb, none⟩ = some (.int .u32 m) := cell_of H1 2 rfl jb HREG.out
  have g19 : w1.cell? ⟨w.heap.size, 19, none⟩ = some (.bool c.c) := cell_of H1 2 rfl 19 rfl
  clear hb1 H0
  have HX : Hid (0 ≤ W.shl m (n % 32).toNat ∧ W.shl m (n % 32).toNat < 4294967296) := by unfold Hid W.shl; omega
  go_wp2_with fail
  refine wp_region_mixK (· = w.heap.size + 2) [([1, 2, 3, 4, 0], 5), ([], 6), ([], 7)] [8] (by kernel_rfl) (by kernel_rfl) (fun _ _ d _ _ h => by cases d <;> exact h) ?_
  intro w5 hb5
  have H5 := H1.bel hb5
  have K5 := Lib.hid ((Ke.below Non B1.out).trans (Ke.below Non hb5))
  clear hb5
  have n0 : ¬ (w.heap.size = w.heap.size + 2) := by omega
  have n1 : ¬ (w.heap.size + 1 = w.heap.size + 2) := by omega
  have q1 := fun x => ((H5.at 2 rfl).later (G := (· = w.heap.size + 2)) n0 x).loads (P := Try.prog) Try.underlying25 rfl (by kernel_rfl)
  have q2 := (H5.at 1 rfl).laterCell (G := (· = w.heap.size + 2)) n1 3 (v := .int .i64 a) rfl
  have q3 := (H5.at 1 rfl).laterCell (G := (· = w.heap.size + 2)) n1 6 (v := .int .i64 1) rfl
  refine mixK_step ?_
  simp only [pickOps, nth]
  (repeat (go_big_quiet_step (fail)))
  go_big_quiet_want
  refine quiet_row 25 (.tmp 2) rfl rfl q1 ?_
  go_big_quiet_on
  refine wpQuiet_nil ?_
  clear q1 q2 q3
  go_wp2_with fail
  refine (ref_left m n _ HMB.out HNB.out).mono ?_
  rintro e w6 ⟨rfl, rfl⟩
  go_wp2_with fail
  refine ⟨Ke.refl _ _, mixK_step ?_⟩
  simp only [pickOps, nth]
  refine wpQuiet_nil ?_
  go_wp2_with fail
  refine (refset_walk c a _ _ HA.out HX.out).mono ?_
  rintro e w8 ⟨rfl, hb8⟩
  have H8 := H5.bel hb8
  have K8 := Lib.hid (K5.out.trans (Ke.below Non hb8))
  have B8 := Lib.hid hb8
  clear hb8
  go_wp2_with fail
  refine ⟨Ke.below _ B8.out, mixK_step ?_⟩
  simp only [pickOps, nth]
  refine wpQuiet_nil ?_
  go_wp2_with (refine store_sep rfl 25 (.tmp 4) (.tmp 69) rfl H8 0 rfl rfl rfl (by kernel_rfl) rfl ?_ ?_; rfl; intro w9 H9 k9 s9)
  refine ⟨k9, mixK_end ?_⟩
  simp only [pickOps, nth]
  simp only [Act.put, List.setIfInBounds_toArray, List.set_cons_succ, List.set_cons_zero]
  haveI : Nonempty World := ⟨w⟩
  (repeat (go_big_quiet_step (fail)))
  refine wpQuiet_nil ?_
  go_wp2_with fail
  refine bodyPost_ret (res_cell_tmp rfl rfl (H9.at 0 rfl) Try.underlying25 rfl (by kernel_rfl)) rfl (dr_some HN.out HM.out (by simp [Cpu.op]) rfl ?_)
  exact (ke2 K8.out k9 (by omega)).non

set_option maxRecDepth 100000 in
set_option maxHeartbeats 8000000 in
theorem refdo_B1 (c : Cpu) (u v : Bool) (a bb cc im off cond nn : Int) (w : World) (hk : c.Ok) (ha : 0 ≤ a ∧ a < 16) (hb : 0 ≤ bb ∧ bb < 16) (hc : 0 ≤ cc ∧ cc < 16) (him : 0 ≤ im ∧ im < 65536) : Calls Try.prog 30 #[c.val, (Ins.mk 0 u v a bb cc 1 im off cond nn).val] w (DoR c (Ins.mk 0 u v a bb cc 1 im off cond nn) w) := by
  have HNB := Lib.hid (c.num_bd (Ins.mk 0 u v a bb cc 1 im off cond nn) hk)
  obtain ⟨n, hn⟩ : ∃ n, n = c.num (Ins.mk 0 u v a bb cc 1 im off cond nn) := ⟨_, rfl⟩
  rw [← hn] at HNB
  have HN := Lib.hid hn
  obtain ⟨jb, rfl⟩ := Int.eq_ofNat_of_zero_le hb.1
  have hj : jb < 16 := by omega
  obtain ⟨m, hm⟩ : ∃ m, m = c.r jb := ⟨_, rfl⟩
  have HM : Hid (m = c.r (Ins.b (Ins.mk 0 u v a jb cc 1 im off cond nn)).toNat) := hm
  have HMB : Hid (0 ≤ m ∧ m < 4294967296) := by rw [hm]; exact hk.r jb
  have hreg := reg_cell c w jb hj hm
  have HREG := Lib.hid hreg
  have HA := Lib.hid ha
  clear hm hreg
  have H0 := (Sep.nil w).alloc3 c.cells (Ins.cells (Ins.mk 0 u v a jb cc 1 im off cond nn)) Cpu.zero.cells 25 35 25
  have B0 := Lib.hid (bel3 w (.cells c.cells 25) (.cells (Ins.cells (Ins.mk 0 u v a jb cc 1 im off cond nn)) 35) (.cells Cpu.zero.cells 25))
  obtain ⟨z, hz⟩ : ∃ z, z = (Ins.mk 0 u v a jb cc 1 im off cond nn).value := ⟨_, rfl⟩
  have HV := Lib.hid hz.symm
  clear hz
  obtain ⟨jc, rfl⟩ := Int.eq_ofNat_of_zero_le hc.1
  have hjc : jc < 16 := by omega
  have HRC := Lib.hid (reg_cell c w jc hjc (m := n) (by have e := HN.out; simp only [Cpu.num] at e; simpa using e))
  clear hn
  go_enter Try.func30, Try.ntmps30
  go_wp2_with (refine load_sep rfl 35 (.tmp 3) rfl H0 1 rfl rfl Try.underlying35 rfl (by kernel_rfl) ?_)
  refine (refvalue_walk (Ins.mk 0 u v a jb jc 1 im off cond nn) _ him).mono ?_
  rw [HV.out]
  rintro e w1 ⟨rfl, hb1⟩
  have H1 := H0.bel hb1
  have B1 := Lib.hid (bel_then B0.out hb1)
  have f0 : w1.cell? ⟨w.heap.size + 1, 0, none⟩ = some (.int .i64 0) := cell_of H1 1 rfl 0 rfl
  have f1 : w1.cell? ⟨w.heap.size + 1, 1, none⟩ = some (.bool u) := cell_of H1 1 rfl 1 rfl
  have f3 : w1.cell? ⟨w.heap.size + 1, 3, none⟩ = some (.int .i64 a) := cell_of H1 1 rfl 3 rfl
  have f4 : w1.cell? ⟨w.heap.size + 1, 4, none⟩ = some (.int .i64 ((jb : Nat) : Int)) := cell_of H1 1 rfl 4 rfl
  have f5 : w1.cell? ⟨w.heap.size + 1, 5, none⟩ = some (.int .i64 ((jc : Nat) : Int)) := cell_of H1 1 rfl 5 rfl
  have f6 : w1.cell? ⟨w.heap.size + 1, 6, none⟩ = some (.int .i64 1) := cell_of H1 1 rfl 6 rfl
  have g7 : w1.cell? ⟨w.heap.size, jb, none⟩ = some (.int .u32 m) := cell_of H1 2 rfl jb HREG.out
  have g19 : w1.cell? ⟨w.heap.size, 19, none⟩ = some (.bool c.c) := cell_of H1 2 rfl 19 rfl
  have g8 : w1.cell? ⟨w.heap.size, jc, none⟩ = some (.int .u32 n) := cell_of H1 2 rfl jc HRC.out
  clear hb1 H0
  have HX : Hid (0 ≤ W.shl m (n % 32).toNat ∧ W.shl m (n % 32).toNat < 4294967296) := by unfold Hid W.shl; omega
  go_wp2_with fail
  refine wp_region_mixK (· = w.heap.size + 2) [([1, 2, 3, 4, 0], 5), ([], 6), ([], 7)] [8] (by kernel_rfl) (by kernel_rfl) (fun _ _ d _ _ h => by cases d <;> exact h) ?_
  intro w5 hb5
  have H5 := H1.bel hb5
  have K5 := Lib.hid ((Ke.below Non B1.out).trans (Ke.below Non hb5))
  clear hb5
  have n0 : ¬ (w.heap.size = w.heap.size + 2) := by omega
  have n1 : ¬ (w.heap.size + 1 = w.heap.size + 2) := by omega
  have q1 := fun x => ((H5.at 2 rfl).later (G := (· = w.heap.size + 2)) n0 x).loads (P := Try.prog) Try.underlying25 rfl (by kernel_rfl)
  have q2 := (H5.at 1 rfl).laterCell (G := (· = w.heap.size + 2)) n1 3 (v := .int .i64 a) rfl
  have q3 := (H5.at 1 rfl).laterCell (G := (· = w.heap.size + 2)) n1 6 (v := .int .i64 1) rfl
  refine mixK_step ?_
  simp only [pickOps, nth]
  (repeat (go_big_quiet_step (fail)))
  go_big_quiet_want
  refine quiet_row 25 (.tmp 2) rfl rfl q1 ?_
  go_big_quiet_on
  refine wpQuiet_nil ?_
  clear q1 q2 q3
  go_wp2_with fail
  refine (ref_left m n _ HMB.out HNB.out).mono ?_
  rintro e w6 ⟨rfl, rfl⟩
  go_wp2_with fail
  refine ⟨Ke.refl _ _, mixK_step ?_⟩
  simp only [pickOps, nth]
  refine wpQuiet_nil ?_
  go_wp2_with fail
  refine (refset_walk c a _ _ HA.out HX.out).mono ?_
  rintro e w8 ⟨rfl, hb8⟩
  have H8 := H5.bel hb8
  have K8 := Lib.hid (K5.out.trans (Ke.below Non hb8))
  have B8 := Lib.hid hb8
  clear hb8
  go_wp2_with fail
  refine ⟨Ke.below _ B8.out, mixK_step ?_⟩
  simp only [pickOps, nth]
  refine wpQuiet_nil ?_
  go_wp2_with (refine store_sep rfl 25 (.tmp 4) (.tmp 69) rfl H8 0 rfl rfl rfl (by kernel_rfl) rfl ?_ ?_; rfl; intro w9 H9 k9 s9)
  refine ⟨k9, mixK_end ?_⟩
  simp only [pickOps, nth]
  simp only [Act.put, List.setIfInBounds_toArray, List.set_cons_succ, List.set_cons_zero]
  haveI : Nonempty World := ⟨w⟩
  (repeat (go_big_quiet_step (fail)))
  refine wpQuiet_nil ?_
  go_wp2_with fail
  refine bodyPost_ret (res_cell_tmp rfl rfl (H9.at 0 rfl) Try.underlying25 rfl (by kernel_rfl)) rfl (dr_some HN.out HM.out (by simp [Cpu.op]) rfl ?_)
  exact (ke2 K8.out k9 (by omega)).non

set_option maxRecDepth 100000 in
set_option maxHeartbeats 8000000 in
theorem refdo_A2 (c : Cpu) (u v : Bool) (a bb cc im off cond nn : Int) (w : World) (hk : c.Ok) (ha : 0 ≤ a ∧ a < 16) (hb : 0 ≤ bb ∧ bb < 16) (hc : 0 ≤ cc ∧ cc < 16) (him : 0 ≤ im ∧ im < 65536) : Calls Try.prog 30 #[c.val, (Ins.mk 1 u v a bb cc 2 im off cond nn).val] w (DoR c (Ins.mk 1 u v a bb cc 2 im off cond nn) w) := by
  have HNB := Lib.hid (c.num_bd (Ins.mk 1 u v a bb cc 2 im off cond nn) hk)
  obtain ⟨n, hn⟩ : ∃ n, n = c.num (Ins.mk 1 u v a bb cc 2 im off cond nn) := ⟨_, rfl⟩
  rw [← hn] at HNB
  have HN := Lib.hid hn
  obtain ⟨jb, rfl⟩ := Int.eq_ofNat_of_zero_le hb.1
  have hj : jb < 16 := by omega
  obtain ⟨m, hm⟩ : ∃ m, m = c.r jb := ⟨_, rfl⟩
  have HM : Hid (m = c.r (Ins.b (Ins.mk 1 u v a jb cc 2 im off cond nn)).toNat) := hm
  have HMB : Hid (0 ≤ m ∧ m < 4294967296) := by rw [hm]; exact hk.r jb
  have hreg := reg_cell c w jb hj hm
  have HREG := Lib.hid hreg
  have HA := Lib.hid ha
  clear hm hreg
  have H0 := (Sep.nil w).alloc3 c.cells (Ins.cells (Ins.mk 1 u v a jb cc 2 im off cond nn)) Cpu.zero.cells 25 35 25
  have B0 := Lib.hid (bel3 w (.cells c.cells 25) (.cells (Ins.cells (Ins.mk 1 u v a jb cc 2 im off cond nn)) 35) (.cells Cpu.zero.cells 25))
  have HV := Lib.hid (show (Ins.mk 1 u v a jb cc 2 im off cond nn).value = n from hn.symm)
  clear hn
  go_enter Try.func30, Try.ntmps30
  go_wp2_with (refine load_sep rfl 35 (.tmp 3) rfl H0 1 rfl rfl Try.underlying35 rfl (by kernel_rfl) ?_)
  refine (refvalue_walk (Ins.mk 1 u v a jb cc 2 im off cond nn) _ him).mono ?_
  rw [HV.out]
  rintro e w1 ⟨rfl, hb1⟩
  have H1 := H0.bel hb1
  have B1 := Lib.hid (bel_then B0.out hb1)
  have f0 : w1.cell? ⟨w.heap.size + 1, 0, none⟩ = some (.int .i64 1) := cell_of H1 1 rfl 0 rfl
  have f1 : w1.cell? ⟨w.heap.size + 1, 1, none⟩ = some (.bool u) := cell_of H1 1 rfl 1 rfl
  have f3 : w1.cell? ⟨w.heap.size + 1, 3, none⟩ = some (.int .i64 a) := cell_of H1 1 rfl 3 rfl
  have f4 : w1.cell? ⟨w.heap.size + 1, 4, none⟩ = some (.int .i64 ((jb : Nat) : Int)) := cell_of H1 1 rfl 4 rfl
  have f5 : w1.cell? ⟨w.heap.size + 1, 5, none⟩ = some (.int .i64 cc) := cell_of H1 1 rfl 5 rfl
  have f6 : w1.cell? ⟨w.heap.size + 1, 6, none⟩ = some (.int .i64 2) := cell_of H1 1 rfl 6 rfl
  have g7 : w1.cell? ⟨w.heap.size, jb, none⟩ = some (.int .u32 m) := cell_of H1 2 rfl jb HREG.out
  have g19 : w1.cell? ⟨w.heap.size, 19, none⟩ = some (.bool c.c) := cell_of H1 2 rfl 19 rfl
  clear hb1 H0
  have HX : Hid (0 ≤ W.sar m (n % 32).toNat ∧ W.sar m (n % 32).toNat < 4294967296) := ⟨W.wd_lo _, W.wd_hi _⟩
  go_wp2_with fail
  refine wp_region_mixK (· = w.heap.size + 2) [([1, 2, 3, 4, 0], 5), ([], 6), ([], 7)] [8] (by kernel_rfl) (by kernel_rfl) (fun _ _ d _ _ h => by cases d <;> exact h) ?_
  intro w5 hb5
  have H5 := H1.bel hb5
  have K5 := Lib.hid ((Ke.below Non B1.out).trans (Ke.below Non hb5))
  clear hb5
  have n0 : ¬ (w.heap.size = w.heap.size + 2) := by omega
  have n1 : ¬ (w.heap.size + 1 = w.heap.size + 2) := by omega
  have q1 := fun x => ((H5.at 2 rfl).later (G := (· = w.heap.size + 2)) n0 x).loads (P := Try.prog) Try.underlying25 rfl (by kernel_rfl)
  have q2 := (H5.at 1 rfl).laterCell (G := (· = w.heap.size + 2)) n1 3 (v := .int .i64 a) rfl
  have q3 := (H5.at 1 rfl).laterCell (G := (· = w.heap.size + 2)) n1 6 (v := .int .i64 2) rfl
  refine mixK_step ?_
  simp only [pickOps, nth]
  (repeat (go_big_quiet_step (fail)))
  go_big_quiet_want
  refine quiet_row 25 (.tmp 2) rfl rfl q1 ?_
  go_big_quiet_on
  refine wpQuiet_nil ?_
  clear q1 q2 q3
  go_wp2_with fail
  refine (ref_right m n _ HMB.out HNB.out).mono ?_
  rintro e w6 ⟨rfl, rfl⟩
  go_wp2_with fail
  refine ⟨Ke.refl _ _, mixK_step ?_⟩
  simp only [pickOps, nth]
  refine wpQuiet_nil ?_
  go_wp2_with fail
  refine (refset_walk c a _ _ HA.out HX.out).mono ?_
  rintro e w8 ⟨rfl, hb8⟩
  have H8 := H5.bel hb8
  have K8 := Lib.hid (K5.out.trans (Ke.below Non hb8))
  have B8 := Lib.hid hb8
  clear hb8
  go_wp2_with fail
  refine ⟨Ke.below _ B8.out, mixK_step ?_⟩
  simp only [pickOps, nth]
  refine wpQuiet_nil ?_
  go_wp2_with (refine store_sep rfl 25 (.tmp 4) (.tmp 78) rfl H8 0 rfl rfl rfl (by kernel_rfl) rfl ?_ ?_; rfl; intro w9 H9 k9 s9)
  refine ⟨k9, mixK_end ?_⟩
  simp only [pickOps, nth]
  simp only [Act.put, List.setIfInBounds_toArray, List.set_cons_succ, List.set_cons_zero]
  haveI : Nonempty World := ⟨w⟩
  (repeat (go_big_quiet_step (fail)))
  refine wpQuiet_nil ?_
  go_wp2_with fail
  refine bodyPost_ret (res_cell_tmp rfl rfl (H9.at 0 rfl) Try.underlying25 rfl (by kernel_rfl)) rfl (dr_some HN.out HM.out (by simp [Cpu.op]) rfl ?_)
  exact (ke2 K8.out k9 (by omega)).non

set_option maxRecDepth 100000 in
set_option maxHeartbeats 8000000 in
theorem refdo_B2 (c : Cpu) (u v : Bool) (a bb cc im off cond nn : Int) (w : World) (hk : c.Ok) (ha : 0 ≤ a ∧ a < 16) (hb : 0 ≤ bb ∧ bb < 16) (hc : 0 ≤ cc ∧ cc < 16) (him : 0 ≤ im ∧ im < 65536) : Calls Try.prog 30 #[c.val, (Ins.mk 0 u v a bb cc 2 im off cond nn).val] w (DoR c (Ins.mk 0 u v a bb cc 2 im off cond nn) w) := by
  have HNB := Lib.hid (c.num_bd (Ins.mk 0 u v a bb cc 2 im off cond nn) hk)
  obtain ⟨n, hn⟩ : ∃ n, n = c.num (Ins.mk 0 u v a bb cc 2 im off cond nn) := ⟨_, rfl⟩
  rw [← hn] at HNB
  have HN := Lib.hid hn
  obtain ⟨jb, rfl⟩ := Int.eq_ofNat_of_zero_le hb.1
  have hj : jb < 16 := by omega
  obtain ⟨m, hm⟩ : ∃ m, m = c.r jb := ⟨_, rfl⟩
  have HM : Hid (m = c.r (Ins.b (Ins.mk 0 u v a jb cc 2 im off cond nn)).toNat) := hm
  have HMB : Hid (0 ≤ m ∧ m < 4294967296) := by rw [hm]; exact hk.r jb
  have hreg := reg_cell c w jb hj hm
  have HREG := Lib.hid hreg
  have HA := Lib.hid ha
  clear hm hreg
  have H0 := (Sep.nil w).alloc3 c.cells (Ins.cells (Ins.mk 0 u v a jb cc 2 im off cond nn)) Cpu.zero.cells 25 35 25
  have B0 := Lib.hid (bel3 w (.cells c.cells 25) (.cells (Ins.cells (Ins.mk 0 u v a jb cc 2 im off cond nn)) 35) (.cells Cpu.zero.cells 25))
  obtain ⟨z, hz⟩ : ∃ z, z = (Ins.mk 0 u v a jb cc 2 im off cond nn).value := ⟨_, rfl⟩
  have HV := Lib.hid hz.symm
  clear hz
  obtain ⟨jc, rfl⟩ := Int.eq_ofNat_of_zero_le hc.1
  have hjc : jc < 16 := by omega
  have HRC := Lib.hid (reg_cell c w jc hjc (m := n) (by have e := HN.out; simp only [Cpu.num] at e; simpa using e))
  clear hn
  go_enter Try.func30, Try.ntmps30
  go_wp2_with (refine load_sep rfl 35 (.tmp 3) rfl H0 1 rfl rfl Try.underlying35 rfl (by kernel_rfl) ?_)
  refine (refvalue_walk (Ins.mk 0 u v a jb jc 2 im off cond nn) _ him).mono ?_
  rw [HV.out]
  rintro e w1 ⟨rfl, hb1⟩
  have H1 := H0.bel hb1
  have B1 := Lib.hid (bel_then B0.out hb1)
  have f0 : w1.cell? ⟨w.heap.size + 1, 0, none⟩ = some (.int .i64 0) := cell_of H1 1 rfl 0 rfl
  have f1 : w1.cell? ⟨w.heap.size + 1, 1, none⟩ = some (.bool u) := cell_of H1 1 rfl 1 rfl
  have f3 : w1.cell? ⟨w.heap.size + 1, 3, none⟩ = some (.int .i64 a) := cell_of H1 1 rfl 3 rfl
  have f4 : w1.cell? ⟨w.heap.size + 1, 4, none⟩ = some (.int .i64 ((jb : Nat) : Int)) := cell_of H1 1 rfl 4 rfl
  have f5 : w1.cell? ⟨w.heap.size + 1, 5, none⟩ = some (.int .i64 ((jc : Nat) : Int)) := cell_of H1 1 rfl 5 rfl
  have f6 : w1.cell? ⟨w.heap.size + 1, 6, none⟩ = some (.int .i64 2) := cell_of H1 1 rfl 6 rfl
  have g7 : w1.cell? ⟨w.heap.size, jb, none⟩ = some (.int .u32 m) := cell_of H1 2 rfl jb HREG.out
  have g19 : w1.cell? ⟨w.heap.size, 19, none⟩ = some (.bool c.c) := cell_of H1 2 rfl 19 rfl
  have g8 : w1.cell? ⟨w.heap.size, jc, none⟩ = some (.int .u32 n) := cell_of H1 2 rfl jc HRC.out
  clear hb1 H0
  have HX : Hid (0 ≤ W.sar m (n % 32).toNat ∧ W.sar m (n % 32).toNat < 4294967296) := ⟨W.wd_lo _, W.wd_hi _⟩
  go_wp2_with fail
  refine wp_region_mixK (· = w.heap.size + 2) [([1, 2, 3, 4, 0], 5), ([], 6), ([], 7)] [8] (by kernel_rfl) (by kernel_rfl) (fun _ _ d _ _ h => by cases d <;> exact h) ?_
  intro w5 hb5
  have H5 := H1.bel hb5
  have K5 := Lib.hid ((Ke.below Non B1.out).trans (Ke.below Non hb5))
  clear hb5
  have n0 : ¬ (w.heap.size = w.heap.size + 2) := by omega
  have n1 : ¬ (w.heap.size + 1 = w.heap.size + 2) := by omega
  have q1 := fun x => ((H5.at 2 rfl).later (G := (· = w.heap.size + 2)) n0 x).loads (P := Try.prog) Try.underlying25 rfl (by kernel_rfl)
  have q2 := (H5.at 1 rfl).laterCell (G := (· = w.heap.size + 2)) n1 3 (v := .int .i64 a) rfl
  have q3 := (H5.at 1 rfl).laterCell (G := (· = w.heap.size + 2)) n1 6 (v := .int .i64 2) rfl
  refine mixK_step ?_
  simp only [pickOps, nth]
  (repeat (go_big_quiet_step (fail)))
  go_big_quiet_want
  refine quiet_row 25 (.tmp 2) rfl rfl q1 ?_
  go_big_quiet_on
  refine wpQuiet_nil ?_
  clear q1 q2 q3
  go_wp2_with fail
  refine (ref_right m n _ HMB.out HNB.out).mono ?_
  rintro e w6 ⟨rfl, rfl⟩
  go_wp2_with fail
  refine ⟨Ke.refl _ _, mixK_step ?_⟩
  simp only [pickOps, nth]
  refine wpQuiet_nil ?_
  go_wp2_with fail
  refine (refset_walk c a _ _ HA.out HX.out).mono ?_
  rintro e w8 ⟨rfl, hb8⟩
  have H8 := H5.bel hb8
  have K8 := Lib.hid (K5.out.trans (Ke.below Non hb8))
  have B8 := Lib.hid hb8
  clear hb8
  go_wp2_with fail
  refine ⟨Ke.below _ B8.out, mixK_step ?_⟩
  simp only [pickOps, nth]
  refine wpQuiet_nil ?_
  go_wp2_with (refine store_sep rfl 25 (.tmp 4) (.tmp 78) rfl H8 0 rfl rfl rfl (by kernel_rfl) rfl ?_ ?_; rfl; intro w9 H9 k9 s9)
  refine ⟨k9, mixK_end ?_⟩
  simp only [pickOps, nth]
  simp only [Act.put, List.setIfInBounds_toArray, List.set_cons_succ, List.set_cons_zero]
  haveI : Nonempty World := ⟨w⟩
  (repeat (go_big_quiet_step (fail)))
  refine wpQuiet_nil ?_
  go_wp2_with fail
  refine bodyPost_ret (res_cell_tmp rfl rfl (H9.at 0 rfl) Try.underlying25 rfl (by kernel_rfl)) rfl (dr_some HN.out HM.out (by simp [Cpu.op]) rfl ?_)
  exact (ke2 K8.out k9 (by omega)).non

set_option maxRecDepth 100000 in
set_option maxHeartbeats 8000000 in
theorem refdo_A3 (c : Cpu) (u v : Bool) (a bb cc im off cond nn : Int) (w : World) (hk : c.Ok) (ha : 0 ≤ a ∧ a < 16) (hb : 0 ≤ bb ∧ bb < 16) (hc : 0 ≤ cc ∧ cc < 16) (him : 0 ≤ im ∧ im < 65536) : Calls Try.prog 30 #[c.val, (Ins.mk 1 u v a bb cc 3 im off cond nn).val] w (DoR c (Ins.mk 1 u v a bb cc 3 im off cond nn) w) := by
  have HNB := Lib.hid (c.num_bd (Ins.mk 1 u v a bb cc 3 im off cond nn) hk)
  obtain ⟨n, hn⟩ : ∃ n, n = c.num (Ins.mk 1 u v a bb cc 3 im off cond nn) := ⟨_, rfl⟩
  rw [← hn] at HNB
  have HN := Lib.hid hn
  obtain ⟨jb, rfl⟩ := Int.eq_ofNat_of_zero_le hb.1
  have hj : jb < 16 := by omega
  obtain ⟨m, hm⟩ : ∃ m, m = c.r jb := ⟨_, rfl⟩
  have HM : Hid (m = c.r (Ins.b (Ins.mk 1 u v a jb cc 3 im off cond nn)).toNat) := hm
  have HMB : Hid (0 ≤ m ∧ m < 4294967296) := by rw [hm]; exact hk.r jb
  have hreg := reg_cell c w jb hj hm
  have HREG := Lib.hid hreg
  have HA := Lib.hid ha
  clear hm hreg
  have H0 := (Sep.nil w).alloc3 c.cells (Ins.cells (Ins.mk 1 u v a jb cc 3 im off cond nn)) Cpu.zero.cells 25 35 25
  have B0 := Lib.hid (bel3 w (.cells c.cells 25) (.cells (Ins.cells (Ins.mk 1 u v a jb cc 3 im off cond nn)) 35) (.cells Cpu.zero.cells 25))
  have HV := Lib.hid (show (Ins.mk 1 u v a jb cc 3 im off cond nn).value = n from hn.symm)
  clear hn
  go_enter Try.func30, Try.ntmps30
  go_wp2_with (refine load_sep rfl 35 (.tmp 3) rfl H0 1 rfl rfl Try.underlying35 rfl (by kernel_rfl) ?_)
  refine (refvalue_walk (Ins.mk 1 u v a jb cc 3 im off cond nn) _ him).mono ?_
  rw [HV.out]
  rintro e w1 ⟨rfl, hb1⟩
  have H1 := H0.bel hb1
  have B1 := Lib.hid (bel_then B0.out hb1)
  have f0 : w1.cell? ⟨w.heap.size + 1, 0, none⟩ = some (.int .i64 1) := cell_of H1 1 rfl 0 rfl
  have f1 : w1.cell? ⟨w.heap.size + 1, 1, none⟩ = some (.bool u) := cell_of H1 1 rfl 1 rfl
  have f3 : w1.cell? ⟨w.heap.size + 1, 3, none⟩ = some (.int .i64 a) := cell_of H1 1 rfl 3 rfl
  have f4 : w1.cell? ⟨w.heap.size + 1, 4, none⟩ = some (.int .i64 ((jb : Nat) : Int)) := cell_of H1 1 rfl 4 rfl
  have f5 : w1.cell? ⟨w.heap.size + 1, 5, none⟩ = some (.int .i64 cc) := cell_of H1 1 rfl 5 rfl
  have f6 : w1.cell? ⟨w.heap.size + 1, 6, none⟩ = some (.int .i64 3) := cell_of H1 1 rfl 6 rfl
  have g7 : w1.cell? ⟨w.heap.size, jb, none⟩ = some (.int .u32 m) := cell_of H1 2 rfl jb HREG.out
  have g19 : w1.cell? ⟨w.heap.size, 19, none⟩ = some (.bool c.c) := cell_of H1 2 rfl 19 rfl
  clear hb1 H0
  have HX : Hid (0 ≤ W.turn m (n % 32).toNat ∧ W.turn m (n % 32).toNat < 4294967296) := W.turn_bd HMB.out.1 HMB.out.2 _ (by omega)
  go_wp2_with fail
  refine wp_region_mixK (· = w.heap.size + 2) [([1, 2, 3, 4, 0], 5), ([], 6), ([], 7)] [8] (by kernel_rfl) (by kernel_rfl) (fun _ _ d _ _ h => by cases d <;> exact h) ?_
  intro w5 hb5
  have H5 := H1.bel hb5
  have K5 := Lib.hid ((Ke.below Non B1.out).trans (Ke.below Non hb5))
  clear hb5
  have n0 : ¬ (w.heap.size = w.heap.size + 2) := by omega
  have n1 : ¬ (w.heap.size + 1 = w.heap.size + 2) := by omega
  have q1 := fun x => ((H5.at 2 rfl).later (G := (· = w.heap.size + 2)) n0 x).loads (P := Try.prog) Try.underlying25 rfl (by kernel_rfl)
  have q2 := (H5.at 1 rfl).laterCell (G := (· = w.heap.size + 2)) n1 3 (v := .int .i64 a) rfl
  have q3 := (H5.at 1 rfl).laterCell (G := (· = w.heap.size + 2)) n1 6 (v := .int .i64 3) rfl
  refine mixK_step ?_
  simp only [pickOps, nth]
  (repeat (go_big_quiet_step (fail)))
  go_big_quiet_want
  refine quiet_row 25 (.tmp 2) rfl rfl q1 ?_
  go_big_quiet_on
  refine wpQuiet_nil ?_
  clear q1 q2 q3
  go_wp2_with fail
  refine (ref_turn m n _ HMB.out HNB.out).mono ?_
  rintro e w6 ⟨rfl, rfl⟩
  go_wp2_with fail
  refine ⟨Ke.refl _ _, mixK_step ?_⟩
  simp only [pickOps, nth]
  refine wpQuiet_nil ?_
  go_wp2_with fail
  refine (refset_walk c a _ _ HA.out HX.out).mono ?_
  rintro e w8 ⟨rfl, hb8⟩
  have H8 := H5.bel hb8
  have K8 := Lib.hid (K5.out.trans (Ke.below Non hb8))
  have B8 := Lib.hid hb8
  clear hb8
  go_wp2_with fail
  refine ⟨Ke.below _ B8.out, mixK_step ?_⟩
  simp only [pickOps, nth]
  refine wpQuiet_nil ?_
  go_wp2_with (refine store_sep rfl 25 (.tmp 4) (.tmp 87) rfl H8 0 rfl rfl rfl (by kernel_rfl) rfl ?_ ?_; rfl; intro w9 H9 k9 s9)
  refine ⟨k9, mixK_end ?_⟩
  simp only [pickOps, nth]
  simp only [Act.put, List.setIfInBounds_toArray, List.set_cons_succ, List.set_cons_zero]
  haveI : Nonempty World := ⟨w⟩
  (repeat (go_big_quiet_step (fail)))
  refine wpQuiet_nil ?_
  go_wp2_with fail
  refine bodyPost_ret (res_cell_tmp rfl rfl (H9.at 0 rfl) Try.underlying25 rfl (by kernel_rfl)) rfl (dr_some HN.out HM.out (by simp [Cpu.op]) rfl ?_)
  exact (ke2 K8.out k9 (by omega)).non

set_option maxRecDepth 100000 in
set_option maxHeartbeats 8000000 in
theorem refdo_B3 (c : Cpu) (u v : Bool) (a bb cc im off cond nn : Int) (w : World) (hk : c.Ok) (ha : 0 ≤ a ∧ a < 16) (hb : 0 ≤ bb ∧ bb < 16) (hc : 0 ≤ cc ∧ cc < 16) (him : 0 ≤ im ∧ im < 65536) : Calls Try.prog 30 #[c.val, (Ins.mk 0 u v a bb cc 3 im off cond nn).val] w (DoR c (Ins.mk 0 u v a bb cc 3 im off cond nn) w) := by
  have HNB := Lib.hid (c.num_bd (Ins.mk 0 u v a bb cc 3 im off cond nn) hk)
  obtain ⟨n, hn⟩ : ∃ n, n = c.num (Ins.mk 0 u v a bb cc 3 im off cond nn) := ⟨_, rfl⟩
  rw [← hn] at HNB
  have HN := Lib.hid hn
  obtain ⟨jb, rfl⟩ := Int.eq_ofNat_of_zero_le hb.1
  have hj : jb < 16 := by omega
  obtain ⟨m, hm⟩ : ∃ m, m = c.r jb := ⟨_, rfl⟩
  have HM : Hid (m = c.r (Ins.b (Ins.mk 0 u v a jb cc 3 im off cond nn)).toNat) := hm
  have HMB : Hid (0 ≤ m ∧ m < 4294967296) := by rw [hm]; exact hk.r jb
  have hreg := reg_cell c w jb hj hm
  have HREG := Lib.hid hreg
  have HA := Lib.hid ha
  clear hm hreg
  have H0 := (Sep.nil w).alloc3 c.cells (Ins.cells (Ins.mk 0 u v a jb cc 3 im off cond nn)) Cpu.zero.cells 25 35 25
  have B0 := Lib.hid (bel3 w (.cells c.cells 25) (.cells (Ins.cells (Ins.mk 0 u v a jb cc 3 im off cond nn)) 35) (.cells Cpu.zero.cells 25))
  obtain ⟨z, hz⟩ : ∃ z, z = (Ins.mk 0 u v a jb cc 3 im off cond nn).value := ⟨_, rfl⟩
  have HV := Lib.hid hz.symm
  clear hz
  obtain ⟨jc, rfl⟩ := Int.eq_ofNat_of_zero_le hc.1
  have hjc : jc < 16 := by omega
  have HRC := Lib.hid (reg_cell c w jc hjc (m := n) (by have e := HN.out; simp only [Cpu.num] at e; simpa using e))
  clear hn
  go_enter Try.func30, Try.ntmps30
  go_wp2_with (refine load_sep rfl 35 (.tmp 3) rfl H0 1 rfl rfl Try.underlying35 rfl (by kernel_rfl) ?_)
  refine (refvalue_walk (Ins.mk 0 u v a jb jc 3 im off cond nn) _ him).mono ?_
  rw [HV.out]
  rintro e w1 ⟨rfl, hb1⟩
  have H1 := H0.bel hb1
  have B1 := Lib.hid (bel_then B0.out hb1)
  have f0 : w1.cell? ⟨w.heap.size + 1, 0, none⟩ = some (.int .i64 0) := cell_of H1 1 rfl 0 rfl
  have f1 : w1.cell? ⟨w.heap.size + 1, 1, none⟩ = some (.bool u) := cell_of H1 1 rfl 1 rfl
  have f3 : w1.cell? ⟨w.heap.size + 1, 3, none⟩ = some (.int .i64 a) := cell_of H1 1 rfl 3 rfl
  have f4 : w1.cell? ⟨w.heap.size + 1, 4, none⟩ = some (.int .i64 ((jb : Nat) : Int)) := cell_of H1 1 rfl 4 rfl
  have f5 : w1.cell? ⟨w.heap.size + 1, 5, none⟩ = some (.int .i64 ((jc : Nat) : Int)) := cell_of H1 1 rfl 5 rfl
  have f6 : w1.cell? ⟨w.heap.size + 1, 6, none⟩ = some (.int .i64 3) := cell_of H1 1 rfl 6 rfl
  have g7 : w1.cell? ⟨w.heap.size, jb, none⟩ = some (.int .u32 m) := cell_of H1 2 rfl jb HREG.out
  have g19 : w1.cell? ⟨w.heap.size, 19, none⟩ = some (.bool c.c) := cell_of H1 2 rfl 19 rfl
  have g8 : w1.cell? ⟨w.heap.size, jc, none⟩ = some (.int .u32 n) := cell_of H1 2 rfl jc HRC.out
  clear hb1 H0
  have HX : Hid (0 ≤ W.turn m (n % 32).toNat ∧ W.turn m (n % 32).toNat < 4294967296) := W.turn_bd HMB.out.1 HMB.out.2 _ (by omega)
  go_wp2_with fail
  refine wp_region_mixK (· = w.heap.size + 2) [([1, 2, 3, 4, 0], 5), ([], 6), ([], 7)] [8] (by kernel_rfl) (by kernel_rfl) (fun _ _ d _ _ h => by cases d <;> exact h) ?_
  intro w5 hb5
  have H5 := H1.bel hb5
  have K5 := Lib.hid ((Ke.below Non B1.out).trans (Ke.below Non hb5))
  clear hb5
  have n0 : ¬ (w.heap.size = w.heap.size + 2) := by omega
  have n1 : ¬ (w.heap.size + 1 = w.heap.size + 2) := by omega
  have q1 := fun x => ((H5.at 2 rfl).later (G := (· = w.heap.size + 2)) n0 x).loads (P := Try.prog) Try.underlying25 rfl (by kernel_rfl)
  have q2 := (H5.at 1 rfl).laterCell (G := (· = w.heap.size + 2)) n1 3 (v := .int .i64 a) rfl
  have q3 := (H5.at 1 rfl).laterCell (G := (· = w.heap.size + 2)) n1 6 (v := .int .i64 3) rfl
  refine mixK_step ?_
  simp only [pickOps, nth]
  (repeat (go_big_quiet_step (fail)))
  go_big_quiet_want
  refine quiet_row 25 (.tmp 2) rfl rfl q1 ?_
  go_big_quiet_on
  refine wpQuiet_nil ?_
  clear q1 q2 q3
  go_wp2_with fail
  refine (ref_turn m n _ HMB.out HNB.out).mono ?_
  rintro e w6 ⟨rfl, rfl⟩
  go_wp2_with fail
  refine ⟨Ke.refl _ _, mixK_step ?_⟩
  simp only [pickOps, nth]
  refine wpQuiet_nil ?_
  go_wp2_with fail
  refine (refset_walk c a _ _ HA.out HX.out).mono ?_
  rintro e w8 ⟨rfl, hb8⟩
  have H8 := H5.bel hb8
  have K8 := Lib.hid (K5.out.trans (Ke.below Non hb8))
  have B8 := Lib.hid hb8
  clear hb8
  go_wp2_with fail
  refine ⟨Ke.below _ B8.out, mixK_step ?_⟩
  simp only [pickOps, nth]
  refine wpQuiet_nil ?_
  go_wp2_with (refine store_sep rfl 25 (.tmp 4) (.tmp 87) rfl H8 0 rfl rfl rfl (by kernel_rfl) rfl ?_ ?_; rfl; intro w9 H9 k9 s9)
  refine ⟨k9, mixK_end ?_⟩
  simp only [pickOps, nth]
  simp only [Act.put, List.setIfInBounds_toArray, List.set_cons_succ, List.set_cons_zero]
  haveI : Nonempty World := ⟨w⟩
  (repeat (go_big_quiet_step (fail)))
  refine wpQuiet_nil ?_
  go_wp2_with fail
  refine bodyPost_ret (res_cell_tmp rfl rfl (H9.at 0 rfl) Try.underlying25 rfl (by kernel_rfl)) rfl (dr_some HN.out HM.out (by simp [Cpu.op]) rfl ?_)
  exact (ke2 K8.out k9 (by omega)).non

end Go.Proofs.Ytkeaogphaifnmaa
