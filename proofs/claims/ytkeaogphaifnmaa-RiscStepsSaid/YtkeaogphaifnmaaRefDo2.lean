/- The reference's Do: operations 8, 9, 10, 11. -/
import Derived.Test.YtkeaogphaifnmaaRefBoth
namespace Go.Proofs.Ytkeaogphaifnmaa
set_option linter.unusedVariables false
set_option linter.unusedSimpArgs false
open Go.RowKit

set_option maxRecDepth 100000 in
set_option maxHeartbeats 8000000 in
theorem refdo_A8 (c : Cpu) (u v : Bool) (a bb cc im off cond nn : Int) (w : World) (hk : c.Ok) (ha : 0 ≤ a ∧ a < 16) (hb : 0 ≤ bb ∧ bb < 16) (hc : 0 ≤ cc ∧ cc < 16) (him : 0 ≤ im ∧ im < 65536) : Calls Try.prog 30 #[c.val, (Ins.mk 1 u v a bb cc 8 im off cond nn).val] w (DoR c (Ins.mk 1 u v a bb cc 8 im off cond nn) w) := by
  have HNB := Lib.hid (c.num_bd (Ins.mk 1 u v a bb cc 8 im off cond nn) hk)
  obtain ⟨n, hn⟩ : ∃ n, n = c.num (Ins.mk 1 u v a bb cc 8 im off cond nn) := ⟨_, rfl⟩
  rw [← hn] at HNB
  have HN := Lib.hid hn
  obtain ⟨jb, rfl⟩ := Int.eq_ofNat_of_zero_le hb.1
  have hj : jb < 16 := by omega
  obtain ⟨m, hm⟩ : ∃ m, m = c.r jb := ⟨_, rfl⟩
  have HM : Hid (m = c.r (Ins.b (Ins.mk 1 u v a jb cc 8 im off cond nn)).toNat) := hm
  have HMB : Hid (0 ≤ m ∧ m < 4294967296) := by rw [hm]; exact hk.r jb
  have hreg := reg_cell c w jb hj hm
  have HREG := Lib.hid hreg
  have HA := Lib.hid ha
  clear hm hreg
  have H0 := (Sep.nil w).alloc3 c.cells (Ins.cells (Ins.mk 1 u v a jb cc 8 im off cond nn)) Cpu.zero.cells 25 35 25
  have B0 := Lib.hid (bel3 w (.cells c.cells 25) (.cells (Ins.cells (Ins.mk 1 u v a jb cc 8 im off cond nn)) 35) (.cells Cpu.zero.cells 25))
  have HV := Lib.hid (show (Ins.mk 1 u v a jb cc 8 im off cond nn).value = n from hn.symm)
  clear hn
  go_enter Try.func30, Try.ntmps30
  go_wp2_with (refine load_sep rfl 35 (.tmp 3) rfl H0 1 rfl rfl Try.underlying35 rfl (by kernel_rfl) ?_)
  refine (refvalue_walk (Ins.mk 1 u v a jb cc 8 im off cond nn) _ him).mono ?_
  rw [HV.out]
  rintro e w1 ⟨rfl, hb1⟩
  have H1 := H0.bel hb1
  have B1 := Lib.hid (bel_then B0.out hb1)
  have f0 : w1.cell? ⟨w.heap.size + 1, 0, none⟩ = some (.int .i64 1) := cell_of H1 1 rfl 0 rfl
  have f1 : w1.cell? ⟨w.heap.size + 1, 1, none⟩ = some (.bool u) := cell_of H1 1 rfl 1 rfl
  have f3 : w1.cell? ⟨w.heap.size + 1, 3, none⟩ = some (.int .i64 a) := cell_of H1 1 rfl 3 rfl
  have f4 : w1.cell? ⟨w.heap.size + 1, 4, none⟩ = some (.int .i64 ((jb : Nat) : Int)) := cell_of H1 1 rfl 4 rfl
  have f5 : w1.cell? ⟨w.heap.size + 1, 5, none⟩ = some (.int .i64 cc) := cell_of H1 1 rfl 5 rfl
  have f6 : w1.cell? ⟨w.heap.size + 1, 6, none⟩ = some (.int .i64 8) := cell_of H1 1 rfl 6 rfl
  have g7 : w1.cell? ⟨w.heap.size, jb, none⟩ = some (.int .u32 m) := cell_of H1 2 rfl jb HREG.out
  have g19 : w1.cell? ⟨w.heap.size, 19, none⟩ = some (.bool c.c) := cell_of H1 2 rfl 19 rfl
  clear hb1 H0
  cases u
  · have HX : Hid (0 ≤ W.wd (m + n + bn false 1) ∧ W.wd (m + n + bn false 1) < 4294967296) := ⟨W.wd_lo _, W.wd_hi _⟩
    go_wp2_with fail
    refine (ref_add m n false _ HMB.out HNB.out (bn false 1) rfl).mono ?_
    rintro e w' ⟨rfl, rfl⟩
    have fA : True := trivial
    have fB : True := trivial
    go_wp2_with (first | (have _f := fA; refine store1_sep rfl 4 (.tmp 120) (.tmp 118) rfl H1 2 rfl rfl rfl rfl (by kernel_rfl) rfl ?_; intro w3 H3 k3 s3; clear fA _f) | (have _f := fB; refine store1_sep rfl 4 (.tmp 121) (.tmp 119) rfl H3 2 rfl rfl rfl rfl (by kernel_rfl) rfl ?_; intro w4 H4' k4 s4; have H4 : Sep w4 [(w.heap.size + 2, Cpu.zero.cells, 25), (w.heap.size + 1, Ins.cells _, 35), (w.heap.size, ({ c with c := decide (4294967296 ≤ m + n + bn false 1), v := W.out (W.sg m + W.sg n + bn false 1) } : Cpu).cells, 25)] := H4'; have K4 := Lib.hid (ke2 (ke2 (Ke.below Non B1.out) k3 (Nat.le_refl _)) k4 (Nat.le_refl _)); have hc4 : w4.cell? ⟨w.heap.size + 1, 3, none⟩ = some (.int .i64 a) := cell_of H4 1 rfl 3 rfl; clear fB _f) | (refine load_sep rfl 25 (.tmp 2) rfl H4 2 rfl rfl Try.underlying25 rfl (by kernel_rfl) ?_))
    refine (refset_walk ({ c with c := decide (4294967296 ≤ m + n + bn false 1), v := W.out (W.sg m + W.sg n + bn false 1) } : Cpu) a _ _ HA.out HX.out).mono ?_
    rintro e w8 ⟨rfl, hb8⟩
    have H8 := H4.bel hb8
    have K8 := Lib.hid (K4.out.trans (Ke.below Non hb8))
    clear hb8
    go_wp2_with (refine store_sep rfl 25 (.tmp 4) (.tmp 126) rfl H8 0 rfl rfl rfl (by kernel_rfl) rfl ?_ ?_; rfl; intro w9 H9 k9 s9)
    refine bodyPost_ret (res_cell_tmp rfl rfl (H9.at 0 rfl) Try.underlying25 rfl (by kernel_rfl)) rfl (dr_some HN.out HM.out (by simp [Cpu.op]) rfl ?_)
    exact (ke2 K8.out k9 (by omega)).non
  · have HX : Hid (0 ≤ W.wd (m + n + bn c.c 1) ∧ W.wd (m + n + bn c.c 1) < 4294967296) := ⟨W.wd_lo _, W.wd_hi _⟩
    go_wp2_with fail
    refine (ref_add m n c.c _ HMB.out HNB.out (bn c.c 1) rfl).mono ?_
    rintro e w' ⟨rfl, rfl⟩
    have fA : True := trivial
    have fB : True := trivial
    go_wp2_with (first | (have _f := fA; refine store1_sep rfl 4 (.tmp 120) (.tmp 118) rfl H1 2 rfl rfl rfl rfl (by kernel_rfl) rfl ?_; intro w3 H3 k3 s3; clear fA _f) | (have _f := fB; refine store1_sep rfl 4 (.tmp 121) (.tmp 119) rfl H3 2 rfl rfl rfl rfl (by kernel_rfl) rfl ?_; intro w4 H4' k4 s4; have H4 : Sep w4 [(w.heap.size + 2, Cpu.zero.cells, 25), (w.heap.size + 1, Ins.cells _, 35), (w.heap.size, ({ c with c := decide (4294967296 ≤ m + n + bn c.c 1), v := W.out (W.sg m + W.sg n + bn c.c 1) } : Cpu).cells, 25)] := H4'; have K4 := Lib.hid (ke2 (ke2 (Ke.below Non B1.out) k3 (Nat.le_refl _)) k4 (Nat.le_refl _)); have hc4 : w4.cell? ⟨w.heap.size + 1, 3, none⟩ = some (.int .i64 a) := cell_of H4 1 rfl 3 rfl; clear fB _f) | (refine load_sep rfl 25 (.tmp 2) rfl H4 2 rfl rfl Try.underlying25 rfl (by kernel_rfl) ?_))
    refine (refset_walk ({ c with c := decide (4294967296 ≤ m + n + bn c.c 1), v := W.out (W.sg m + W.sg n + bn c.c 1) } : Cpu) a _ _ HA.out HX.out).mono ?_
    rintro e w8 ⟨rfl, hb8⟩
    have H8 := H4.bel hb8
    have K8 := Lib.hid (K4.out.trans (Ke.below Non hb8))
    clear hb8
    go_wp2_with (refine store_sep rfl 25 (.tmp 4) (.tmp 126) rfl H8 0 rfl rfl rfl (by kernel_rfl) rfl ?_ ?_; rfl; intro w9 H9 k9 s9)
    refine bodyPost_ret (res_cell_tmp rfl rfl (H9.at 0 rfl) Try.underlying25 rfl (by kernel_rfl)) rfl (dr_some HN.out HM.out (by simp [Cpu.op]) rfl ?_)
    exact (ke2 K8.out k9 (by omega)).non

set_option maxRecDepth 100000 in
set_option maxHeartbeats 8000000 in
theorem refdo_B8 (c : Cpu) (u v : Bool) (a bb cc im off cond nn : Int) (w : World) (hk : c.Ok) (ha : 0 ≤ a ∧ a < 16) (hb : 0 ≤ bb ∧ bb < 16) (hc : 0 ≤ cc ∧ cc < 16) (him : 0 ≤ im ∧ im < 65536) : Calls Try.prog 30 #[c.val, (Ins.mk 0 u v a bb cc 8 im off cond nn).val] w (DoR c (Ins.mk 0 u v a bb cc 8 im off cond nn) w) := by
  have HNB := Lib.hid (c.num_bd (Ins.mk 0 u v a bb cc 8 im off cond nn) hk)
  obtain ⟨n, hn⟩ : ∃ n, n = c.num (Ins.mk 0 u v a bb cc 8 im off cond nn) := ⟨_, rfl⟩
  rw [← hn] at HNB
  have HN := Lib.hid hn
  obtain ⟨jb, rfl⟩ := Int.eq_ofNat_of_zero_le hb.1
  have hj : jb < 16 := by omega
  obtain ⟨m, hm⟩ : ∃ m, m = c.r jb := ⟨_, rfl⟩
  have HM : Hid (m = c.r (Ins.b (Ins.mk 0 u v a jb cc 8 im off cond nn)).toNat) := hm
  have HMB : Hid (0 ≤ m ∧ m < 4294967296) := by rw [hm]; exact hk.r jb
  have hreg := reg_cell c w jb hj hm
  have HREG := Lib.hid hreg
  have HA := Lib.hid ha
  clear hm hreg
  have H0 := (Sep.nil w).alloc3 c.cells (Ins.cells (Ins.mk 0 u v a jb cc 8 im off cond nn)) Cpu.zero.cells 25 35 25
  have B0 := Lib.hid (bel3 w (.cells c.cells 25) (.cells (Ins.cells (Ins.mk 0 u v a jb cc 8 im off cond nn)) 35) (.cells Cpu.zero.cells 25))
  obtain ⟨z, hz⟩ : ∃ z, z = (Ins.mk 0 u v a jb cc 8 im off cond nn).value := ⟨_, rfl⟩
  have HV := Lib.hid hz.symm
  clear hz
  obtain ⟨jc, rfl⟩ := Int.eq_ofNat_of_zero_le hc.1
  have hjc : jc < 16 := by omega
  have HRC := Lib.hid (reg_cell c w jc hjc (m := n) (by have e := HN.out; simp only [Cpu.num] at e; simpa using e))
  clear hn
  go_enter Try.func30, Try.ntmps30
  go_wp2_with (refine load_sep rfl 35 (.tmp 3) rfl H0 1 rfl rfl Try.underlying35 rfl (by kernel_rfl) ?_)
  refine (refvalue_walk (Ins.mk 0 u v a jb jc 8 im off cond nn) _ him).mono ?_
  rw [HV.out]
  rintro e w1 ⟨rfl, hb1⟩
  have H1 := H0.bel hb1
  have B1 := Lib.hid (bel_then B0.out hb1)
  have f0 : w1.cell? ⟨w.heap.size + 1, 0, none⟩ = some (.int .i64 0) := cell_of H1 1 rfl 0 rfl
  have f1 : w1.cell? ⟨w.heap.size + 1, 1, none⟩ = some (.bool u) := cell_of H1 1 rfl 1 rfl
  have f3 : w1.cell? ⟨w.heap.size + 1, 3, none⟩ = some (.int .i64 a) := cell_of H1 1 rfl 3 rfl
  have f4 : w1.cell? ⟨w.heap.size + 1, 4, none⟩ = some (.int .i64 ((jb : Nat) : Int)) := cell_of H1 1 rfl 4 rfl
  have f5 : w1.cell? ⟨w.heap.size + 1, 5, none⟩ = some (.int .i64 ((jc : Nat) : Int)) := cell_of H1 1 rfl 5 rfl
  have f6 : w1.cell? ⟨w.heap.size + 1, 6, none⟩ = some (.int .i64 8) := cell_of H1 1 rfl 6 rfl
  have g7 : w1.cell? ⟨w.heap.size, jb, none⟩ = some (.int .u32 m) := cell_of H1 2 rfl jb HREG.out
  have g19 : w1.cell? ⟨w.heap.size, 19, none⟩ = some (.bool c.c) := cell_of H1 2 rfl 19 rfl
  have g8 : w1.cell? ⟨w.heap.size, jc, none⟩ = some (.int .u32 n) := cell_of H1 2 rfl jc HRC.out
  clear hb1 H0
  cases u
  · have HX : Hid (0 ≤ W.wd (m + n + bn false 1) ∧ W.wd (m + n + bn false 1) < 4294967296) := ⟨W.wd_lo _, W.wd_hi _⟩
    go_wp2_with fail
    refine (ref_add m n false _ HMB.out HNB.out (bn false 1) rfl).mono ?_
    rintro e w' ⟨rfl, rfl⟩
    have fA : True := trivial
    have fB : True := trivial
    go_wp2_with (first | (have _f := fA; refine store1_sep rfl 4 (.tmp 120) (.tmp 118) rfl H1 2 rfl rfl rfl rfl (by kernel_rfl) rfl ?_; intro w3 H3 k3 s3; clear fA _f) | (have _f := fB; refine store1_sep rfl 4 (.tmp 121) (.tmp 119) rfl H3 2 rfl rfl rfl rfl (by kernel_rfl) rfl ?_; intro w4 H4' k4 s4; have H4 : Sep w4 [(w.heap.size + 2, Cpu.zero.cells, 25), (w.heap.size + 1, Ins.cells _, 35), (w.heap.size, ({ c with c := decide (4294967296 ≤ m + n + bn false 1), v := W.out (W.sg m + W.sg n + bn false 1) } : Cpu).cells, 25)] := H4'; have K4 := Lib.hid (ke2 (ke2 (Ke.below Non B1.out) k3 (Nat.le_refl _)) k4 (Nat.le_refl _)); have hc4 : w4.cell? ⟨w.heap.size + 1, 3, none⟩ = some (.int .i64 a) := cell_of H4 1 rfl 3 rfl; clear fB _f) | (refine load_sep rfl 25 (.tmp 2) rfl H4 2 rfl rfl Try.underlying25 rfl (by kernel_rfl) ?_))
    refine (refset_walk ({ c with c := decide (4294967296 ≤ m + n + bn false 1), v := W.out (W.sg m + W.sg n + bn false 1) } : Cpu) a _ _ HA.out HX.out).mono ?_
    rintro e w8 ⟨rfl, hb8⟩
    have H8 := H4.bel hb8
    have K8 := Lib.hid (K4.out.trans (Ke.below Non hb8))
    clear hb8
    go_wp2_with (refine store_sep rfl 25 (.tmp 4) (.tmp 126) rfl H8 0 rfl rfl rfl (by kernel_rfl) rfl ?_ ?_; rfl; intro w9 H9 k9 s9)
    refine bodyPost_ret (res_cell_tmp rfl rfl (H9.at 0 rfl) Try.underlying25 rfl (by kernel_rfl)) rfl (dr_some HN.out HM.out (by simp [Cpu.op]) rfl ?_)
    exact (ke2 K8.out k9 (by omega)).non
  · have HX : Hid (0 ≤ W.wd (m + n + bn c.c 1) ∧ W.wd (m + n + bn c.c 1) < 4294967296) := ⟨W.wd_lo _, W.wd_hi _⟩
    go_wp2_with fail
    refine (ref_add m n c.c _ HMB.out HNB.out (bn c.c 1) rfl).mono ?_
    rintro e w' ⟨rfl, rfl⟩
    have fA : True := trivial
    have fB : True := trivial
    go_wp2_with (first | (have _f := fA; refine store1_sep rfl 4 (.tmp 120) (.tmp 118) rfl H1 2 rfl rfl rfl rfl (by kernel_rfl) rfl ?_; intro w3 H3 k3 s3; clear fA _f) | (have _f := fB; refine store1_sep rfl 4 (.tmp 121) (.tmp 119) rfl H3 2 rfl rfl rfl rfl (by kernel_rfl) rfl ?_; intro w4 H4' k4 s4; have H4 : Sep w4 [(w.heap.size + 2, Cpu.zero.cells, 25), (w.heap.size + 1, Ins.cells _, 35), (w.heap.size, ({ c with c := decide (4294967296 ≤ m + n + bn c.c 1), v := W.out (W.sg m + W.sg n + bn c.c 1) } : Cpu).cells, 25)] := H4'; have K4 := Lib.hid (ke2 (ke2 (Ke.below Non B1.out) k3 (Nat.le_refl _)) k4 (Nat.le_refl _)); have hc4 : w4.cell? ⟨w.heap.size + 1, 3, none⟩ = some (.int .i64 a) := cell_of H4 1 rfl 3 rfl; clear fB _f) | (refine load_sep rfl 25 (.tmp 2) rfl H4 2 rfl rfl Try.underlying25 rfl (by kernel_rfl) ?_))
    refine (refset_walk ({ c with c := decide (4294967296 ≤ m + n + bn c.c 1), v := W.out (W.sg m + W.sg n + bn c.c 1) } : Cpu) a _ _ HA.out HX.out).mono ?_
    rintro e w8 ⟨rfl, hb8⟩
    have H8 := H4.bel hb8
    have K8 := Lib.hid (K4.out.trans (Ke.below Non hb8))
    clear hb8
    go_wp2_with (refine store_sep rfl 25 (.tmp 4) (.tmp 126) rfl H8 0 rfl rfl rfl (by kernel_rfl) rfl ?_ ?_; rfl; intro w9 H9 k9 s9)
    refine bodyPost_ret (res_cell_tmp rfl rfl (H9.at 0 rfl) Try.underlying25 rfl (by kernel_rfl)) rfl (dr_some HN.out HM.out (by simp [Cpu.op]) rfl ?_)
    exact (ke2 K8.out k9 (by omega)).non

set_option maxRecDepth 100000 in
set_option maxHeartbeats 8000000 in
theorem refdo_A9 (c : Cpu) (u v : Bool) (a bb cc im off cond nn : Int) (w : World) (hk : c.Ok) (ha : 0 ≤ a ∧ a < 16) (hb : 0 ≤ bb ∧ bb < 16) (hc : 0 ≤ cc ∧ cc < 16) (him : 0 ≤ im ∧ im < 65536) : Calls Try.prog 30 #[c.val, (Ins.mk 1 u v a bb cc 9 im off cond nn).val] w (DoR c (Ins.mk 1 u v a bb cc 9 im off cond nn) w) := by
  have HNB := Lib.hid (c.num_bd (Ins.mk 1 u v a bb cc 9 im off cond nn) hk)
  obtain ⟨n, hn⟩ : ∃ n, n = c.num (Ins.mk 1 u v a bb cc 9 im off cond nn) := ⟨_, rfl⟩
  rw [← hn] at HNB
  have HN := Lib.hid hn
  obtain ⟨jb, rfl⟩ := Int.eq_ofNat_of_zero_le hb.1
  have hj : jb < 16 := by omega
  obtain ⟨m, hm⟩ : ∃ m, m = c.r jb := ⟨_, rfl⟩
  have HM : Hid (m = c.r (Ins.b (Ins.mk 1 u v a jb cc 9 im off cond nn)).toNat) := hm
  have HMB : Hid (0 ≤ m ∧ m < 4294967296) := by rw [hm]; exact hk.r jb
  have hreg := reg_cell c w jb hj hm
  have HREG := Lib.hid hreg
  have HA := Lib.hid ha
  clear hm hreg
  have H0 := (Sep.nil w).alloc3 c.cells (Ins.cells (Ins.mk 1 u v a jb cc 9 im off cond nn)) Cpu.zero.cells 25 35 25
  have B0 := Lib.hid (bel3 w (.cells c.cells 25) (.cells (Ins.cells (Ins.mk 1 u v a jb cc 9 im off cond nn)) 35) (.cells Cpu.zero.cells 25))
  have HV := Lib.hid (show (Ins.mk 1 u v a jb cc 9 im off cond nn).value = n from hn.symm)
  clear hn
  go_enter Try.func30, Try.ntmps30
  go_wp2_with (refine load_sep rfl 35 (.tmp 3) rfl H0 1 rfl rfl Try.underlying35 rfl (by kernel_rfl) ?_)
  refine (refvalue_walk (Ins.mk 1 u v a jb cc 9 im off cond nn) _ him).mono ?_
  rw [HV.out]
  rintro e w1 ⟨rfl, hb1⟩
  have H1 := H0.bel hb1
  have B1 := Lib.hid (bel_then B0.out hb1)
  have f0 : w1.cell? ⟨w.heap.size + 1, 0, none⟩ = some (.int .i64 1) := cell_of H1 1 rfl 0 rfl
  have f1 : w1.cell? ⟨w.heap.size + 1, 1, none⟩ = some (.bool u) := cell_of H1 1 rfl 1 rfl
  have f3 : w1.cell? ⟨w.heap.size + 1, 3, none⟩ = some (.int .i64 a) := cell_of H1 1 rfl 3 rfl
  have f4 : w1.cell? ⟨w.heap.size + 1, 4, none⟩ = some (.int .i64 ((jb : Nat) : Int)) := cell_of H1 1 rfl 4 rfl
  have f5 : w1.cell? ⟨w.heap.size + 1, 5, none⟩ = some (.int .i64 cc) := cell_of H1 1 rfl 5 rfl
  have f6 : w1.cell? ⟨w.heap.size + 1, 6, none⟩ = some (.int .i64 9) := cell_of H1 1 rfl 6 rfl
  have g7 : w1.cell? ⟨w.heap.size, jb, none⟩ = some (.int .u32 m) := cell_of H1 2 rfl jb HREG.out
  have g19 : w1.cell? ⟨w.heap.size, 19, none⟩ = some (.bool c.c) := cell_of H1 2 rfl 19 rfl
  clear hb1 H0
  cases u
  · have HX : Hid (0 ≤ W.wd (m - n - bn false 1) ∧ W.wd (m - n - bn false 1) < 4294967296) := ⟨W.wd_lo _, W.wd_hi _⟩
    go_wp2_with fail
    refine (ref_sub m n false _ HMB.out HNB.out (bn false 1) rfl).mono ?_
    rintro e w' ⟨rfl, rfl⟩
    have fA : True := trivial
    have fB : True := trivial
    go_wp2_with (first | (have _f := fA; refine store1_sep rfl 4 (.tmp 144) (.tmp 142) rfl H1 2 rfl rfl rfl rfl (by kernel_rfl) rfl ?_; intro w3 H3 k3 s3; clear fA _f) | (have _f := fB; refine store1_sep rfl 4 (.tmp 145) (.tmp 143) rfl H3 2 rfl rfl rfl rfl (by kernel_rfl) rfl ?_; intro w4 H4' k4 s4; have H4 : Sep w4 [(w.heap.size + 2, Cpu.zero.cells, 25), (w.heap.size + 1, Ins.cells _, 35), (w.heap.size, ({ c with c := decide (m - n - bn false 1 < 0), v := W.out (W.sg m - W.sg n - bn false 1) } : Cpu).cells, 25)] := H4'; have K4 := Lib.hid (ke2 (ke2 (Ke.below Non B1.out) k3 (Nat.le_refl _)) k4 (Nat.le_refl _)); have hc4 : w4.cell? ⟨w.heap.size + 1, 3, none⟩ = some (.int .i64 a) := cell_of H4 1 rfl 3 rfl; clear fB _f) | (refine load_sep rfl 25 (.tmp 2) rfl H4 2 rfl rfl Try.underlying25 rfl (by kernel_rfl) ?_))
    refine (refset_walk ({ c with c := decide (m - n - bn false 1 < 0), v := W.out (W.sg m - W.sg n - bn false 1) } : Cpu) a _ _ HA.out HX.out).mono ?_
    rintro e w8 ⟨rfl, hb8⟩
    have H8 := H4.bel hb8
    have K8 := Lib.hid (K4.out.trans (Ke.below Non hb8))
    clear hb8
    go_wp2_with (refine store_sep rfl 25 (.tmp 4) (.tmp 150) rfl H8 0 rfl rfl rfl (by kernel_rfl) rfl ?_ ?_; rfl; intro w9 H9 k9 s9)
    refine bodyPost_ret (res_cell_tmp rfl rfl (H9.at 0 rfl) Try.underlying25 rfl (by kernel_rfl)) rfl (dr_some HN.out HM.out (by simp [Cpu.op]) rfl ?_)
    exact (ke2 K8.out k9 (by omega)).non
  · have HX : Hid (0 ≤ W.wd (m - n - bn c.c 1) ∧ W.wd (m - n - bn c.c 1) < 4294967296) := ⟨W.wd_lo _, W.wd_hi _⟩
    go_wp2_with fail
    refine (ref_sub m n c.c _ HMB.out HNB.out (bn c.c 1) rfl).mono ?_
    rintro e w' ⟨rfl, rfl⟩
    have fA : True := trivial
    have fB : True := trivial
    go_wp2_with (first | (have _f := fA; refine store1_sep rfl 4 (.tmp 144) (.tmp 142) rfl H1 2 rfl rfl rfl rfl (by kernel_rfl) rfl ?_; intro w3 H3 k3 s3; clear fA _f) | (have _f := fB; refine store1_sep rfl 4 (.tmp 145) (.tmp 143) rfl H3 2 rfl rfl rfl rfl (by kernel_rfl) rfl ?_; intro w4 H4' k4 s4; have H4 : Sep w4 [(w.heap.size + 2, Cpu.zero.cells, 25), (w.heap.size + 1, Ins.cells _, 35), (w.heap.size, ({ c with c := decide (m - n - bn c.c 1 < 0), v := W.out (W.sg m - W.sg n - bn c.c 1) } : Cpu).cells, 25)] := H4'; have K4 := Lib.hid (ke2 (ke2 (Ke.below Non B1.out) k3 (Nat.le_refl _)) k4 (Nat.le_refl _)); have hc4 : w4.cell? ⟨w.heap.size + 1, 3, none⟩ = some (.int .i64 a) := cell_of H4 1 rfl 3 rfl; clear fB _f) | (refine load_sep rfl 25 (.tmp 2) rfl H4 2 rfl rfl Try.underlying25 rfl (by kernel_rfl) ?_))
    refine (refset_walk ({ c with c := decide (m - n - bn c.c 1 < 0), v := W.out (W.sg m - W.sg n - bn c.c 1) } : Cpu) a _ _ HA.out HX.out).mono ?_
    rintro e w8 ⟨rfl, hb8⟩
    have H8 := H4.bel hb8
    have K8 := Lib.hid (K4.out.trans (Ke.below Non hb8))
    clear hb8
    go_wp2_with (refine store_sep rfl 25 (.tmp 4) (.tmp 150) rfl H8 0 rfl rfl rfl (by kernel_rfl) rfl ?_ ?_; rfl; intro w9 H9 k9 s9)
    refine bodyPost_ret (res_cell_tmp rfl rfl (H9.at 0 rfl) Try.underlying25 rfl (by kernel_rfl)) rfl (dr_some HN.out HM.out (by simp [Cpu.op]) rfl ?_)
    exact (ke2 K8.out k9 (by omega)).non

set_option maxRecDepth 100000 in
set_option maxHeartbeats 8000000 in
theorem refdo_B9 (c : Cpu) (u v : Bool) (a bb cc im off cond nn : Int) (w : World) (hk : c.Ok) (ha : 0 ≤ a ∧ a < 16) (hb : 0 ≤ bb ∧ bb < 16) (hc : 0 ≤ cc ∧ cc < 16) (him : 0 ≤ im ∧ im < 65536) : Calls Try.prog 30 #[c.val, (Ins.mk 0 u v a bb cc 9 im off cond nn).val] w (DoR c (Ins.mk 0 u v a bb cc 9 im off cond nn) w) := by
  have HNB := Lib.hid (c.num_bd (Ins.mk 0 u v a bb cc 9 im off cond nn) hk)
  obtain ⟨n, hn⟩ : ∃ n, n = c.num (Ins.mk 0 u v a bb cc 9 im off cond nn) := ⟨_, rfl⟩
  rw [← hn] at HNB
  have HN := Lib.hid hn
  obtain ⟨jb, rfl⟩ := Int.eq_ofNat_of_zero_le hb.1
  have hj : jb < 16 := by omega
  obtain ⟨m, hm⟩ : ∃ m, m = c.r jb := ⟨_, rfl⟩
  have HM : Hid (m = c.r (Ins.b (Ins.mk 0 u v a jb cc 9 im off cond nn)).toNat) := hm
  have HMB : Hid (0 ≤ m ∧ m < 4294967296) := by rw [hm]; exact hk.r jb
  have hreg := reg_cell c w jb hj hm
  have HREG := Lib.hid hreg
  have HA := Lib.hid ha
  clear hm hreg
  have H0 := (Sep.nil w).alloc3 c.cells (Ins.cells (Ins.mk 0 u v a jb cc 9 im off cond nn)) Cpu.zero.cells 25 35 25
  have B0 := Lib.hid (bel3 w (.cells c.cells 25) (.cells (Ins.cells (Ins.mk 0 u v a jb cc 9 im off cond nn)) 35) (.cells Cpu.zero.cells 25))
  obtain ⟨z, hz⟩ : ∃ z, z = (Ins.mk 0 u v a jb cc 9 im off cond nn).value := ⟨_, rfl⟩
  have HV := Lib.hid hz.symm
  clear hz
  obtain ⟨jc, rfl⟩ := Int.eq_ofNat_of_zero_le hc.1
  have hjc : jc < 16 := by omega
  have HRC := Lib.hid (reg_cell c w jc hjc (m := n) (by have e := HN.out; simp only [Cpu.num] at e; simpa using e))
  clear hn
  go_enter Try.func30, Try.ntmps30
  go_wp2_with (refine load_sep rfl 35 (.tmp 3) rfl H0 1 rfl rfl Try.underlying35 rfl (by kernel_rfl) ?_)
  refine (refvalue_walk (Ins.mk 0 u v a jb jc 9 im off cond nn) _ him).mono ?_
  rw [HV.out]
  rintro e w1 ⟨rfl, hb1⟩
  have H1 := H0.bel hb1
  have B1 := Lib.hid (bel_then B0.out hb1)
  have f0 : w1.cell? ⟨w.heap.size + 1, 0, none⟩ = some (.int .i64 0) := cell_of H1 1 rfl 0 rfl
  have f1 : w1.cell? ⟨w.heap.size + 1, 1, none⟩ = some (.bool u) := cell_of H1 1 rfl 1 rfl
  have f3 : w1.cell? ⟨w.heap.size + 1, 3, none⟩ = some (.int .i64 a) := cell_of H1 1 rfl 3 rfl
  have f4 : w1.cell? ⟨w.heap.size + 1, 4, none⟩ = some (.int .i64 ((jb : Nat) : Int)) := cell_of H1 1 rfl 4 rfl
  have f5 : w1.cell? ⟨w.heap.size + 1, 5, none⟩ = some (.int .i64 ((jc : Nat) : Int)) := cell_of H1 1 rfl 5 rfl
  have f6 : w1.cell? ⟨w.heap.size + 1, 6, none⟩ = some (.int .i64 9) := cell_of H1 1 rfl 6 rfl
  have g7 : w1.cell? ⟨w.heap.size, jb, none⟩ = some (.int .u32 m) := cell_of H1 2 rfl jb HREG.out
  have g19 : w1.cell? ⟨w.heap.size, 19, none⟩ = some (.bool c.c) := cell_of H1 2 rfl 19 rfl
  have g8 : w1.cell? ⟨w.heap.size, jc, none⟩ = some (.int .u32 n) := cell_of H1 2 rfl jc HRC.out
  clear hb1 H0
  cases u
  · have HX : Hid (0 ≤ W.wd (m - n - bn false 1) ∧ W.wd (m - n - bn false 1) < 4294967296) := ⟨W.wd_lo _, W.wd_hi _⟩
    go_wp2_with fail
    refine (ref_sub m n false _ HMB.out HNB.out (bn false 1) rfl).mono ?_
    rintro e w' ⟨rfl, rfl⟩
    have fA : True := trivial
    have fB : True := trivial
    go_wp2_with (first | (have _f := fA; refine store1_sep rfl 4 (.tmp 144) (.tmp 142) rfl H1 2 rfl rfl rfl rfl (by kernel_rfl) rfl ?_; intro w3 H3 k3 s3; clear fA _f) | (have _f := fB; refine store1_sep rfl 4 (.tmp 145) (.tmp 143) rfl H3 2 rfl rfl rfl rfl (by kernel_rfl) rfl ?_; intro w4 H4' k4 s4; have H4 : Sep w4 [(w.heap.size + 2, Cpu.zero.cells, 25), (w.heap.size + 1, Ins.cells _, 35), (w.heap.size, ({ c with c := decide (m - n - bn false 1 < 0), v := W.out (W.sg m - W.sg n - bn false 1) } : Cpu).cells, 25)] := H4'; have K4 := Lib.hid (ke2 (ke2 (Ke.below Non B1.out) k3 (Nat.le_refl _)) k4 (Nat.le_refl _)); have hc4 : w4.cell? ⟨w.heap.size + 1, 3, none⟩ = some (.int .i64 a) := cell_of H4 1 rfl 3 rfl; clear fB _f) | (refine load_sep rfl 25 (.tmp 2) rfl H4 2 rfl rfl Try.underlying25 rfl (by kernel_rfl) ?_))
    refine (refset_walk ({ c with c := decide (m - n - bn false 1 < 0), v := W.out (W.sg m - W.sg n - bn false 1) } : Cpu) a _ _ HA.out HX.out).mono ?_
    rintro e w8 ⟨rfl, hb8⟩
    have H8 := H4.bel hb8
    have K8 := Lib.hid (K4.out.trans (Ke.below Non hb8))
    clear hb8
    go_wp2_with (refine store_sep rfl 25 (.tmp 4) (.tmp 150) rfl H8 0 rfl rfl rfl (by kernel_rfl) rfl ?_ ?_; rfl; intro w9 H9 k9 s9)
    refine bodyPost_ret (res_cell_tmp rfl rfl (H9.at 0 rfl) Try.underlying25 rfl (by kernel_rfl)) rfl (dr_some HN.out HM.out (by simp [Cpu.op]) rfl ?_)
    exact (ke2 K8.out k9 (by omega)).non
  · have HX : Hid (0 ≤ W.wd (m - n - bn c.c 1) ∧ W.wd (m - n - bn c.c 1) < 4294967296) := ⟨W.wd_lo _, W.wd_hi _⟩
    go_wp2_with fail
    refine (ref_sub m n c.c _ HMB.out HNB.out (bn c.c 1) rfl).mono ?_
    rintro e w' ⟨rfl, rfl⟩
    have fA : True := trivial
    have fB : True := trivial
    go_wp2_with (first | (have _f := fA; refine store1_sep rfl 4 (.tmp 144) (.tmp 142) rfl H1 2 rfl rfl rfl rfl (by kernel_rfl) rfl ?_; intro w3 H3 k3 s3; clear fA _f) | (have _f := fB; refine store1_sep rfl 4 (.tmp 145) (.tmp 143) rfl H3 2 rfl rfl rfl rfl (by kernel_rfl) rfl ?_; intro w4 H4' k4 s4; have H4 : Sep w4 [(w.heap.size + 2, Cpu.zero.cells, 25), (w.heap.size + 1, Ins.cells _, 35), (w.heap.size, ({ c with c := decide (m - n - bn c.c 1 < 0), v := W.out (W.sg m - W.sg n - bn c.c 1) } : Cpu).cells, 25)] := H4'; have K4 := Lib.hid (ke2 (ke2 (Ke.below Non B1.out) k3 (Nat.le_refl _)) k4 (Nat.le_refl _)); have hc4 : w4.cell? ⟨w.heap.size + 1, 3, none⟩ = some (.int .i64 a) := cell_of H4 1 rfl 3 rfl; clear fB _f) | (refine load_sep rfl 25 (.tmp 2) rfl H4 2 rfl rfl Try.underlying25 rfl (by kernel_rfl) ?_))
    refine (refset_walk ({ c with c := decide (m - n - bn c.c 1 < 0), v := W.out (W.sg m - W.sg n - bn c.c 1) } : Cpu) a _ _ HA.out HX.out).mono ?_
    rintro e w8 ⟨rfl, hb8⟩
    have H8 := H4.bel hb8
    have K8 := Lib.hid (K4.out.trans (Ke.below Non hb8))
    clear hb8
    go_wp2_with (refine store_sep rfl 25 (.tmp 4) (.tmp 150) rfl H8 0 rfl rfl rfl (by kernel_rfl) rfl ?_ ?_; rfl; intro w9 H9 k9 s9)
    refine bodyPost_ret (res_cell_tmp rfl rfl (H9.at 0 rfl) Try.underlying25 rfl (by kernel_rfl)) rfl (dr_some HN.out HM.out (by simp [Cpu.op]) rfl ?_)
    exact (ke2 K8.out k9 (by omega)).non

set_option maxRecDepth 100000 in
set_option maxHeartbeats 8000000 in
theorem refdo_A10 (c : Cpu) (u v : Bool) (a bb cc im off cond nn : Int) (w : World) (hk : c.Ok) (ha : 0 ≤ a ∧ a < 16) (hb : 0 ≤ bb ∧ bb < 16) (hc : 0 ≤ cc ∧ cc < 16) (him : 0 ≤ im ∧ im < 65536) : Calls Try.prog 30 #[c.val, (Ins.mk 1 u v a bb cc 10 im off cond nn).val] w (DoR c (Ins.mk 1 u v a bb cc 10 im off cond nn) w) := by
  have HNB := Lib.hid (c.num_bd (Ins.mk 1 u v a bb cc 10 im off cond nn) hk)
  obtain ⟨n, hn⟩ : ∃ n, n = c.num (Ins.mk 1 u v a bb cc 10 im off cond nn) := ⟨_, rfl⟩
  rw [← hn] at HNB
  have HN := Lib.hid hn
  obtain ⟨jb, rfl⟩ := Int.eq_ofNat_of_zero_le hb.1
  have hj : jb < 16 := by omega
  obtain ⟨m, hm⟩ : ∃ m, m = c.r jb := ⟨_, rfl⟩
  have HM : Hid (m = c.r (Ins.b (Ins.mk 1 u v a jb cc 10 im off cond nn)).toNat) := hm
  have HMB : Hid (0 ≤ m ∧ m < 4294967296) := by rw [hm]; exact hk.r jb
  have hreg := reg_cell c w jb hj hm
  have HREG := Lib.hid hreg
  have HA := Lib.hid ha
  clear hm hreg
  have H0 := (Sep.nil w).alloc3 c.cells (Ins.cells (Ins.mk 1 u v a jb cc 10 im off cond nn)) Cpu.zero.cells 25 35 25
  have B0 := Lib.hid (bel3 w (.cells c.cells 25) (.cells (Ins.cells (Ins.mk 1 u v a jb cc 10 im off cond nn)) 35) (.cells Cpu.zero.cells 25))
  have HV := Lib.hid (show (Ins.mk 1 u v a jb cc 10 im off cond nn).value = n from hn.symm)
  clear hn
  go_enter Try.func30, Try.ntmps30
  go_wp2_with (refine load_sep rfl 35 (.tmp 3) rfl H0 1 rfl rfl Try.underlying35 rfl (by kernel_rfl) ?_)
  refine (refvalue_walk (Ins.mk 1 u v a jb cc 10 im off cond nn) _ him).mono ?_
  rw [HV.out]
  rintro e w1 ⟨rfl, hb1⟩
  have H1 := H0.bel hb1
  have B1 := Lib.hid (bel_then B0.out hb1)
  have f0 : w1.cell? ⟨w.heap.size + 1, 0, none⟩ = some (.int .i64 1) := cell_of H1 1 rfl 0 rfl
  have f1 : w1.cell? ⟨w.heap.size + 1, 1, none⟩ = some (.bool u) := cell_of H1 1 rfl 1 rfl
  have f3 : w1.cell? ⟨w.heap.size + 1, 3, none⟩ = some (.int .i64 a) := cell_of H1 1 rfl 3 rfl
  have f4 : w1.cell? ⟨w.heap.size + 1, 4, none⟩ = some (.int .i64 ((jb : Nat) : Int)) := cell_of H1 1 rfl 4 rfl
  have f5 : w1.cell? ⟨w.heap.size + 1, 5, none⟩ = some (.int .i64 cc) := cell_of H1 1 rfl 5 rfl
  have f6 : w1.cell? ⟨w.heap.size + 1, 6, none⟩ = some (.int .i64 10) := cell_of H1 1 rfl 6 rfl
  have g7 : w1.cell? ⟨w.heap.size, jb, none⟩ = some (.int .u32 m) := cell_of H1 2 rfl jb HREG.out
  have g19 : w1.cell? ⟨w.heap.size, 19, none⟩ = some (.bool c.c) := cell_of H1 2 rfl 19 rfl
  clear hb1 H0
  have HX : Hid (0 ≤ W.mulLo (!u) m n ∧ W.mulLo (!u) m n < 4294967296) := mul_u32 _ _ _
  go_wp2_with fail
  refine (ref_mul m n (!u) _ HMB.out HNB.out).mono ?_
  rintro e w' ⟨rfl, rfl⟩
  have fA : True := trivial
  go_wp2_with (first | (have _f := fA; refine store1_sep rfl 22 (.tmp 163) (.tmp 162) rfl H1 2 rfl rfl rfl rfl (by kernel_rfl) rfl ?_; intro w3 H3' k3 s3; have H3 : Sep w3 [(w.heap.size + 2, Cpu.zero.cells, 25), (w.heap.size + 1, Ins.cells _, 35), (w.heap.size, ({ c with h := W.mulHi (!u) m n } : Cpu).cells, 25)] := H3'; have K4 := Lib.hid (ke2 (Ke.below Non B1.out) k3 (Nat.le_refl _)); have hc3 : w3.cell? ⟨w.heap.size + 1, 3, none⟩ = some (.int .i64 a) := cell_of H3 1 rfl 3 rfl; clear fA _f) | (refine load_sep rfl 25 (.tmp 2) rfl H3 2 rfl rfl Try.underlying25 rfl (by kernel_rfl) ?_))
  refine (refset_walk ({ c with h := W.mulHi (!u) m n } : Cpu) a _ _ HA.out HX.out).mono ?_
  rintro e w8 ⟨rfl, hb8⟩
  have H8 := H3.bel hb8
  have K8 := Lib.hid (K4.out.trans (Ke.below Non hb8))
  clear hb8
  go_wp2_with (refine store_sep rfl 25 (.tmp 4) (.tmp 168) rfl H8 0 rfl rfl rfl (by kernel_rfl) rfl ?_ ?_; rfl; intro w9 H9 k9 s9)
  refine bodyPost_ret (res_cell_tmp rfl rfl (H9.at 0 rfl) Try.underlying25 rfl (by kernel_rfl)) rfl (dr_some HN.out HM.out (by simp [Cpu.op]) rfl ?_)
  exact (ke2 K8.out k9 (by omega)).non

set_option maxRecDepth 100000 in
set_option maxHeartbeats 8000000 in
theorem refdo_B10 (c : Cpu) (u v : Bool) (a bb cc im off cond nn : Int) (w : World) (hk : c.Ok) (ha : 0 ≤ a ∧ a < 16) (hb : 0 ≤ bb ∧ bb < 16) (hc : 0 ≤ cc ∧ cc < 16) (him : 0 ≤ im ∧ im < 65536) : Calls Try.prog 30 #[c.val, (Ins.mk 0 u v a bb cc 10 im off cond nn).val] w (DoR c (Ins.mk 0 u v a bb cc 10 im off cond nn) w) := by
  have HNB := Lib.hid (c.num_bd (Ins.mk 0 u v a bb cc 10 im off cond nn) hk)
  obtain ⟨n, hn⟩ : ∃ n, n = c.num (Ins.mk 0 u v a bb cc 10 im off cond nn) := ⟨_, rfl⟩
  rw [← hn] at HNB
  have HN := Lib.hid hn
  obtain ⟨jb, rfl⟩ := Int.eq_ofNat_of_zero_le hb.1
  have hj : jb < 16 := by omega
  obtain ⟨m, hm⟩ : ∃ m, m = c.r jb := ⟨_, rfl⟩
  have HM : Hid (m = c.r (Ins.b (Ins.mk 0 u v a jb cc 10 im off cond nn)).toNat) := hm
  have HMB : Hid (0 ≤ m ∧ m < 4294967296) := by rw [hm]; exact hk.r jb
  have hreg := reg_cell c w jb hj hm
  have HREG := Lib.hid hreg
  have HA := Lib.hid ha
  clear hm hreg
  have H0 := (Sep.nil w).alloc3 c.cells (Ins.cells (Ins.mk 0 u v a jb cc 10 im off cond nn)) Cpu.zero.cells 25 35 25
  have B0 := Lib.hid (bel3 w (.cells c.cells 25) (.cells (Ins.cells (Ins.mk 0 u v a jb cc 10 im off cond nn)) 35) (.cells Cpu.zero.cells 25))
  obtain ⟨z, hz⟩ : ∃ z, z = (Ins.mk 0 u v a jb cc 10 im off cond nn).value := ⟨_, rfl⟩
  have HV := Lib.hid hz.symm
  clear hz
  obtain ⟨jc, rfl⟩ := Int.eq_ofNat_of_zero_le hc.1
  have hjc : jc < 16 := by omega
  have HRC := Lib.hid (reg_cell c w jc hjc (m := n) (by have e := HN.out; simp only [Cpu.num] at e; simpa using e))
  clear hn
  go_enter Try.func30, Try.ntmps30
  go_wp2_with (refine load_sep rfl 35 (.tmp 3) rfl H0 1 rfl rfl Try.underlying35 rfl (by kernel_rfl) ?_)
  refine (refvalue_walk (Ins.mk 0 u v a jb jc 10 im off cond nn) _ him).mono ?_
  rw [HV.out]
  rintro e w1 ⟨rfl, hb1⟩
  have H1 := H0.bel hb1
  have B1 := Lib.hid (bel_then B0.out hb1)
  have f0 : w1.cell? ⟨w.heap.size + 1, 0, none⟩ = some (.int .i64 0) := cell_of H1 1 rfl 0 rfl
  have f1 : w1.cell? ⟨w.heap.size + 1, 1, none⟩ = some (.bool u) := cell_of H1 1 rfl 1 rfl
  have f3 : w1.cell? ⟨w.heap.size + 1, 3, none⟩ = some (.int .i64 a) := cell_of H1 1 rfl 3 rfl
  have f4 : w1.cell? ⟨w.heap.size + 1, 4, none⟩ = some (.int .i64 ((jb : Nat) : Int)) := cell_of H1 1 rfl 4 rfl
  have f5 : w1.cell? ⟨w.heap.size + 1, 5, none⟩ = some (.int .i64 ((jc : Nat) : Int)) := cell_of H1 1 rfl 5 rfl
  have f6 : w1.cell? ⟨w.heap.size + 1, 6, none⟩ = some (.int .i64 10) := cell_of H1 1 rfl 6 rfl
  have g7 : w1.cell? ⟨w.heap.size, jb, none⟩ = some (.int .u32 m) := cell_of H1 2 rfl jb HREG.out
  have g19 : w1.cell? ⟨w.heap.size, 19, none⟩ = some (.bool c.c) := cell_of H1 2 rfl 19 rfl
  have g8 : w1.cell? ⟨w.heap.size, jc, none⟩ = some (.int .u32 n) := cell_of H1 2 rfl jc HRC.out
  clear hb1 H0
  have HX : Hid (0 ≤ W.mulLo (!u) m n ∧ W.mulLo (!u) m n < 4294967296) := mul_u32 _ _ _
  go_wp2_with fail
  refine (ref_mul m n (!u) _ HMB.out HNB.out).mono ?_
  rintro e w' ⟨rfl, rfl⟩
  have fA : True := trivial
  go_wp2_with (first | (have _f := fA; refine store1_sep rfl 22 (.tmp 163) (.tmp 162) rfl H1 2 rfl rfl rfl rfl (by kernel_rfl) rfl ?_; intro w3 H3' k3 s3; have H3 : Sep w3 [(w.heap.size + 2, Cpu.zero.cells, 25), (w.heap.size + 1, Ins.cells _, 35), (w.heap.size, ({ c with h := W.mulHi (!u) m n } : Cpu).cells, 25)] := H3'; have K4 := Lib.hid (ke2 (Ke.below Non B1.out) k3 (Nat.le_refl _)); have hc3 : w3.cell? ⟨w.heap.size + 1, 3, none⟩ = some (.int .i64 a) := cell_of H3 1 rfl 3 rfl; clear fA _f) | (refine load_sep rfl 25 (.tmp 2) rfl H3 2 rfl rfl Try.underlying25 rfl (by kernel_rfl) ?_))
  refine (refset_walk ({ c with h := W.mulHi (!u) m n } : Cpu) a _ _ HA.out HX.out).mono ?_
  rintro e w8 ⟨rfl, hb8⟩
  have H8 := H3.bel hb8
  have K8 := Lib.hid (K4.out.trans (Ke.below Non hb8))
  clear hb8
  go_wp2_with (refine store_sep rfl 25 (.tmp 4) (.tmp 168) rfl H8 0 rfl rfl rfl (by kernel_rfl) rfl ?_ ?_; rfl; intro w9 H9 k9 s9)
  refine bodyPost_ret (res_cell_tmp rfl rfl (H9.at 0 rfl) Try.underlying25 rfl (by kernel_rfl)) rfl (dr_some HN.out HM.out (by simp [Cpu.op]) rfl ?_)
  exact (ke2 K8.out k9 (by omega)).non

set_option maxRecDepth 100000 in
set_option maxHeartbeats 8000000 in
theorem refdo_A11 (c : Cpu) (u v : Bool) (a bb cc im off cond nn : Int) (w : World) (hk : c.Ok) (ha : 0 ≤ a ∧ a < 16) (hb : 0 ≤ bb ∧ bb < 16) (hc : 0 ≤ cc ∧ cc < 16) (him : 0 ≤ im ∧ im < 65536) : Calls Try.prog 30 #[c.val, (Ins.mk 1 u v a bb cc 11 im off cond nn).val] w (DoR c (Ins.mk 1 u v a bb cc 11 im off cond nn) w) := by
  have HNB := Lib.hid (c.num_bd (Ins.mk 1 u v a bb cc 11 im off cond nn) hk)
  obtain ⟨n, hn⟩ : ∃ n, n = c.num (Ins.mk 1 u v a bb cc 11 im off cond nn) := ⟨_, rfl⟩
  rw [← hn] at HNB
  have HN := Lib.hid hn
  obtain ⟨jb, rfl⟩ := Int.eq_ofNat_of_zero_le hb.1
  have hj : jb < 16 := by omega
  obtain ⟨m, hm⟩ : ∃ m, m = c.r jb := ⟨_, rfl⟩
  have HM : Hid (m = c.r (Ins.b (Ins.mk 1 u v a jb cc 11 im off cond nn)).toNat) := hm
  have HMB : Hid (0 ≤ m ∧ m < 4294967296) := by rw [hm]; exact hk.r jb
  have hreg := reg_cell c w jb hj hm
  have HREG := Lib.hid hreg
  have HA := Lib.hid ha
  clear hm hreg
  have H0 := (Sep.nil w).alloc3 c.cells (Ins.cells (Ins.mk 1 u v a jb cc 11 im off cond nn)) Cpu.zero.cells 25 35 25
  have B0 := Lib.hid (bel3 w (.cells c.cells 25) (.cells (Ins.cells (Ins.mk 1 u v a jb cc 11 im off cond nn)) 35) (.cells Cpu.zero.cells 25))
  have HV := Lib.hid (show (Ins.mk 1 u v a jb cc 11 im off cond nn).value = n from hn.symm)
  clear hn
  go_enter Try.func30, Try.ntmps30
  go_wp2_with (refine load_sep rfl 35 (.tmp 3) rfl H0 1 rfl rfl Try.underlying35 rfl (by kernel_rfl) ?_)
  refine (refvalue_walk (Ins.mk 1 u v a jb cc 11 im off cond nn) _ him).mono ?_
  rw [HV.out]
  rintro e w1 ⟨rfl, hb1⟩
  have H1 := H0.bel hb1
  have B1 := Lib.hid (bel_then B0.out hb1)
  have f0 : w1.cell? ⟨w.heap.size + 1, 0, none⟩ = some (.int .i64 1) := cell_of H1 1 rfl 0 rfl
  have f1 : w1.cell? ⟨w.heap.size + 1, 1, none⟩ = some (.bool u) := cell_of H1 1 rfl 1 rfl
  have f3 : w1.cell? ⟨w.heap.size + 1, 3, none⟩ = some (.int .i64 a) := cell_of H1 1 rfl 3 rfl
  have f4 : w1.cell? ⟨w.heap.size + 1, 4, none⟩ = some (.int .i64 ((jb : Nat) : Int)) := cell_of H1 1 rfl 4 rfl
  have f5 : w1.cell? ⟨w.heap.size + 1, 5, none⟩ = some (.int .i64 cc) := cell_of H1 1 rfl 5 rfl
  have f6 : w1.cell? ⟨w.heap.size + 1, 6, none⟩ = some (.int .i64 11) := cell_of H1 1 rfl 6 rfl
  have g7 : w1.cell? ⟨w.heap.size, jb, none⟩ = some (.int .u32 m) := cell_of H1 2 rfl jb HREG.out
  have g19 : w1.cell? ⟨w.heap.size, 19, none⟩ = some (.bool c.c) := cell_of H1 2 rfl 19 rfl
  clear hb1 H0
  by_cases hq : 0 < n ∧ n < 2147483648
  · have HX : Hid (0 ≤ W.quo m n ∧ W.quo m n < 4294967296) := ⟨W.wd_lo _, W.wd_hi _⟩
    have HQ := Lib.hid hq
    have hs : 0 < W.sg n := (by have := HQ.out; unfold W.sg; split <;> omega)
    clear hq
    go_wp2_with fail
    refine (ref_signed n _ HNB.out).mono ?_
    rintro e w' ⟨rfl, rfl⟩
    go_wp2_with fail
    refine (ref_div m n _ HMB.out HQ.out).mono ?_
    rintro e w' ⟨rfl, rfl⟩
    have fA : True := trivial
    go_wp2_with (first | (have _f := fA; refine store1_sep rfl 22 (.tmp 180) (.tmp 179) rfl H1 2 rfl rfl rfl rfl (by kernel_rfl) rfl ?_; intro w3 H3' k3 s3; have H3 : Sep w3 [(w.heap.size + 2, Cpu.zero.cells, 25), (w.heap.size + 1, Ins.cells _, 35), (w.heap.size, ({ c with h := W.rem m n } : Cpu).cells, 25)] := H3'; have K4 := Lib.hid (ke2 (Ke.below Non B1.out) k3 (Nat.le_refl _)); have hc3 : w3.cell? ⟨w.heap.size + 1, 3, none⟩ = some (.int .i64 a) := cell_of H3 1 rfl 3 rfl; clear fA _f) | (refine load_sep rfl 25 (.tmp 2) rfl H3 2 rfl rfl Try.underlying25 rfl (by kernel_rfl) ?_))
    refine (refset_walk ({ c with h := W.rem m n } : Cpu) a _ _ HA.out HX.out).mono ?_
    rintro e w8 ⟨rfl, hb8⟩
    have H8 := H3.bel hb8
    have K8 := Lib.hid (K4.out.trans (Ke.below Non hb8))
    clear hb8
    go_wp2_with (refine store_sep rfl 25 (.tmp 4) (.tmp 185) rfl H8 0 rfl rfl rfl (by kernel_rfl) rfl ?_ ?_; rfl; intro w9 H9 k9 s9)
    refine bodyPost_ret (res_cell_tmp rfl rfl (H9.at 0 rfl) Try.underlying25 rfl (by kernel_rfl)) rfl (dr_some HN.out HM.out (by simp [Cpu.op, HQ.out]) rfl ?_)
    exact (ke2 K8.out k9 (by omega)).non
  · have HQ := Lib.hid hq
    have hs : W.sg n ≤ 0 := (by have := HQ.out; have := HNB.out; unfold W.sg; split <;> omega)
    clear hq
    go_wp2_with fail
    refine (ref_signed n _ HNB.out).mono ?_
    rintro e w' ⟨rfl, rfl⟩
    go_wp2_with (first | (refine load_sep rfl 25 (.tmp 2) rfl H1 2 rfl rfl Try.underlying25 rfl (by kernel_rfl) ?_) | (refine store_sep rfl 25 (.tmp 4) (.tmp 172) rfl H1 0 rfl rfl rfl (by kernel_rfl) rfl ?_ ?_; rfl; intro w9 H9 k9 s9))
    refine bodyPost_ret (res_cell_tmp rfl rfl (H9.at 0 rfl) Try.underlying25 rfl (by kernel_rfl)) rfl (dr_none HN.out HM.out (by simp [Cpu.op, HQ.out]) rfl ?_)
    exact (ke2 (Ke.below Non B1.out) k9 (by omega)).non

set_option maxRecDepth 100000 in
set_option maxHeartbeats 8000000 in
theorem refdo_B11 (c : Cpu) (u v : Bool) (a bb cc im off cond nn : Int) (w : World) (hk : c.Ok) (ha : 0 ≤ a ∧ a < 16) (hb : 0 ≤ bb ∧ bb < 16) (hc : 0 ≤ cc ∧ cc < 16) (him : 0 ≤ im ∧ im < 65536) : Calls Try.prog 30 #[c.val, (Ins.mk 0 u v a bb cc 11 im off cond nn).val] w (DoR c (Ins.mk 0 u v a bb cc 11 im off cond nn) w) := by
  have HNB := Lib.hid (c.num_bd (Ins.mk 0 u v a bb cc 11 im off cond nn) hk)
  obtain ⟨n, hn⟩ : ∃ n, n = c.num (Ins.mk 0 u v a bb cc 11 im off cond nn) := ⟨_, rfl⟩
  rw [← hn] at HNB
  have HN := Lib.hid hn
  obtain ⟨jb, rfl⟩ := Int.eq_ofNat_of_zero_le hb.1
  have hj : jb < 16 := by omega
  obtain ⟨m, hm⟩ : ∃ m, m = c.r jb := ⟨_, rfl⟩
  have HM : Hid (m = c.r (Ins.b (Ins.mk 0 u v a jb cc 11 im off cond nn)).toNat) := hm
  have HMB : Hid (0 ≤ m ∧ m < 4294967296) := by rw [hm]; exact hk.r jb
  have hreg := reg_cell c w jb hj hm
  have HREG := Lib.hid hreg
  have HA := Lib.hid ha
  clear hm hreg
  have H0 := (Sep.nil w).alloc3 c.cells (Ins.cells (Ins.mk 0 u v a jb cc 11 im off cond nn)) Cpu.zero.cells 25 35 25
  have B0 := Lib.hid (bel3 w (.cells c.cells 25) (.cells (Ins.cells (Ins.mk 0 u v a jb cc 11 im off cond nn)) 35) (.cells Cpu.zero.cells 25))
  obtain ⟨z, hz⟩ : ∃ z, z = (Ins.mk 0 u v a jb cc 11 im off cond nn).value := ⟨_, rfl⟩
  have HV := Lib.hid hz.symm
  clear hz
  obtain ⟨jc, rfl⟩ := Int.eq_ofNat_of_zero_le hc.1
  have hjc : jc < 16 := by omega
  have HRC := Lib.hid (reg_cell c w jc hjc (m := n) (by have e := HN.out; simp only [Cpu.num] at e; simpa using e))
  clear hn
  go_enter Try.func30, Try.ntmps30
  go_wp2_with (refine load_sep rfl 35 (.tmp 3) rfl H0 1 rfl rfl Try.underlying35 rfl (by kernel_rfl) ?_)
  refine (refvalue_walk (Ins.mk 0 u v a jb jc 11 im off cond nn) _ him).mono ?_
  rw [HV.out]
  rintro e w1 ⟨rfl, hb1⟩
  have H1 := H0.bel hb1
  have B1 := Lib.hid (bel_then B0.out hb1)
  have f0 : w1.cell? ⟨w.heap.size + 1, 0, none⟩ = some (.int .i64 0) := cell_of H1 1 rfl 0 rfl
  have f1 : w1.cell? ⟨w.heap.size + 1, 1, none⟩ = some (.bool u) := cell_of H1 1 rfl 1 rfl
  have f3 : w1.cell? ⟨w.heap.size + 1, 3, none⟩ = some (.int .i64 a) := cell_of H1 1 rfl 3 rfl
  have f4 : w1.cell? ⟨w.heap.size + 1, 4, none⟩ = some (.int .i64 ((jb : Nat) : Int)) := cell_of H1 1 rfl 4 rfl
  have f5 : w1.cell? ⟨w.heap.size + 1, 5, none⟩ = some (.int .i64 ((jc : Nat) : Int)) := cell_of H1 1 rfl 5 rfl
  have f6 : w1.cell? ⟨w.heap.size + 1, 6, none⟩ = some (.int .i64 11) := cell_of H1 1 rfl 6 rfl
  have g7 : w1.cell? ⟨w.heap.size, jb, none⟩ = some (.int .u32 m) := cell_of H1 2 rfl jb HREG.out
  have g19 : w1.cell? ⟨w.heap.size, 19, none⟩ = some (.bool c.c) := cell_of H1 2 rfl 19 rfl
  have g8 : w1.cell? ⟨w.heap.size, jc, none⟩ = some (.int .u32 n) := cell_of H1 2 rfl jc HRC.out
  clear hb1 H0
  by_cases hq : 0 < n ∧ n < 2147483648
  · have HX : Hid (0 ≤ W.quo m n ∧ W.quo m n < 4294967296) := ⟨W.wd_lo _, W.wd_hi _⟩
    have HQ := Lib.hid hq
    have hs : 0 < W.sg n := (by have := HQ.out; unfold W.sg; split <;> omega)
    clear hq
    go_wp2_with fail
    refine (ref_signed n _ HNB.out).mono ?_
    rintro e w' ⟨rfl, rfl⟩
    go_wp2_with fail
    refine (ref_div m n _ HMB.out HQ.out).mono ?_
    rintro e w' ⟨rfl, rfl⟩
    have fA : True := trivial
    go_wp2_with (first | (have _f := fA; refine store1_sep rfl 22 (.tmp 180) (.tmp 179) rfl H1 2 rfl rfl rfl rfl (by kernel_rfl) rfl ?_; intro w3 H3' k3 s3; have H3 : Sep w3 [(w.heap.size + 2, Cpu.zero.cells, 25), (w.heap.size + 1, Ins.cells _, 35), (w.heap.size, ({ c with h := W.rem m n } : Cpu).cells, 25)] := H3'; have K4 := Lib.hid (ke2 (Ke.below Non B1.out) k3 (Nat.le_refl _)); have hc3 : w3.cell? ⟨w.heap.size + 1, 3, none⟩ = some (.int .i64 a) := cell_of H3 1 rfl 3 rfl; clear fA _f) | (refine load_sep rfl 25 (.tmp 2) rfl H3 2 rfl rfl Try.underlying25 rfl (by kernel_rfl) ?_))
    refine (refset_walk ({ c with h := W.rem m n } : Cpu) a _ _ HA.out HX.out).mono ?_
    rintro e w8 ⟨rfl, hb8⟩
    have H8 := H3.bel hb8
    have K8 := Lib.hid (K4.out.trans (Ke.below Non hb8))
    clear hb8
    go_wp2_with (refine store_sep rfl 25 (.tmp 4) (.tmp 185) rfl H8 0 rfl rfl rfl (by kernel_rfl) rfl ?_ ?_; rfl; intro w9 H9 k9 s9)
    refine bodyPost_ret (res_cell_tmp rfl rfl (H9.at 0 rfl) Try.underlying25 rfl (by kernel_rfl)) rfl (dr_some HN.out HM.out (by simp [Cpu.op, HQ.out]) rfl ?_)
    exact (ke2 K8.out k9 (by omega)).non
  · have HQ := Lib.hid hq
    have hs : W.sg n ≤ 0 := (by have := HQ.out; have := HNB.out; unfold W.sg; split <;> omega)
    clear hq
    go_wp2_with fail
    refine (ref_signed n _ HNB.out).mono ?_
    rintro e w' ⟨rfl, rfl⟩
    go_wp2_with (first | (refine load_sep rfl 25 (.tmp 2) rfl H1 2 rfl rfl Try.underlying25 rfl (by kernel_rfl) ?_) | (refine store_sep rfl 25 (.tmp 4) (.tmp 172) rfl H1 0 rfl rfl rfl (by kernel_rfl) rfl ?_ ?_; rfl; intro w9 H9 k9 s9))
    refine bodyPost_ret (res_cell_tmp rfl rfl (H9.at 0 rfl) Try.underlying25 rfl (by kernel_rfl)) rfl (dr_none HN.out HM.out (by simp [Cpu.op, HQ.out]) rfl ?_)
    exact (ke2 (Ke.below Non B1.out) k9 (by omega)).non

end Go.Proofs.Ytkeaogphaifnmaa
