/- The law RiscWide, walked. -/
import Derived.Test.YtkeaogphaifnmaaRiscWidePlain
namespace Go.Proofs.Ytkeaogphaifnmaa
set_option linter.unusedVariables false
set_option linter.unusedSimpArgs false
open Go.RowKit

set_option maxRecDepth 100000 in
set_option maxHeartbeats 8000000 in
theorem wide_walk (c : Cpu) (a b : Int) (w : World) (hk : c.Ok) (_ha : IntKind.u64.min ≤ a ∧ a ≤ IntKind.u64.max) (_hb : IntKind.u64.min ≤ b ∧ b ≤ IntKind.u64.max) : Calls Try.prog 7 #[c.val, .int .u64 a, .int .u64 b] w fun e w' => e = .returned (.bool true) ∧ Below w.heap.size w w' := by
  have e1 : IntKind.u64.max = 18446744073709551615 := by decide
  have e2 : IntKind.u64.min = 0 := by decide
  have ha : 0 ≤ a ∧ a < 18446744073709551616 := by omega
  have hb : 0 ≤ b ∧ b < 18446744073709551616 := by omega
  clear _ha _hb e1 e2
  obtain ⟨a0, ha0⟩ : ∃ a0, a0 = a % 4294967296 := ⟨_, rfl⟩
  obtain ⟨a1, ha1⟩ : ∃ a1, a1 = a / 4294967296 := ⟨_, rfl⟩
  obtain ⟨b0, hb0⟩ : ∃ b0, b0 = b % 4294967296 := ⟨_, rfl⟩
  obtain ⟨b1, hb1⟩ : ∃ b1, b1 = b / 4294967296 := ⟨_, rfl⟩
  have p0 : 0 ≤ a0 ∧ a0 < 4294967296 := by omega
  have p1 : 0 ≤ a1 ∧ a1 < 4294967296 := by omega
  have q0 : 0 ≤ b0 ∧ b0 < 4294967296 := by omega
  have q1 : 0 ≤ b1 ∧ b1 < 4294967296 := by omega
  have z1 : a % 4294967296 = a0 := ha0.symm
  have z2 : a / 4294967296 = a1 := ha1.symm
  have z3 : b % 4294967296 = b0 := hb0.symm
  have z4 : b / 4294967296 = b1 := hb1.symm
  have z5 : a / 4294967296 % 4294967296 = a1 := by omega
  have z6 : b / 4294967296 % 4294967296 = b1 := by omega
  have H0 := (Sep.nil w).alloc c.cells 25
  have HW := Lib.hid (does_w hk p0 p1 q0 q1)
  obtain ⟨d, hd⟩ : ∃ d, d = w6 c a0 a1 b0 b1 := ⟨_, rfl⟩
  have HD := Lib.hid hd
  obtain ⟨x4, h4⟩ : ∃ x, x = W.wd (a0 + b0) := ⟨_, rfl⟩
  obtain ⟨x5, h5⟩ : ∃ x, x = W.wd (a1 + b1 + bn (decide (4294967296 ≤ a0 + b0)) 1) := ⟨_, rfl⟩
  obtain ⟨x6, h6⟩ : ∃ x, x = W.wd (a0 - b0) := ⟨_, rfl⟩
  obtain ⟨x7, h7⟩ : ∃ x, x = W.wd (a1 - b1 - bn (decide (a0 - b0 < 0)) 1) := ⟨_, rfl⟩
  obtain ⟨x8, h8⟩ : ∃ x, x = W.mulLo false a0 b0 := ⟨_, rfl⟩
  obtain ⟨x9, h9⟩ : ∃ x, x = W.mulHi false a0 b0 := ⟨_, rfl⟩
  have hr := w6_regs c a0 a1 b0 b1
  rw [← hd, ← h4, ← h5, ← h6, ← h7, ← h8, ← h9] at hr
  obtain ⟨r4, r5, r6, r7, r8, r9⟩ := hr
  have c4 := Lib.hid (reg_cell d w 4 (by decide) r4.symm)
  have c5 := Lib.hid (reg_cell d w 5 (by decide) r5.symm)
  have c6 := Lib.hid (reg_cell d w 6 (by decide) r6.symm)
  have c7 := Lib.hid (reg_cell d w 7 (by decide) r7.symm)
  have c8 := Lib.hid (reg_cell d w 8 (by decide) r8.symm)
  have c9 := Lib.hid (reg_cell d w 9 (by decide) r9.symm)
  have d4 : 0 ≤ x4 ∧ x4 < 4294967296 := by rw [h4]; exact wd_bd _
  have d5 : 0 ≤ x5 ∧ x5 < 4294967296 := by rw [h5]; exact wd_bd _
  have d6 : 0 ≤ x6 ∧ x6 < 4294967296 := by rw [h6]; exact wd_bd _
  have d7 : 0 ≤ x7 ∧ x7 < 4294967296 := by rw [h7]; exact wd_bd _
  have d8 : 0 ≤ x8 ∧ x8 < 4294967296 := by rw [h8]; exact lo_bd _ _
  have d9 : 0 ≤ x9 ∧ x9 < 4294967296 := by rw [h9]; exact hi_bd p0 q0
  have s1 : x5 * 4294967296 + x4 = (a + b) % 18446744073709551616 := by rw [h4, h5, ha0, ha1, hb0, hb1]; exact wide_sum ha hb
  have s2 : x7 * 4294967296 + x6 = (a - b) % 18446744073709551616 := by rw [h6, h7, ha0, ha1, hb0, hb1]; exact wide_less ha hb
  have s3 : x9 * 4294967296 + x8 = a0 * b0 := by rw [h8, h9]; exact wide_mul _ _
  have S1 := Lib.hid s1
  have S2 := Lib.hid s2
  have S3 := Lib.hid s3
  clear h4 h5 h6 h7 h8 h9 r4 r5 r6 r7 r8 r9 hd ha0 ha1 hb0 hb1 s1 s2 s3
  go_enter Try.func7, Try.ntmps7
  go_wp2_with (first | (refine store1_sep rfl 22 (.tmp 25) (.tmp 15) rfl H0 0 rfl rfl rfl rfl (by kernel_rfl) ?_ ?_; rfl; intro w1 H1 k1 n1; clear H0) | (refine store1_sep rfl 22 (.tmp 27) (.tmp 18) rfl H1 0 rfl rfl rfl rfl (by kernel_rfl) ?_ ?_; rfl; intro w2 H2 k2 n2; clear H1) | (refine store1_sep rfl 22 (.tmp 29) (.tmp 20) rfl H2 0 rfl rfl rfl rfl (by kernel_rfl) ?_ ?_; rfl; intro w3 H3 k3 n3; clear H2) | (refine store1_sep rfl 22 (.tmp 31) (.tmp 23) rfl H3 0 rfl rfl rfl rfl (by kernel_rfl) ?_ ?_; rfl; intro w4 H4 k4 n4; clear H3; have G4 := w0_sep H4; (try simp only [z1, z2, z3, z4, z5, z6] at G4); have B4 := Lib.hid (bel4 (bel1 w (.cells c.cells 25)) (Nat.le_refl _) k1 k2 k3 k4); clear H4 k1 k2 k3 k4 n1 n2 n3 n4) | (refine load_sep rfl 25 (.tmp 3) rfl G4 0 rfl rfl Try.underlying25 rfl (by kernel_rfl) ?_))
  have H5 := G4.alloc (insRow wL).toArray 35
  have B5 := bel_then B4.out (bel1 w4 (.cells (insRow wL).toArray 35))
  refine (ops_walk' HD.out.symm HW.out (H5.at 0 rfl) (by simp [wL])).mono ?_
  rintro e w6 ⟨rfl, hb6⟩
  have H6 := H5.bel hb6
  have B6 := Lib.hid (bel_then B5 hb6)
  clear hb6 H5 B5 G4
  go_wp2_with (first | (refine alloc_sep rfl 25 rfl H6 (z := Cpu.zero.val) (cs := Cpu.zero.cells) (by kernel_rfl) rfl ?_; intro w7 H7 b7 n7; clear H6) | (refine store_sep rfl 25 (.tmp 7) (.tmp 40) rfl H7 0 rfl rfl rfl (by kernel_rfl) rfl ?_ ?_; rfl; intro w8 H8 k8 n8; clear H7))
  have A8 := H8.at 0 rfl
  have g4 := (A8.cell 4).trans c4.out
  have g5 := (A8.cell 5).trans c5.out
  have g6 := (A8.cell 6).trans c6.out
  have g7 := (A8.cell 7).trans c7.out
  have g8 := (A8.cell 8).trans c8.out
  have g9 := (A8.cell 9).trans c9.out
  have B8 := Lib.hid (bel_ke (bel_then B6.out b7) k8 B6.out.size)
  have G8 := Lib.hid H8
  clear k8 b7 n7 n8 H8 A8
  have i0 := ((G8.out.at 2 rfl).cell 0).trans (show (w0 c a0 a1 b0 b1).cells[0]? = some (.int .u32 a0) by simp [Cpu.cells, w0])
  have i2 := ((G8.out.at 2 rfl).cell 2).trans (show (w0 c a0 a1 b0 b1).cells[2]? = some (.int .u32 b0) by simp [Cpu.cells, w0])
  go_quiet (fail)
  have t1 : IntKind.u64.wrap (IntKind.u64.wrap (IntKind.u64.wrap x5 * 4294967296) + IntKind.u64.wrap x4) = IntKind.u64.wrap (a + b) := by
    have := S1.out
    simp only [IntKind.wrap_u64]; omega
  have t2 : IntKind.u64.wrap (IntKind.u64.wrap (IntKind.u64.wrap x7 * 4294967296) + IntKind.u64.wrap x6) = IntKind.u64.wrap (a - b) := by
    have := S2.out
    simp only [IntKind.wrap_u64]; omega
  have t3 : IntKind.u64.wrap (IntKind.u64.wrap (IntKind.u64.wrap x9 * 4294967296) + IntKind.u64.wrap x8) = a0 * b0 := by
    have h1 := S3.out
    have h2 := W.mul_bd p0 q0
    rw [← h1] at h2 ⊢
    simp only [IntKind.wrap_u64]; omega
  have t4 : IntKind.u64.wrap (a0 * b0) = a0 * b0 := by
    have h2 := W.mul_bd p0 q0
    rw [IntKind.wrap_u64]; omega
  rw [t1, t2, t3]
  obtain ⟨y1, hy1⟩ : ∃ y, IntKind.u64.wrap (a + b) = y := ⟨_, rfl⟩
  obtain ⟨y2, hy2⟩ : ∃ y, IntKind.u64.wrap (a - b) = y := ⟨_, rfl⟩
  obtain ⟨y3, hy3⟩ : ∃ y, a0 * b0 = y := ⟨_, rfl⟩
  rw [hy3] at t4
  rw [hy1, hy2, hy3]
  clear t1 t2 t3 S1 S2 S3 d4 d5 d6 d7 d8 d9 g4 g5 g6 g7 g8 g9
  have G9 : Hid (Sep (w8.drewN nq) [(w6.heap.size, d.cells, 25), (w4.heap.size, (insRow wL).toArray, 35), (w.heap.size, (w0 c a0 a1 b0 b1).cells, 25)]) := ⟨G8.out.row, G8.out.nd⟩
  have B9 : Hid (Below w.heap.size w (w8.drewN nq)) := ⟨B8.out.os, B8.out.tape, B8.out.output, B8.out.size, B8.out.block⟩
  have j0 : (w8.drewN nq).cell? ⟨w.heap.size, 0, none⟩ = some (.int .u32 a0) := i0
  have j2 : (w8.drewN nq).cell? ⟨w.heap.size, 2, none⟩ = some (.int .u32 b0) := i2
  clear i0 i2
  generalize w8.drewN nq = w9 at *
  go_wp2_with fail
  refine (ref_signed _ _ q0).mono ?_
  rintro e w' ⟨rfl, rfl⟩
  by_cases hs : W.sg b0 ≤ 0
  · have d1 : decide (W.sg b0 ≤ 0) = true := decide_eq_true hs
    go_wp2_with fail
    refine (known_walk _).mono ?_
    rintro e w5 ⟨rfl, hb5⟩
    go_wp2_with fail
    go_ret
    exact ⟨rfl, bel_then B9.out hb5⟩
  · have d1 : decide (W.sg b0 ≤ 0) = false := decide_eq_false hs
    have hq : 0 < b0 ∧ b0 < 2147483648 := by unfold W.sg at hs; split at hs <;> omega
    have HV := Lib.hid (does_v hk p0 p1 hq q1)
    obtain ⟨d', hd'⟩ : ∃ d, d = v2 c a0 a1 b0 b1 := ⟨_, rfl⟩
    have HD' := Lib.hid hd'
    obtain ⟨m, hm⟩ : ∃ m, m = W.quo a0 b0 := ⟨_, rfl⟩
    obtain ⟨n, hn⟩ : ∃ n, n = W.rem a0 b0 := ⟨_, rfl⟩
    have hr' := v2_regs c a0 a1 b0 b1
    rw [← hd', ← hm, ← hn] at hr'
    have cm := Lib.hid (reg_cell d' w 4 (by decide) hr'.1.symm)
    have cn := Lib.hid (reg_cell d' w 5 (by decide) hr'.2.symm)
    have HM := Lib.hid hm
    have HN := Lib.hid hn
    have HQ := Lib.hid hq
    clear hr' hm hn hd' hs
    go_wp2_with (first | (refine load_sep rfl 25 (.tmp 3) rfl G9.out 2 rfl rfl Try.underlying25 rfl (by kernel_rfl) ?_))
    have H5 := G9.out.alloc (insRow vL).toArray 35
    have B5 := bel_then B9.out (bel1 w9 (.cells (insRow vL).toArray 35))
    refine (ops_walk' HD'.out.symm HV.out (H5.at 0 rfl) (by simp [vL])).mono ?_
    rintro e w10 ⟨rfl, hb6⟩
    have H10 := H5.bel hb6
    have B10 := Lib.hid (bel_then B5 hb6)
    clear hb6 H5 B5 G9 j0 j2
    go_wp2_with (first | (refine alloc_sep rfl 25 rfl H10 (z := Cpu.zero.val) (cs := Cpu.zero.cells) (by kernel_rfl) rfl ?_; intro w11 H11 b11 n11; clear H10) | (refine store_sep rfl 25 (.tmp 11) (.tmp 102) rfl H11 0 rfl rfl rfl (by kernel_rfl) rfl ?_ ?_; rfl; intro w12 H12 k12 n12; clear H11; have B12 := Lib.hid (bel_ke (bel_then B10.out b11) k12 B10.out.size); have u4 := ((H12.at 0 rfl).cell 4).trans cm.out; have u5 := ((H12.at 0 rfl).cell 5).trans cn.out; have j0 := ((H12.at 4 rfl).cell 0).trans (show (w0 c a0 a1 b0 b1).cells[0]? = some (.int .u32 a0) by simp [Cpu.cells, w0]); have j2 := ((H12.at 4 rfl).cell 2).trans (show (w0 c a0 a1 b0 b1).cells[2]? = some (.int .u32 b0) by simp [Cpu.cells, w0]); clear H12 k12 n12 b11 n11))
    refine (ref_div _ _ _ p0 HQ.out).mono ?_
    rw [← HM.out, ← HN.out]
    rintro e w' ⟨rfl, rfl⟩
    go_wp2_with fail
    refine (known_walk _).mono ?_
    rintro e w5 ⟨rfl, hb5⟩
    go_wp2_with fail
    go_ret
    exact ⟨rfl, bel_then B12.out hb5⟩

end Go.Proofs.Ytkeaogphaifnmaa
