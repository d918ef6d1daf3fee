/- Contract of isa.bare at an instruction that may be: itself. -/
import Derived.Test.YtmnmbpenonodiaaDoorIsaPack2
import Derived.Test.YtmnmbpenonodiaaDoorRiscOf
import Derived.Test.YtmnmbpenonodiaaDoorSepMore
import Derived.Test.YtmnmbpenonodiaaDoorIsaText
namespace Go.Proofs.YtmnmbpenonodiaaDoor
set_option linter.unusedVariables false
set_option linter.unusedSimpArgs false
open Go.RowKit

theorem sz_i64 : (Tryd.prog.info? 3).map (·.size) = some 1 := by kernel_rfl
set_option maxRecDepth 20000 in
set_option maxHeartbeats 8000000 in
theorem bare_0 (u : Bool) (a b c op : Int) (w : World) : Calls Tryd.prog 32 #[(Ins.mk 0 u false a b c op 0 0 0 0).val] w fun e w' => e = .returned (Ins.mk 0 u false a b c op 0 0 0 0).val ∧ Below w.heap.size w w' := by
  have H0 := (Sep.nil w).alloc3 #[.int .i64 0, .bool u, .bool false, .int .i64 a, .int .i64 b, .int .i64 c, .int .i64 op, .int .i64 0, .int .i64 0, .int .i64 0, .int .i64 0] #[.int .i64 0, .bool false, .bool false, .int .i64 0, .int .i64 0, .int .i64 0, .int .i64 0, .int .i64 0, .int .i64 0, .int .i64 0, .int .i64 0] #[.int .i64 0, .bool false, .bool false, .int .i64 0, .int .i64 0, .int .i64 0, .int .i64 0, .int .i64 0, .int .i64 0, .int .i64 0, .int .i64 0] 29 29 29
  have B0 := Lib.hid (bel3 w (.cells #[.int .i64 0, .bool u, .bool false, .int .i64 a, .int .i64 b, .int .i64 c, .int .i64 op, .int .i64 0, .int .i64 0, .int .i64 0, .int .i64 0] 29) (.cells #[.int .i64 0, .bool false, .bool false, .int .i64 0, .int .i64 0, .int .i64 0, .int .i64 0, .int .i64 0, .int .i64 0, .int .i64 0, .int .i64 0] 29) (.cells #[.int .i64 0, .bool false, .bool false, .int .i64 0, .int .i64 0, .int .i64 0, .int .i64 0, .int .i64 0, .int .i64 0, .int .i64 0, .int .i64 0] 29))
  have f0 : ((w.alloc (.cells #[.int .i64 0, .bool u, .bool false, .int .i64 a, .int .i64 b, .int .i64 c, .int .i64 op, .int .i64 0, .int .i64 0, .int .i64 0, .int .i64 0] 29)).alloc (.cells #[.int .i64 0, .bool false, .bool false, .int .i64 0, .int .i64 0, .int .i64 0, .int .i64 0, .int .i64 0, .int .i64 0, .int .i64 0, .int .i64 0] 29)).cell? ⟨w.heap.size, 0, none⟩ = some (.int .i64 0) := ((((Sep.nil w).alloc2 #[.int .i64 0, .bool u, .bool false, .int .i64 a, .int .i64 b, .int .i64 c, .int .i64 op, .int .i64 0, .int .i64 0, .int .i64 0, .int .i64 0] #[.int .i64 0, .bool false, .bool false, .int .i64 0, .int .i64 0, .int .i64 0, .int .i64 0, .int .i64 0, .int .i64 0, .int .i64 0, .int .i64 0] 29 29).at 1 rfl).cell 0).trans rfl
  go_enter Tryd.func32, Tryd.ntmps32
  go_wp2_with (refine store_sep rfl 29 (.tmp 3) (.tmp 6) rfl H0 0 rfl rfl rfl rfl (by kernel_rfl) rfl ?_; intro w1 H1 k1 s1; have B1 := Lib.hid (bel_keG B0.out k1 (by intro i hi; omega)); have c0 : w1.cell? ⟨w.heap.size, 0, none⟩ = some (.int .i64 0) := ((H1.at 2 rfl).cell 0).trans rfl; clear H0 f0 k1 s1)
  refine wp_region_mixK (· = w.heap.size + 2) [([0, 1, 2, 3, 4, 5, 6, 7, 8], 9), ([10], 11), ([12], 13), ([14], 15)] [] (by kernel_rfl) (by kernel_rfl) (fun _ _ d _ _ h => by cases d <;> exact h) ?_
  intro w2 hb
  have H2 := H1.bel hb
  have B2 := Lib.hid (bel_then B1.out hb)
  clear hb c0
  have l1 := (H2.at 2 rfl).laterCell (G := (· = w.heap.size + 2)) (by omega) 1 (v := .bool u) rfl
  have l3 := (H2.at 2 rfl).laterCell (G := (· = w.heap.size + 2)) (by omega) 3 (v := .int .i64 a) rfl
  have l4 := (H2.at 2 rfl).laterCell (G := (· = w.heap.size + 2)) (by omega) 4 (v := .int .i64 b) rfl
  have l6 := (H2.at 2 rfl).laterCell (G := (· = w.heap.size + 2)) (by omega) 6 (v := .int .i64 op) rfl
  refine mixK_step ?_
  simp only [pickOps, nth]
  (repeat (go_big_quiet_step (fail)))
  refine wpQuiet_nil ?_
  go_wp2_with (refine store1_sep rfl 4 (.tmp 36) (.tmp 29) rfl H2 0 rfl rfl rfl rfl (by kernel_rfl) rfl ?_; intro w3 H3 k s; have B3 := Lib.hid (bel_keG B2.out k (by intro i hi; omega)); have K3 := Lib.hid k; clear k s)
  clear l1 l3 l4 l6
  refine ⟨K3.out, mixK_step ?_⟩
  simp only [pickOps, nth, Act.put, List.setIfInBounds_toArray, List.set_cons_succ, List.set_cons_zero]
  (repeat (go_big_quiet_step (fail)))
  refine wpQuiet_nil ?_
  go_wp2_with (refine store1_sep rfl 3 (.tmp 37) (.tmp 31) rfl H3 0 rfl rfl rfl rfl (by kernel_rfl) rfl ?_; intro w4 H4 k s; have B4 := Lib.hid (bel_keG B3.out k (by intro i hi; omega)); have K4 := Lib.hid k; clear k s)
  refine ⟨K4.out, mixK_step ?_⟩
  simp only [pickOps, nth, Act.put, List.setIfInBounds_toArray, List.set_cons_succ, List.set_cons_zero]
  (repeat (go_big_quiet_step (fail)))
  refine wpQuiet_nil ?_
  go_wp2_with (refine store1_sep rfl 3 (.tmp 38) (.tmp 33) rfl H4 0 rfl rfl rfl rfl (by kernel_rfl) rfl ?_; intro w5 H5 k s; have B5 := Lib.hid (bel_keG B4.out k (by intro i hi; omega)); have K5 := Lib.hid k; clear k s)
  refine ⟨K5.out, mixK_step ?_⟩
  simp only [pickOps, nth, Act.put, List.setIfInBounds_toArray, List.set_cons_succ, List.set_cons_zero]
  (repeat (go_big_quiet_step (fail)))
  refine wpQuiet_nil ?_
  go_wp2_with (refine store1_sep rfl 3 (.tmp 39) (.tmp 35) rfl H5 0 rfl rfl rfl rfl (by kernel_rfl) rfl ?_; intro w6 H6 k s; have B6 := Lib.hid (bel_keG B5.out k (by intro i hi; omega)); have K6 := Lib.hid k; clear k s)
  refine ⟨K6.out, mixK_end ?_⟩
  simp only [pickOps, nth, Act.put, List.setIfInBounds_toArray, List.set_cons_succ, List.set_cons_zero]
  refine wpQuiet_nil ?_
  have c0 : w6.cell? ⟨w.heap.size, 0, none⟩ = some (.int .i64 0) := ((H6.at 2 rfl).cell 0).trans rfl
  have c5 : w6.cell? ⟨w.heap.size, 5, none⟩ = some (.int .i64 c) := ((H6.at 2 rfl).cell 5).trans rfl
  go_wp2_with (first | (refine store1_sep rfl 3 (.tmp 45) (.tmp 44) rfl H6 0 rfl rfl rfl rfl (by kernel_rfl) rfl ?_; intro w7 H7 k s; have B7 := Lib.hid (bel_keG B6.out k (by intro i hi; omega)); clear k s c0 c5) | (refine load_sep rfl 29 (.tmp 3) rfl H7 0 rfl rfl Tryd.underlying29 rfl (by kernel_rfl) ?_) | (refine store_sep rfl 29 (.tmp 2) (.tmp 82) rfl H7 1 rfl rfl rfl rfl (by kernel_rfl) rfl ?_; intro wz Hz k s; have Bz := Lib.hid (bel_keG B7.out k (by intro i hi; omega)); clear k s))
  exact bodyPost_ret (res_cell rfl rfl (Hz.at 1 rfl) Tryd.underlying29 rfl (by kernel_rfl)) rfl ⟨rfl, Bz.out⟩

set_option maxRecDepth 20000 in
set_option maxHeartbeats 8000000 in
theorem bare_1 (u v : Bool) (a b op im : Int) (w : World) : Calls Tryd.prog 32 #[(Ins.mk 1 u v a b 0 op im 0 0 0).val] w fun e w' => e = .returned (Ins.mk 1 u v a b 0 op im 0 0 0).val ∧ Below w.heap.size w w' := by
  have H0 := (Sep.nil w).alloc3 #[.int .i64 1, .bool u, .bool v, .int .i64 a, .int .i64 b, .int .i64 0, .int .i64 op, .int .i64 im, .int .i64 0, .int .i64 0, .int .i64 0] #[.int .i64 0, .bool false, .bool false, .int .i64 0, .int .i64 0, .int .i64 0, .int .i64 0, .int .i64 0, .int .i64 0, .int .i64 0, .int .i64 0] #[.int .i64 0, .bool false, .bool false, .int .i64 0, .int .i64 0, .int .i64 0, .int .i64 0, .int .i64 0, .int .i64 0, .int .i64 0, .int .i64 0] 29 29 29
  have B0 := Lib.hid (bel3 w (.cells #[.int .i64 1, .bool u, .bool v, .int .i64 a, .int .i64 b, .int .i64 0, .int .i64 op, .int .i64 im, .int .i64 0, .int .i64 0, .int .i64 0] 29) (.cells #[.int .i64 0, .bool false, .bool false, .int .i64 0, .int .i64 0, .int .i64 0, .int .i64 0, .int .i64 0, .int .i64 0, .int .i64 0, .int .i64 0] 29) (.cells #[.int .i64 0, .bool false, .bool false, .int .i64 0, .int .i64 0, .int .i64 0, .int .i64 0, .int .i64 0, .int .i64 0, .int .i64 0, .int .i64 0] 29))
  have f0 : ((w.alloc (.cells #[.int .i64 1, .bool u, .bool v, .int .i64 a, .int .i64 b, .int .i64 0, .int .i64 op, .int .i64 im, .int .i64 0, .int .i64 0, .int .i64 0] 29)).alloc (.cells #[.int .i64 0, .bool false, .bool false, .int .i64 0, .int .i64 0, .int .i64 0, .int .i64 0, .int .i64 0, .int .i64 0, .int .i64 0, .int .i64 0] 29)).cell? ⟨w.heap.size, 0, none⟩ = some (.int .i64 1) := ((((Sep.nil w).alloc2 #[.int .i64 1, .bool u, .bool v, .int .i64 a, .int .i64 b, .int .i64 0, .int .i64 op, .int .i64 im, .int .i64 0, .int .i64 0, .int .i64 0] #[.int .i64 0, .bool false, .bool false, .int .i64 0, .int .i64 0, .int .i64 0, .int .i64 0, .int .i64 0, .int .i64 0, .int .i64 0, .int .i64 0] 29 29).at 1 rfl).cell 0).trans rfl
  go_enter Tryd.func32, Tryd.ntmps32
  go_wp2_with (refine store_sep rfl 29 (.tmp 3) (.tmp 6) rfl H0 0 rfl rfl rfl rfl (by kernel_rfl) rfl ?_; intro w1 H1 k1 s1; have B1 := Lib.hid (bel_keG B0.out k1 (by intro i hi; omega)); have c0 : w1.cell? ⟨w.heap.size, 0, none⟩ = some (.int .i64 1) := ((H1.at 2 rfl).cell 0).trans rfl; clear H0 f0 k1 s1)
  refine wp_region_mixK (· = w.heap.size + 2) [([0, 1, 2, 3, 4], 5), ([6], 7)] [] (by kernel_rfl) (by kernel_rfl) (fun _ _ d _ _ h => by cases d <;> exact h) ?_
  intro w2 hb
  have H2 := H1.bel hb
  have B2 := Lib.hid (bel_then B1.out hb)
  clear hb c0
  have l2 := (H2.at 2 rfl).laterCell (G := (· = w.heap.size + 2)) (by omega) 2 (v := .bool v) rfl
  have l7 := (H2.at 2 rfl).laterCell (G := (· = w.heap.size + 2)) (by omega) 7 (v := .int .i64 im) rfl
  refine mixK_step ?_
  simp only [pickOps, nth]
  (repeat (go_big_quiet_step (fail)))
  refine wpQuiet_nil ?_
  go_wp2_with (refine store1_sep rfl 4 (.tmp 26) (.tmp 23) rfl H2 0 rfl rfl rfl rfl (by kernel_rfl) rfl ?_; intro w3 H3 k s; have B3 := Lib.hid (bel_keG B2.out k (by intro i hi; omega)); have K3 := Lib.hid k; clear k s)
  clear l2 l7
  refine ⟨K3.out, mixK_step ?_⟩
  simp only [pickOps, nth, Act.put, List.setIfInBounds_toArray, List.set_cons_succ, List.set_cons_zero]
  (repeat (go_big_quiet_step (fail)))
  refine wpQuiet_nil ?_
  go_wp2_with (refine store1_sep rfl 3 (.tmp 27) (.tmp 25) rfl H3 0 rfl rfl rfl rfl (by kernel_rfl) rfl ?_; intro w4 H4 k s; have B4 := Lib.hid (bel_keG B3.out k (by intro i hi; omega)); have K4 := Lib.hid k; clear k s)
  refine ⟨K4.out, mixK_end ?_⟩
  simp only [pickOps, nth, Act.put, List.setIfInBounds_toArray, List.set_cons_succ, List.set_cons_zero]
  refine wpQuiet_nil ?_
  have c0 : w4.cell? ⟨w.heap.size, 0, none⟩ = some (.int .i64 1) := ((H4.at 2 rfl).cell 0).trans rfl
  go_wp2_with fail
  refine wp_region_mixK (· = w.heap.size + 2) [([0, 1, 2, 3, 4, 5, 6, 7, 8], 9), ([10], 11), ([12], 13), ([14], 15)] [] (by kernel_rfl) (by kernel_rfl) (fun _ _ d _ _ h => by cases d <;> exact h) ?_
  intro w5 hb
  have H5 := H4.bel hb
  have B5 := Lib.hid (bel_then B4.out hb)
  clear hb c0
  have l1 := (H5.at 2 rfl).laterCell (G := (· = w.heap.size + 2)) (by omega) 1 (v := .bool u) rfl
  have l3 := (H5.at 2 rfl).laterCell (G := (· = w.heap.size + 2)) (by omega) 3 (v := .int .i64 a) rfl
  have l4 := (H5.at 2 rfl).laterCell (G := (· = w.heap.size + 2)) (by omega) 4 (v := .int .i64 b) rfl
  have l6 := (H5.at 2 rfl).laterCell (G := (· = w.heap.size + 2)) (by omega) 6 (v := .int .i64 op) rfl
  refine mixK_step ?_
  simp only [pickOps, nth]
  (repeat (go_big_quiet_step (fail)))
  refine wpQuiet_nil ?_
  go_wp2_with (refine store1_sep rfl 4 (.tmp 36) (.tmp 29) rfl H5 0 rfl rfl rfl rfl (by kernel_rfl) rfl ?_; intro w6 H6 k s; have B6 := Lib.hid (bel_keG B5.out k (by intro i hi; omega)); have K6 := Lib.hid k; clear k s)
  clear l1 l3 l4 l6
  refine ⟨K6.out, mixK_step ?_⟩
  simp only [pickOps, nth, Act.put, List.setIfInBounds_toArray, List.set_cons_succ, List.set_cons_zero]
  (repeat (go_big_quiet_step (fail)))
  refine wpQuiet_nil ?_
  go_wp2_with (refine store1_sep rfl 3 (.tmp 37) (.tmp 31) rfl H6 0 rfl rfl rfl rfl (by kernel_rfl) rfl ?_; intro w7 H7 k s; have B7 := Lib.hid (bel_keG B6.out k (by intro i hi; omega)); have K7 := Lib.hid k; clear k s)
  refine ⟨K7.out, mixK_step ?_⟩
  simp only [pickOps, nth, Act.put, List.setIfInBounds_toArray, List.set_cons_succ, List.set_cons_zero]
  (repeat (go_big_quiet_step (fail)))
  refine wpQuiet_nil ?_
  go_wp2_with (refine store1_sep rfl 3 (.tmp 38) (.tmp 33) rfl H7 0 rfl rfl rfl rfl (by kernel_rfl) rfl ?_; intro w8 H8 k s; have B8 := Lib.hid (bel_keG B7.out k (by intro i hi; omega)); have K8 := Lib.hid k; clear k s)
  refine ⟨K8.out, mixK_step ?_⟩
  simp only [pickOps, nth, Act.put, List.setIfInBounds_toArray, List.set_cons_succ, List.set_cons_zero]
  (repeat (go_big_quiet_step (fail)))
  refine wpQuiet_nil ?_
  go_wp2_with (refine store1_sep rfl 3 (.tmp 39) (.tmp 35) rfl H8 0 rfl rfl rfl rfl (by kernel_rfl) rfl ?_; intro w9 H9 k s; have B9 := Lib.hid (bel_keG B8.out k (by intro i hi; omega)); have K9 := Lib.hid k; clear k s)
  refine ⟨K9.out, mixK_end ?_⟩
  simp only [pickOps, nth, Act.put, List.setIfInBounds_toArray, List.set_cons_succ, List.set_cons_zero]
  refine wpQuiet_nil ?_
  have c0 : w9.cell? ⟨w.heap.size, 0, none⟩ = some (.int .i64 1) := ((H9.at 2 rfl).cell 0).trans rfl
  go_wp2_with (first | (refine load_sep rfl 29 (.tmp 3) rfl H9 0 rfl rfl Tryd.underlying29 rfl (by kernel_rfl) ?_) | (refine store_sep rfl 29 (.tmp 2) (.tmp 82) rfl H9 1 rfl rfl rfl rfl (by kernel_rfl) rfl ?_; intro wz Hz k s; have Bz := Lib.hid (bel_keG B9.out k (by intro i hi; omega)); clear k s))
  exact bodyPost_ret (res_cell rfl rfl (Hz.at 1 rfl) Tryd.underlying29 rfl (by kernel_rfl)) rfl ⟨rfl, Bz.out⟩

set_option maxRecDepth 20000 in
set_option maxHeartbeats 8000000 in
theorem bare_2 (v : Bool) (a b off : Int) (w : World) : Calls Tryd.prog 32 #[(Ins.mk 2 false v a b 0 0 0 off 0 0).val] w fun e w' => e = .returned (Ins.mk 2 false v a b 0 0 0 off 0 0).val ∧ Below w.heap.size w w' := by
  have H0 := (Sep.nil w).alloc3 #[.int .i64 2, .bool false, .bool v, .int .i64 a, .int .i64 b, .int .i64 0, .int .i64 0, .int .i64 0, .int .i64 off, .int .i64 0, .int .i64 0] #[.int .i64 0, .bool false, .bool false, .int .i64 0, .int .i64 0, .int .i64 0, .int .i64 0, .int .i64 0, .int .i64 0, .int .i64 0, .int .i64 0] #[.int .i64 0, .bool false, .bool false, .int .i64 0, .int .i64 0, .int .i64 0, .int .i64 0, .int .i64 0, .int .i64 0, .int .i64 0, .int .i64 0] 29 29 29
  have B0 := Lib.hid (bel3 w (.cells #[.int .i64 2, .bool false, .bool v, .int .i64 a, .int .i64 b, .int .i64 0, .int .i64 0, .int .i64 0, .int .i64 off, .int .i64 0, .int .i64 0] 29) (.cells #[.int .i64 0, .bool false, .bool false, .int .i64 0, .int .i64 0, .int .i64 0, .int .i64 0, .int .i64 0, .int .i64 0, .int .i64 0, .int .i64 0] 29) (.cells #[.int .i64 0, .bool false, .bool false, .int .i64 0, .int .i64 0, .int .i64 0, .int .i64 0, .int .i64 0, .int .i64 0, .int .i64 0, .int .i64 0] 29))
  have f0 : ((w.alloc (.cells #[.int .i64 2, .bool false, .bool v, .int .i64 a, .int .i64 b, .int .i64 0, .int .i64 0, .int .i64 0, .int .i64 off, .int .i64 0, .int .i64 0] 29)).alloc (.cells #[.int .i64 0, .bool false, .bool false, .int .i64 0, .int .i64 0, .int .i64 0, .int .i64 0, .int .i64 0, .int .i64 0, .int .i64 0, .int .i64 0] 29)).cell? ⟨w.heap.size, 0, none⟩ = some (.int .i64 2) := ((((Sep.nil w).alloc2 #[.int .i64 2, .bool false, .bool v, .int .i64 a, .int .i64 b, .int .i64 0, .int .i64 0, .int .i64 0, .int .i64 off, .int .i64 0, .int .i64 0] #[.int .i64 0, .bool false, .bool false, .int .i64 0, .int .i64 0, .int .i64 0, .int .i64 0, .int .i64 0, .int .i64 0, .int .i64 0, .int .i64 0] 29 29).at 1 rfl).cell 0).trans rfl
  go_enter Tryd.func32, Tryd.ntmps32
  go_wp2_with (refine store_sep rfl 29 (.tmp 3) (.tmp 6) rfl H0 0 rfl rfl rfl rfl (by kernel_rfl) rfl ?_; intro w1 H1 k1 s1; have B1 := Lib.hid (bel_keG B0.out k1 (by intro i hi; omega)); have c0 : w1.cell? ⟨w.heap.size, 0, none⟩ = some (.int .i64 2) := ((H1.at 2 rfl).cell 0).trans rfl; clear H0 f0 k1 s1)
  refine wp_region_mixK (· = w.heap.size + 2) [([0, 1, 2, 3, 4, 5, 6, 7, 8], 9), ([10], 11), ([12], 13), ([14], 15)] [] (by kernel_rfl) (by kernel_rfl) (fun _ _ d _ _ h => by cases d <;> exact h) ?_
  intro w2 hb
  have H2 := H1.bel hb
  have B2 := Lib.hid (bel_then B1.out hb)
  clear hb c0
  have l2 := (H2.at 2 rfl).laterCell (G := (· = w.heap.size + 2)) (by omega) 2 (v := .bool v) rfl
  have l3 := (H2.at 2 rfl).laterCell (G := (· = w.heap.size + 2)) (by omega) 3 (v := .int .i64 a) rfl
  have l4 := (H2.at 2 rfl).laterCell (G := (· = w.heap.size + 2)) (by omega) 4 (v := .int .i64 b) rfl
  have l8 := (H2.at 2 rfl).laterCell (G := (· = w.heap.size + 2)) (by omega) 8 (v := .int .i64 off) rfl
  refine mixK_step ?_
  simp only [pickOps, nth]
  (repeat (go_big_quiet_step (fail)))
  refine wpQuiet_nil ?_
  go_wp2_with (refine store1_sep rfl 4 (.tmp 54) (.tmp 47) rfl H2 0 rfl rfl rfl rfl (by kernel_rfl) rfl ?_; intro w3 H3 k s; have B3 := Lib.hid (bel_keG B2.out k (by intro i hi; omega)); have K3 := Lib.hid k; clear k s)
  clear l2 l3 l4 l8
  refine ⟨K3.out, mixK_step ?_⟩
  simp only [pickOps, nth, Act.put, List.setIfInBounds_toArray, List.set_cons_succ, List.set_cons_zero]
  (repeat (go_big_quiet_step (fail)))
  refine wpQuiet_nil ?_
  go_wp2_with (refine store1_sep rfl 3 (.tmp 55) (.tmp 49) rfl H3 0 rfl rfl rfl rfl (by kernel_rfl) rfl ?_; intro w4 H4 k s; have B4 := Lib.hid (bel_keG B3.out k (by intro i hi; omega)); have K4 := Lib.hid k; clear k s)
  refine ⟨K4.out, mixK_step ?_⟩
  simp only [pickOps, nth, Act.put, List.setIfInBounds_toArray, List.set_cons_succ, List.set_cons_zero]
  (repeat (go_big_quiet_step (fail)))
  refine wpQuiet_nil ?_
  go_wp2_with (refine store1_sep rfl 3 (.tmp 56) (.tmp 51) rfl H4 0 rfl rfl rfl rfl (by kernel_rfl) rfl ?_; intro w5 H5 k s; have B5 := Lib.hid (bel_keG B4.out k (by intro i hi; omega)); have K5 := Lib.hid k; clear k s)
  refine ⟨K5.out, mixK_step ?_⟩
  simp only [pickOps, nth, Act.put, List.setIfInBounds_toArray, List.set_cons_succ, List.set_cons_zero]
  (repeat (go_big_quiet_step (fail)))
  refine wpQuiet_nil ?_
  go_wp2_with (refine store1_sep rfl 3 (.tmp 57) (.tmp 53) rfl H5 0 rfl rfl rfl rfl (by kernel_rfl) rfl ?_; intro w6 H6 k s; have B6 := Lib.hid (bel_keG B5.out k (by intro i hi; omega)); have K6 := Lib.hid k; clear k s)
  refine ⟨K6.out, mixK_end ?_⟩
  simp only [pickOps, nth, Act.put, List.setIfInBounds_toArray, List.set_cons_succ, List.set_cons_zero]
  refine wpQuiet_nil ?_
  have c0 : w6.cell? ⟨w.heap.size, 0, none⟩ = some (.int .i64 2) := ((H6.at 2 rfl).cell 0).trans rfl
  go_wp2_with (first | (refine load_sep rfl 29 (.tmp 3) rfl H6 0 rfl rfl Tryd.underlying29 rfl (by kernel_rfl) ?_) | (refine store_sep rfl 29 (.tmp 2) (.tmp 82) rfl H6 1 rfl rfl rfl rfl (by kernel_rfl) rfl ?_; intro wz Hz k s; have Bz := Lib.hid (bel_keG B6.out k (by intro i hi; omega)); clear k s))
  exact bodyPost_ret (res_cell rfl rfl (Hz.at 1 rfl) Tryd.underlying29 rfl (by kernel_rfl)) rfl ⟨rfl, Bz.out⟩

set_option maxRecDepth 20000 in
set_option maxHeartbeats 8000000 in
theorem bare_3 (v : Bool) (a b off : Int) (w : World) : Calls Tryd.prog 32 #[(Ins.mk 3 false v a b 0 0 0 off 0 0).val] w fun e w' => e = .returned (Ins.mk 3 false v a b 0 0 0 off 0 0).val ∧ Below w.heap.size w w' := by
  have H0 := (Sep.nil w).alloc3 #[.int .i64 3, .bool false, .bool v, .int .i64 a, .int .i64 b, .int .i64 0, .int .i64 0, .int .i64 0, .int .i64 off, .int .i64 0, .int .i64 0] #[.int .i64 0, .bool false, .bool false, .int .i64 0, .int .i64 0, .int .i64 0, .int .i64 0, .int .i64 0, .int .i64 0, .int .i64 0, .int .i64 0] #[.int .i64 0, .bool false, .bool false, .int .i64 0, .int .i64 0, .int .i64 0, .int .i64 0, .int .i64 0, .int .i64 0, .int .i64 0, .int .i64 0] 29 29 29
  have B0 := Lib.hid (bel3 w (.cells #[.int .i64 3, .bool false, .bool v, .int .i64 a, .int .i64 b, .int .i64 0, .int .i64 0, .int .i64 0, .int .i64 off, .int .i64 0, .int .i64 0] 29) (.cells #[.int .i64 0, .bool false, .bool false, .int .i64 0, .int .i64 0, .int .i64 0, .int .i64 0, .int .i64 0, .int .i64 0, .int .i64 0, .int .i64 0] 29) (.cells #[.int .i64 0, .bool false, .bool false, .int .i64 0, .int .i64 0, .int .i64 0, .int .i64 0, .int .i64 0, .int .i64 0, .int .i64 0, .int .i64 0] 29))
  have f0 : ((w.alloc (.cells #[.int .i64 3, .bool false, .bool v, .int .i64 a, .int .i64 b, .int .i64 0, .int .i64 0, .int .i64 0, .int .i64 off, .int .i64 0, .int .i64 0] 29)).alloc (.cells #[.int .i64 0, .bool false, .bool false, .int .i64 0, .int .i64 0, .int .i64 0, .int .i64 0, .int .i64 0, .int .i64 0, .int .i64 0, .int .i64 0] 29)).cell? ⟨w.heap.size, 0, none⟩ = some (.int .i64 3) := ((((Sep.nil w).alloc2 #[.int .i64 3, .bool false, .bool v, .int .i64 a, .int .i64 b, .int .i64 0, .int .i64 0, .int .i64 0, .int .i64 off, .int .i64 0, .int .i64 0] #[.int .i64 0, .bool false, .bool false, .int .i64 0, .int .i64 0, .int .i64 0, .int .i64 0, .int .i64 0, .int .i64 0, .int .i64 0, .int .i64 0] 29 29).at 1 rfl).cell 0).trans rfl
  go_enter Tryd.func32, Tryd.ntmps32
  go_wp2_with (refine store_sep rfl 29 (.tmp 3) (.tmp 6) rfl H0 0 rfl rfl rfl rfl (by kernel_rfl) rfl ?_; intro w1 H1 k1 s1; have B1 := Lib.hid (bel_keG B0.out k1 (by intro i hi; omega)); have c0 : w1.cell? ⟨w.heap.size, 0, none⟩ = some (.int .i64 3) := ((H1.at 2 rfl).cell 0).trans rfl; clear H0 f0 k1 s1)
  refine wp_region_mixK (· = w.heap.size + 2) [([0, 1, 2, 3, 4, 5, 6, 7, 8], 9), ([10], 11), ([12], 13), ([14], 15)] [] (by kernel_rfl) (by kernel_rfl) (fun _ _ d _ _ h => by cases d <;> exact h) ?_
  intro w2 hb
  have H2 := H1.bel hb
  have B2 := Lib.hid (bel_then B1.out hb)
  clear hb c0
  have l2 := (H2.at 2 rfl).laterCell (G := (· = w.heap.size + 2)) (by omega) 2 (v := .bool v) rfl
  have l3 := (H2.at 2 rfl).laterCell (G := (· = w.heap.size + 2)) (by omega) 3 (v := .int .i64 a) rfl
  have l4 := (H2.at 2 rfl).laterCell (G := (· = w.heap.size + 2)) (by omega) 4 (v := .int .i64 b) rfl
  have l8 := (H2.at 2 rfl).laterCell (G := (· = w.heap.size + 2)) (by omega) 8 (v := .int .i64 off) rfl
  refine mixK_step ?_
  simp only [pickOps, nth]
  (repeat (go_big_quiet_step (fail)))
  refine wpQuiet_nil ?_
  go_wp2_with (refine store1_sep rfl 4 (.tmp 54) (.tmp 47) rfl H2 0 rfl rfl rfl rfl (by kernel_rfl) rfl ?_; intro w3 H3 k s; have B3 := Lib.hid (bel_keG B2.out k (by intro i hi; omega)); have K3 := Lib.hid k; clear k s)
  clear l2 l3 l4 l8
  refine ⟨K3.out, mixK_step ?_⟩
  simp only [pickOps, nth, Act.put, List.setIfInBounds_toArray, List.set_cons_succ, List.set_cons_zero]
  (repeat (go_big_quiet_step (fail)))
  refine wpQuiet_nil ?_
  go_wp2_with (refine store1_sep rfl 3 (.tmp 55) (.tmp 49) rfl H3 0 rfl rfl rfl rfl (by kernel_rfl) rfl ?_; intro w4 H4 k s; have B4 := Lib.hid (bel_keG B3.out k (by intro i hi; omega)); have K4 := Lib.hid k; clear k s)
  refine ⟨K4.out, mixK_step ?_⟩
  simp only [pickOps, nth, Act.put, List.setIfInBounds_toArray, List.set_cons_succ, List.set_cons_zero]
  (repeat (go_big_quiet_step (fail)))
  refine wpQuiet_nil ?_
  go_wp2_with (refine store1_sep rfl 3 (.tmp 56) (.tmp 51) rfl H4 0 rfl rfl rfl rfl (by kernel_rfl) rfl ?_; intro w5 H5 k s; have B5 := Lib.hid (bel_keG B4.out k (by intro i hi; omega)); have K5 := Lib.hid k; clear k s)
  refine ⟨K5.out, mixK_step ?_⟩
  simp only [pickOps, nth, Act.put, List.setIfInBounds_toArray, List.set_cons_succ, List.set_cons_zero]
  (repeat (go_big_quiet_step (fail)))
  refine wpQuiet_nil ?_
  go_wp2_with (refine store1_sep rfl 3 (.tmp 57) (.tmp 53) rfl H5 0 rfl rfl rfl rfl (by kernel_rfl) rfl ?_; intro w6 H6 k s; have B6 := Lib.hid (bel_keG B5.out k (by intro i hi; omega)); have K6 := Lib.hid k; clear k s)
  refine ⟨K6.out, mixK_end ?_⟩
  simp only [pickOps, nth, Act.put, List.setIfInBounds_toArray, List.set_cons_succ, List.set_cons_zero]
  refine wpQuiet_nil ?_
  have c0 : w6.cell? ⟨w.heap.size, 0, none⟩ = some (.int .i64 3) := ((H6.at 2 rfl).cell 0).trans rfl
  go_wp2_with (first | (refine load_sep rfl 29 (.tmp 3) rfl H6 0 rfl rfl Tryd.underlying29 rfl (by kernel_rfl) ?_) | (refine store_sep rfl 29 (.tmp 2) (.tmp 82) rfl H6 1 rfl rfl rfl rfl (by kernel_rfl) rfl ?_; intro wz Hz k s; have Bz := Lib.hid (bel_keG B6.out k (by intro i hi; omega)); clear k s))
  exact bodyPost_ret (res_cell rfl rfl (Hz.at 1 rfl) Tryd.underlying29 rfl (by kernel_rfl)) rfl ⟨rfl, Bz.out⟩

set_option maxRecDepth 20000 in
set_option maxHeartbeats 8000000 in
theorem bare_4 (v : Bool) (cond off : Int) (w : World) : Calls Tryd.prog 32 #[(Ins.mk 4 false v 0 0 0 0 0 off cond 0).val] w fun e w' => e = .returned (Ins.mk 4 false v 0 0 0 0 0 off cond 0).val ∧ Below w.heap.size w w' := by
  have H0 := (Sep.nil w).alloc3 #[.int .i64 4, .bool false, .bool v, .int .i64 0, .int .i64 0, .int .i64 0, .int .i64 0, .int .i64 0, .int .i64 off, .int .i64 cond, .int .i64 0] #[.int .i64 0, .bool false, .bool false, .int .i64 0, .int .i64 0, .int .i64 0, .int .i64 0, .int .i64 0, .int .i64 0, .int .i64 0, .int .i64 0] #[.int .i64 0, .bool false, .bool false, .int .i64 0, .int .i64 0, .int .i64 0, .int .i64 0, .int .i64 0, .int .i64 0, .int .i64 0, .int .i64 0] 29 29 29
  have B0 := Lib.hid (bel3 w (.cells #[.int .i64 4, .bool false, .bool v, .int .i64 0, .int .i64 0, .int .i64 0, .int .i64 0, .int .i64 0, .int .i64 off, .int .i64 cond, .int .i64 0] 29) (.cells #[.int .i64 0, .bool false, .bool false, .int .i64 0, .int .i64 0, .int .i64 0, .int .i64 0, .int .i64 0, .int .i64 0, .int .i64 0, .int .i64 0] 29) (.cells #[.int .i64 0, .bool false, .bool false, .int .i64 0, .int .i64 0, .int .i64 0, .int .i64 0, .int .i64 0, .int .i64 0, .int .i64 0, .int .i64 0] 29))
  have f0 : ((w.alloc (.cells #[.int .i64 4, .bool false, .bool v, .int .i64 0, .int .i64 0, .int .i64 0, .int .i64 0, .int .i64 0, .int .i64 off, .int .i64 cond, .int .i64 0] 29)).alloc (.cells #[.int .i64 0, .bool false, .bool false, .int .i64 0, .int .i64 0, .int .i64 0, .int .i64 0, .int .i64 0, .int .i64 0, .int .i64 0, .int .i64 0] 29)).cell? ⟨w.heap.size, 0, none⟩ = some (.int .i64 4) := ((((Sep.nil w).alloc2 #[.int .i64 4, .bool false, .bool v, .int .i64 0, .int .i64 0, .int .i64 0, .int .i64 0, .int .i64 0, .int .i64 off, .int .i64 cond, .int .i64 0] #[.int .i64 0, .bool false, .bool false, .int .i64 0, .int .i64 0, .int .i64 0, .int .i64 0, .int .i64 0, .int .i64 0, .int .i64 0, .int .i64 0] 29 29).at 1 rfl).cell 0).trans rfl
  go_enter Tryd.func32, Tryd.ntmps32
  go_wp2_with (refine store_sep rfl 29 (.tmp 3) (.tmp 6) rfl H0 0 rfl rfl rfl rfl (by kernel_rfl) rfl ?_; intro w1 H1 k1 s1; have B1 := Lib.hid (bel_keG B0.out k1 (by intro i hi; omega)); have c0 : w1.cell? ⟨w.heap.size, 0, none⟩ = some (.int .i64 4) := ((H1.at 2 rfl).cell 0).trans rfl; clear H0 f0 k1 s1)
  refine wp_region_mixK (· = w.heap.size + 2) [([0, 1, 2, 3, 4, 5, 6], 7), ([8], 9), ([10], 11)] [] (by kernel_rfl) (by kernel_rfl) (fun _ _ d _ _ h => by cases d <;> exact h) ?_
  intro w2 hb
  have H2 := H1.bel hb
  have B2 := Lib.hid (bel_then B1.out hb)
  clear hb c0
  have l2 := (H2.at 2 rfl).laterCell (G := (· = w.heap.size + 2)) (by omega) 2 (v := .bool v) rfl
  have l8 := (H2.at 2 rfl).laterCell (G := (· = w.heap.size + 2)) (by omega) 8 (v := .int .i64 off) rfl
  have l9 := (H2.at 2 rfl).laterCell (G := (· = w.heap.size + 2)) (by omega) 9 (v := .int .i64 cond) rfl
  refine mixK_step ?_
  simp only [pickOps, nth]
  (repeat (go_big_quiet_step (fail)))
  refine wpQuiet_nil ?_
  go_wp2_with (refine store1_sep rfl 4 (.tmp 64) (.tmp 59) rfl H2 0 rfl rfl rfl rfl (by kernel_rfl) rfl ?_; intro w3 H3 k s; have B3 := Lib.hid (bel_keG B2.out k (by intro i hi; omega)); have K3 := Lib.hid k; clear k s)
  clear l2 l8 l9
  refine ⟨K3.out, mixK_step ?_⟩
  simp only [pickOps, nth, Act.put, List.setIfInBounds_toArray, List.set_cons_succ, List.set_cons_zero]
  (repeat (go_big_quiet_step (fail)))
  refine wpQuiet_nil ?_
  go_wp2_with (refine store1_sep rfl 3 (.tmp 65) (.tmp 61) rfl H3 0 rfl rfl rfl rfl (by kernel_rfl) rfl ?_; intro w4 H4 k s; have B4 := Lib.hid (bel_keG B3.out k (by intro i hi; omega)); have K4 := Lib.hid k; clear k s)
  refine ⟨K4.out, mixK_step ?_⟩
  simp only [pickOps, nth, Act.put, List.setIfInBounds_toArray, List.set_cons_succ, List.set_cons_zero]
  (repeat (go_big_quiet_step (fail)))
  refine wpQuiet_nil ?_
  go_wp2_with (refine store1_sep rfl 3 (.tmp 66) (.tmp 63) rfl H4 0 rfl rfl rfl rfl (by kernel_rfl) rfl ?_; intro w5 H5 k s; have B5 := Lib.hid (bel_keG B4.out k (by intro i hi; omega)); have K5 := Lib.hid k; clear k s)
  refine ⟨K5.out, mixK_end ?_⟩
  simp only [pickOps, nth, Act.put, List.setIfInBounds_toArray, List.set_cons_succ, List.set_cons_zero]
  refine wpQuiet_nil ?_
  have c0 : w5.cell? ⟨w.heap.size, 0, none⟩ = some (.int .i64 4) := ((H5.at 2 rfl).cell 0).trans rfl
  go_wp2_with (first | (refine load_sep rfl 29 (.tmp 3) rfl H5 0 rfl rfl Tryd.underlying29 rfl (by kernel_rfl) ?_) | (refine store_sep rfl 29 (.tmp 2) (.tmp 82) rfl H5 1 rfl rfl rfl rfl (by kernel_rfl) rfl ?_; intro wz Hz k s; have Bz := Lib.hid (bel_keG B5.out k (by intro i hi; omega)); clear k s))
  exact bodyPost_ret (res_cell rfl rfl (Hz.at 1 rfl) Tryd.underlying29 rfl (by kernel_rfl)) rfl ⟨rfl, Bz.out⟩

set_option maxRecDepth 20000 in
set_option maxHeartbeats 8000000 in
theorem bare_5 (v : Bool) (cond c : Int) (w : World) : Calls Tryd.prog 32 #[(Ins.mk 5 false v 0 0 c 0 0 0 cond 0).val] w fun e w' => e = .returned (Ins.mk 5 false v 0 0 c 0 0 0 cond 0).val ∧ Below w.heap.size w w' := by
  have H0 := (Sep.nil w).alloc3 #[.int .i64 5, .bool false, .bool v, .int .i64 0, .int .i64 0, .int .i64 c, .int .i64 0, .int .i64 0, .int .i64 0, .int .i64 cond, .int .i64 0] #[.int .i64 0, .bool false, .bool false, .int .i64 0, .int .i64 0, .int .i64 0, .int .i64 0, .int .i64 0, .int .i64 0, .int .i64 0, .int .i64 0] #[.int .i64 0, .bool false, .bool false, .int .i64 0, .int .i64 0, .int .i64 0, .int .i64 0, .int .i64 0, .int .i64 0, .int .i64 0, .int .i64 0] 29 29 29
  have B0 := Lib.hid (bel3 w (.cells #[.int .i64 5, .bool false, .bool v, .int .i64 0, .int .i64 0, .int .i64 c, .int .i64 0, .int .i64 0, .int .i64 0, .int .i64 cond, .int .i64 0] 29) (.cells #[.int .i64 0, .bool false, .bool false, .int .i64 0, .int .i64 0, .int .i64 0, .int .i64 0, .int .i64 0, .int .i64 0, .int .i64 0, .int .i64 0] 29) (.cells #[.int .i64 0, .bool false, .bool false, .int .i64 0, .int .i64 0, .int .i64 0, .int .i64 0, .int .i64 0, .int .i64 0, .int .i64 0, .int .i64 0] 29))
  have f0 : ((w.alloc (.cells #[.int .i64 5, .bool false, .bool v, .int .i64 0, .int .i64 0, .int .i64 c, .int .i64 0, .int .i64 0, .int .i64 0, .int .i64 cond, .int .i64 0] 29)).alloc (.cells #[.int .i64 0, .bool false, .bool false, .int .i64 0, .int .i64 0, .int .i64 0, .int .i64 0, .int .i64 0, .int .i64 0, .int .i64 0, .int .i64 0] 29)).cell? ⟨w.heap.size, 0, none⟩ = some (.int .i64 5) := ((((Sep.nil w).alloc2 #[.int .i64 5, .bool false, .bool v, .int .i64 0, .int .i64 0, .int .i64 c, .int .i64 0, .int .i64 0, .int .i64 0, .int .i64 cond, .int .i64 0] #[.int .i64 0, .bool false, .bool false, .int .i64 0, .int .i64 0, .int .i64 0, .int .i64 0, .int .i64 0, .int .i64 0, .int .i64 0, .int .i64 0] 29 29).at 1 rfl).cell 0).trans rfl
  go_enter Tryd.func32, Tryd.ntmps32
  go_wp2_with (refine store_sep rfl 29 (.tmp 3) (.tmp 6) rfl H0 0 rfl rfl rfl rfl (by kernel_rfl) rfl ?_; intro w1 H1 k1 s1; have B1 := Lib.hid (bel_keG B0.out k1 (by intro i hi; omega)); have c0 : w1.cell? ⟨w.heap.size, 0, none⟩ = some (.int .i64 5) := ((H1.at 2 rfl).cell 0).trans rfl; clear H0 f0 k1 s1)
  refine wp_region_mixK (· = w.heap.size + 2) [([0, 1, 2, 3, 4, 5, 6], 7), ([8], 9), ([10], 11)] [] (by kernel_rfl) (by kernel_rfl) (fun _ _ d _ _ h => by cases d <;> exact h) ?_
  intro w2 hb
  have H2 := H1.bel hb
  have B2 := Lib.hid (bel_then B1.out hb)
  clear hb c0
  have l2 := (H2.at 2 rfl).laterCell (G := (· = w.heap.size + 2)) (by omega) 2 (v := .bool v) rfl
  have l5 := (H2.at 2 rfl).laterCell (G := (· = w.heap.size + 2)) (by omega) 5 (v := .int .i64 c) rfl
  have l9 := (H2.at 2 rfl).laterCell (G := (· = w.heap.size + 2)) (by omega) 9 (v := .int .i64 cond) rfl
  refine mixK_step ?_
  simp only [pickOps, nth]
  (repeat (go_big_quiet_step (fail)))
  refine wpQuiet_nil ?_
  go_wp2_with (refine store1_sep rfl 4 (.tmp 73) (.tmp 68) rfl H2 0 rfl rfl rfl rfl (by kernel_rfl) rfl ?_; intro w3 H3 k s; have B3 := Lib.hid (bel_keG B2.out k (by intro i hi; omega)); have K3 := Lib.hid k; clear k s)
  clear l2 l5 l9
  refine ⟨K3.out, mixK_step ?_⟩
  simp only [pickOps, nth, Act.put, List.setIfInBounds_toArray, List.set_cons_succ, List.set_cons_zero]
  (repeat (go_big_quiet_step (fail)))
  refine wpQuiet_nil ?_
  go_wp2_with (refine store1_sep rfl 3 (.tmp 74) (.tmp 70) rfl H3 0 rfl rfl rfl rfl (by kernel_rfl) rfl ?_; intro w4 H4 k s; have B4 := Lib.hid (bel_keG B3.out k (by intro i hi; omega)); have K4 := Lib.hid k; clear k s)
  refine ⟨K4.out, mixK_step ?_⟩
  simp only [pickOps, nth, Act.put, List.setIfInBounds_toArray, List.set_cons_succ, List.set_cons_zero]
  (repeat (go_big_quiet_step (fail)))
  refine wpQuiet_nil ?_
  go_wp2_with (refine store1_sep rfl 3 (.tmp 75) (.tmp 72) rfl H4 0 rfl rfl rfl rfl (by kernel_rfl) rfl ?_; intro w5 H5 k s; have B5 := Lib.hid (bel_keG B4.out k (by intro i hi; omega)); have K5 := Lib.hid k; clear k s)
  refine ⟨K5.out, mixK_end ?_⟩
  simp only [pickOps, nth, Act.put, List.setIfInBounds_toArray, List.set_cons_succ, List.set_cons_zero]
  refine wpQuiet_nil ?_
  have c0 : w5.cell? ⟨w.heap.size, 0, none⟩ = some (.int .i64 5) := ((H5.at 2 rfl).cell 0).trans rfl
  go_wp2_with (first | (refine load_sep rfl 29 (.tmp 3) rfl H5 0 rfl rfl Tryd.underlying29 rfl (by kernel_rfl) ?_) | (refine store_sep rfl 29 (.tmp 2) (.tmp 82) rfl H5 1 rfl rfl rfl rfl (by kernel_rfl) rfl ?_; intro wz Hz k s; have Bz := Lib.hid (bel_keG B5.out k (by intro i hi; omega)); clear k s))
  exact bodyPost_ret (res_cell rfl rfl (Hz.at 1 rfl) Tryd.underlying29 rfl (by kernel_rfl)) rfl ⟨rfl, Bz.out⟩

set_option maxRecDepth 20000 in
set_option maxHeartbeats 8000000 in
theorem bare_6 (cond n : Int) (w : World) : Calls Tryd.prog 32 #[(Ins.mk 6 false false 0 0 0 0 0 0 cond n).val] w fun e w' => e = .returned (Ins.mk 6 false false 0 0 0 0 0 0 cond n).val ∧ Below w.heap.size w w' := by
  have H0 := (Sep.nil w).alloc3 #[.int .i64 6, .bool false, .bool false, .int .i64 0, .int .i64 0, .int .i64 0, .int .i64 0, .int .i64 0, .int .i64 0, .int .i64 cond, .int .i64 n] #[.int .i64 0, .bool false, .bool false, .int .i64 0, .int .i64 0, .int .i64 0, .int .i64 0, .int .i64 0, .int .i64 0, .int .i64 0, .int .i64 0] #[.int .i64 0, .bool false, .bool false, .int .i64 0, .int .i64 0, .int .i64 0, .int .i64 0, .int .i64 0, .int .i64 0, .int .i64 0, .int .i64 0] 29 29 29
  have B0 := Lib.hid (bel3 w (.cells #[.int .i64 6, .bool false, .bool false, .int .i64 0, .int .i64 0, .int .i64 0, .int .i64 0, .int .i64 0, .int .i64 0, .int .i64 cond, .int .i64 n] 29) (.cells #[.int .i64 0, .bool false, .bool false, .int .i64 0, .int .i64 0, .int .i64 0, .int .i64 0, .int .i64 0, .int .i64 0, .int .i64 0, .int .i64 0] 29) (.cells #[.int .i64 0, .bool false, .bool false, .int .i64 0, .int .i64 0, .int .i64 0, .int .i64 0, .int .i64 0, .int .i64 0, .int .i64 0, .int .i64 0] 29))
  have f0 : ((w.alloc (.cells #[.int .i64 6, .bool false, .bool false, .int .i64 0, .int .i64 0, .int .i64 0, .int .i64 0, .int .i64 0, .int .i64 0, .int .i64 cond, .int .i64 n] 29)).alloc (.cells #[.int .i64 0, .bool false, .bool false, .int .i64 0, .int .i64 0, .int .i64 0, .int .i64 0, .int .i64 0, .int .i64 0, .int .i64 0, .int .i64 0] 29)).cell? ⟨w.heap.size, 0, none⟩ = some (.int .i64 6) := ((((Sep.nil w).alloc2 #[.int .i64 6, .bool false, .bool false, .int .i64 0, .int .i64 0, .int .i64 0, .int .i64 0, .int .i64 0, .int .i64 0, .int .i64 cond, .int .i64 n] #[.int .i64 0, .bool false, .bool false, .int .i64 0, .int .i64 0, .int .i64 0, .int .i64 0, .int .i64 0, .int .i64 0, .int .i64 0, .int .i64 0] 29 29).at 1 rfl).cell 0).trans rfl
  go_enter Tryd.func32, Tryd.ntmps32
  go_wp2_with (refine store_sep rfl 29 (.tmp 3) (.tmp 6) rfl H0 0 rfl rfl rfl rfl (by kernel_rfl) rfl ?_; intro w1 H1 k1 s1; have B1 := Lib.hid (bel_keG B0.out k1 (by intro i hi; omega)); have c0 : w1.cell? ⟨w.heap.size, 0, none⟩ = some (.int .i64 6) := ((H1.at 2 rfl).cell 0).trans rfl; clear H0 f0 k1 s1)
  refine wp_region_mixK (· = w.heap.size + 2) [([0, 1, 2, 3, 4], 5), ([6], 7)] [] (by kernel_rfl) (by kernel_rfl) (fun _ _ d _ _ h => by cases d <;> exact h) ?_
  intro w2 hb
  have H2 := H1.bel hb
  have B2 := Lib.hid (bel_then B1.out hb)
  clear hb c0
  have l9 := (H2.at 2 rfl).laterCell (G := (· = w.heap.size + 2)) (by omega) 9 (v := .int .i64 cond) rfl
  have l10 := (H2.at 2 rfl).laterCell (G := (· = w.heap.size + 2)) (by omega) 10 (v := .int .i64 n) rfl
  refine mixK_step ?_
  simp only [pickOps, nth]
  (repeat (go_big_quiet_step (fail)))
  refine wpQuiet_nil ?_
  go_wp2_with (refine store1_sep rfl 3 (.tmp 80) (.tmp 77) rfl H2 0 rfl rfl rfl rfl (by kernel_rfl) rfl ?_; intro w3 H3 k s; have B3 := Lib.hid (bel_keG B2.out k (by intro i hi; omega)); have K3 := Lib.hid k; clear k s)
  clear l9 l10
  refine ⟨K3.out, mixK_step ?_⟩
  simp only [pickOps, nth, Act.put, List.setIfInBounds_toArray, List.set_cons_succ, List.set_cons_zero]
  (repeat (go_big_quiet_step (fail)))
  refine wpQuiet_nil ?_
  go_wp2_with (refine store1_sep rfl 3 (.tmp 81) (.tmp 79) rfl H3 0 rfl rfl rfl rfl (by kernel_rfl) rfl ?_; intro w4 H4 k s; have B4 := Lib.hid (bel_keG B3.out k (by intro i hi; omega)); have K4 := Lib.hid k; clear k s)
  refine ⟨K4.out, mixK_end ?_⟩
  simp only [pickOps, nth, Act.put, List.setIfInBounds_toArray, List.set_cons_succ, List.set_cons_zero]
  refine wpQuiet_nil ?_
  have c0 : w4.cell? ⟨w.heap.size, 0, none⟩ = some (.int .i64 6) := ((H4.at 2 rfl).cell 0).trans rfl
  go_wp2_with (first | (refine load_sep rfl 29 (.tmp 3) rfl H4 0 rfl rfl Tryd.underlying29 rfl (by kernel_rfl) ?_) | (refine store_sep rfl 29 (.tmp 2) (.tmp 82) rfl H4 1 rfl rfl rfl rfl (by kernel_rfl) rfl ?_; intro wz Hz k s; have Bz := Lib.hid (bel_keG B4.out k (by intro i hi; omega)); clear k s))
  exact bodyPost_ret (res_cell rfl rfl (Hz.at 1 rfl) Tryd.underlying29 rfl (by kernel_rfl)) rfl ⟨rfl, Bz.out⟩

theorem bare_walk (i : Ins) (w : World) (h : i.May) : Calls Tryd.prog 32 #[i.val] w fun e w' => e = .returned i.val ∧ Below w.heap.size w w' := by
  obtain ⟨form, u, v, a, b, c, op, im, off, cond, n⟩ := i
  obtain ⟨hf, ha, hb, hc, ho, hi, hd, hn, h0, h1, h2, h4, h5, h6, hu, hm⟩ := h
  simp only at *
  rcases (by omega : form = 0 ∨ form = 1 ∨ form = 2 ∨ form = 3 ∨ form = 4 ∨ form = 5 ∨ form = 6) with rfl | rfl | rfl | rfl | rfl | rfl | rfl
  · obtain ⟨rfl, rfl, rfl, rfl, rfl⟩ := h0 rfl
    exact bare_0 u a b c op w
  · obtain ⟨rfl, rfl, rfl, rfl⟩ := h1 rfl
    exact bare_1 u v a b op im w
  · obtain ⟨rfl, rfl, rfl, rfl, rfl, rfl, _⟩ := h2 (.inl rfl)
    exact bare_2 v a b off w
  · obtain ⟨rfl, rfl, rfl, rfl, rfl, rfl, _⟩ := h2 (.inr rfl)
    exact bare_3 v a b off w
  · obtain ⟨rfl, rfl, rfl, rfl, rfl, rfl, rfl, _⟩ := h4 rfl
    exact bare_4 v cond off w
  · obtain ⟨rfl, rfl, rfl, rfl, rfl, rfl, rfl, _⟩ := h5 rfl
    exact bare_5 v cond c w
  · obtain ⟨rfl, rfl, rfl, rfl, rfl, rfl, rfl, rfl⟩ := h6 rfl
    exact bare_6 cond n w

end Go.Proofs.YtmnmbpenonodiaaDoor
