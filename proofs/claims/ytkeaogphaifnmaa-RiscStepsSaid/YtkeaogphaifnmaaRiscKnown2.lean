/- Contract of the law's known. -/
import Derived.Test.YtkeaogphaifnmaaRiscKnown
namespace Go.Proofs.Ytkeaogphaifnmaa
set_option linter.unusedVariables false
set_option linter.unusedSimpArgs false
open Go.RowKit

set_option maxRecDepth 100000 in
set_option maxHeartbeats 4000000 in
theorem known_walk (w : World) : Calls Try.prog 12 #[] w fun e w' => e = .returned (.bool true) ∧ Below w.heap.size w w' := by
  have H0 := Sep.nil w
  go_enter Try.func12, Try.ntmps12
  go_wp2_with (first | (refine alloc_sep rfl 25 rfl H0 (z := Cpu.zero.val) (cs := Cpu.zero.cells) (by kernel_rfl) rfl ?_; intro w1 H1 b1 s1) | (refine store1_sep rfl 22 (.tmp 8) (.const (.int .u32 5)) rfl H1 0 rfl rfl rfl rfl (by kernel_rfl) ?_ ?_; rfl; intro w2 H2' k2 s2))
  have H2 : Sep w2 [(w.heap.size, kc1.cells, 25)] := H2'
  have B2 := Lib.hid (((Ke.below Non b1).trans' k2 (fun i hi hh => by have : i = w.heap.size := hh; omega)).non)
  clear H2' k2 b1 H1 H0 s1 s2
  refine wp_region_def [([0, 1], 2), ([], 3)] [4, 5, 6] [⟨7, 9, 2, 25, 14, Cpu.zero.cells⟩, ⟨8, 10, 3, 28, 15, Ev.none.cells⟩] (by kernel_rfl) (by kernel_rfl) (by kernel_rfl) (by kernel_rfl) rfl ?_
  intro w3 hb3
  have H3 := H2.bel hb3
  have B3 := Lib.hid (bel_then B2.out hb3)
  have q1 := fun x => ((H3.at 0 rfl).laterB x).loads (P := Try.prog) Try.underlying25 rfl (by kernel_rfl)
  simp only [Act.put]
  refine def_seg ?_
  simp only [pickOps, nth]
  (go_big_quiet_want; refine quiet_row 25 (.tmp 1) rfl rfl q1 ?_; go_big_quiet_on)
  simp only [Act.put, List.setIfInBounds_toArray, List.set_cons_succ, List.set_cons_zero]
  (repeat (go_big_quiet_step (fail)))
  refine wpQuiet_nil ?_
  apply def_call (.int .u32 (wordR ki1))
  · (simp only [Act.put, List.setIfInBounds_toArray, List.set_cons_succ, List.set_cons_zero]; rfl)
  · intro x
    go_wp2_with fail
    refine (word_walk ki1 _ ki1_ok (by decide) (by decide) (by decide)).mono ?_
    rintro e w' ⟨rfl, hb⟩
    go_wp2_with fail
  refine def_seg ?_
  simp only [pickOps, nth]
  refine wpQuiet_nil ?_
  apply def_call (.tuple #[kd1.val, Ev.none.val])
  · (simp only [Act.put, List.setIfInBounds_toArray, List.set_cons_succ, List.set_cons_zero]; rfl)
  · intro x
    go_wp2_with fail
    refine (step_quiet (word_of ki1_may).1 kc1_ok k1_step).mono ?_
    rintro e w' ⟨rfl, hb⟩
    go_wp2_with fail
  refine def_fin ?_
  simp only [pickOps, nth]
  (repeat (go_big_quiet_step (fail)))
  refine wpQuiet_nil ?_
  refine def_post2 ⟨⟨Cpu.zero.val, by kernel_rfl, rfl⟩, by kernel_rfl, rfl, rfl⟩ ⟨⟨Ev.none.val, by kernel_rfl, rfl⟩, by kernel_rfl, rfl, rfl⟩ ?_
  intro g2 g3 w4 hb4 hg2 hg3 hs4
  simp only [setMany, List.setIfInBounds_toArray, List.set_cons_succ, List.set_cons_zero]
  have H4 : Sep w4 [(g2, kd1.cells, 25), (g3, Ev.none.cells, 28)] := hs4
  have B4 := Lib.hid (bel_then B3.out hb4)
  clear hs4 hb4 H3 q1 hb3
  go_wp2_with (first | (refine alloc_sep rfl 25 rfl H4 (z := Cpu.zero.val) (cs := Cpu.zero.cells) (by kernel_rfl) rfl ?_; intro w5 H5 b5 s5) | (refine store1_sep rfl 22 (.tmp 16) (.const (.int .u32 9)) rfl H5 0 rfl rfl rfl rfl (by kernel_rfl) ?_ ?_; rfl; intro w6 H6' k6 s6))
  have H6 : Sep w6 [(w4.heap.size, kc2.cells, 25), (g2, kd1.cells, 25), (g3, Ev.none.cells, 28)] := H6'
  have B6 := Lib.hid (bel_then B4.out (((Ke.below Non b5).trans' k6 (fun i hi hh => by have : i = w4.heap.size := hh; omega)).non))
  clear H6' k6 b5 H5 H4 s5 s6
  refine wp_region_def [([0, 1], 2), ([], 3)] [4, 5, 6] [⟨7, 9, 5, 25, 22, Cpu.zero.cells⟩, ⟨8, 10, 6, 28, 23, Ev.none.cells⟩] (by kernel_rfl) (by kernel_rfl) (by kernel_rfl) (by kernel_rfl) rfl ?_
  intro w7 hb7
  have H7 := H6.bel hb7
  have B7 := Lib.hid (bel_then B6.out hb7)
  have q2 := fun x => ((H7.at 0 rfl).laterB x).loads (P := Try.prog) Try.underlying25 rfl (by kernel_rfl)
  simp only [Act.put]
  refine def_seg ?_
  simp only [pickOps, nth]
  (go_big_quiet_want; refine quiet_row 25 (.tmp 4) rfl rfl q2 ?_; go_big_quiet_on)
  simp only [Act.put, List.setIfInBounds_toArray, List.set_cons_succ, List.set_cons_zero]
  (repeat (go_big_quiet_step (fail)))
  refine wpQuiet_nil ?_
  apply def_call (.int .u32 (wordR ki2))
  · (simp only [Act.put, List.setIfInBounds_toArray, List.set_cons_succ, List.set_cons_zero]; rfl)
  · intro x
    go_wp2_with fail
    refine (word_walk ki2 _ ki2_ok (by decide) (by decide) (by decide)).mono ?_
    rintro e w' ⟨rfl, hb⟩
    go_wp2_with fail
  refine def_seg ?_
  simp only [pickOps, nth]
  refine wpQuiet_nil ?_
  apply def_call (.tuple #[kd2.val, Ev.none.val])
  · (simp only [Act.put, List.setIfInBounds_toArray, List.set_cons_succ, List.set_cons_zero]; rfl)
  · intro x
    go_wp2_with fail
    refine (step_quiet (word_of ki2_may).1 kc2_ok k2_step).mono ?_
    rintro e w' ⟨rfl, hb⟩
    go_wp2_with fail
  refine def_fin ?_
  simp only [pickOps, nth]
  (repeat (go_big_quiet_step (fail)))
  refine wpQuiet_nil ?_
  refine def_post2 ⟨⟨Cpu.zero.val, by kernel_rfl, rfl⟩, by kernel_rfl, rfl, rfl⟩ ⟨⟨Ev.none.val, by kernel_rfl, rfl⟩, by kernel_rfl, rfl, rfl⟩ ?_
  intro g5 g6 w8 hb8 hg5 hg6 hs8
  simp only [setMany, List.setIfInBounds_toArray, List.set_cons_succ, List.set_cons_zero]
  have H8 : Sep w8 [(g5, kd2.cells, 25), (g6, Ev.none.cells, 28)] := hs8
  have H8' := H7.bel hb8
  have B8 := Lib.hid (bel_then B7.out hb8)
  have c1 : w8.cell? ⟨g2, 2, none⟩ = some (.int .u32 4294967294) := cell_of H8' 1 rfl 2 rfl
  have c2 : w8.cell? ⟨g2, 17, none⟩ = some (.bool true) := cell_of H8' 1 rfl 17 rfl
  have c3 : w8.cell? ⟨g2, 18, none⟩ = some (.bool false) := cell_of H8' 1 rfl 18 rfl
  have c4 : w8.cell? ⟨g2, 19, none⟩ = some (.bool true) := cell_of H8' 1 rfl 19 rfl
  have c5 : w8.cell? ⟨g2, 20, none⟩ = some (.bool false) := cell_of H8' 1 rfl 20 rfl
  have c6 : w8.cell? ⟨g2, 21, none⟩ = some (.int .u32 1) := cell_of H8' 1 rfl 21 rfl
  have c7 : w8.cell? ⟨g5, 15, none⟩ = some (.int .u32 40) := cell_of H8 0 rfl 15 rfl
  have c8 : w8.cell? ⟨g5, 21, none⟩ = some (.int .u32 7) := cell_of H8 0 rfl 21 rfl
  have e0 : w8.cell? ⟨g3, 0, none⟩ = some (.int .i64 0) := cell_of H8' 2 rfl 0 rfl
  have f0 : w8.cell? ⟨g6, 0, none⟩ = some (.int .i64 0) := cell_of H8 1 rfl 0 rfl
  have e1 : w8.cell? ⟨g3, 1, none⟩ = some (.int .u32 0) := cell_of H8' 2 rfl 1 rfl
  have f1 : w8.cell? ⟨g6, 1, none⟩ = some (.int .u32 0) := cell_of H8 1 rfl 1 rfl
  have e2 : w8.cell? ⟨g3, 2, none⟩ = some (.bool false) := cell_of H8' 2 rfl 2 rfl
  have f2 : w8.cell? ⟨g6, 2, none⟩ = some (.bool false) := cell_of H8 1 rfl 2 rfl
  have e3 : w8.cell? ⟨g3, 3, none⟩ = some (.int .i64 0) := cell_of H8' 2 rfl 3 rfl
  have f3 : w8.cell? ⟨g6, 3, none⟩ = some (.int .i64 0) := cell_of H8 1 rfl 3 rfl
  have e4 : w8.cell? ⟨g3, 4, none⟩ = some (.int .u32 0) := cell_of H8' 2 rfl 4 rfl
  have f4 : w8.cell? ⟨g6, 4, none⟩ = some (.int .u32 0) := cell_of H8 1 rfl 4 rfl
  have e5 : w8.cell? ⟨g3, 5, none⟩ = some (.int .i64 0) := cell_of H8' 2 rfl 5 rfl
  have f5 : w8.cell? ⟨g6, 5, none⟩ = some (.int .i64 0) := cell_of H8 1 rfl 5 rfl
  clear H8 H8' H7 H6 q2 hb7 hb8 hs8
  go_wp2_with fail
  go_ret
  exact ⟨rfl, B8.out⟩

end Go.Proofs.Ytkeaogphaifnmaa
