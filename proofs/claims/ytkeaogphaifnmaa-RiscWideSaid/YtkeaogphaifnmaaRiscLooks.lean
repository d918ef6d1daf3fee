/- The law RiscLooks, walked. -/
import Derived.Test.YtkeaogphaifnmaaRefRisc
import Derived.Test.YtkeaogphaifnmaaRefHolds
import Derived.Test.YtkeaogphaifnmaaRiscKnown2
import Derived.Test.YtkeaogphaifnmaaCpuEq
namespace Go.Proofs.Ytkeaogphaifnmaa
set_option linter.unusedVariables false
set_option linter.unusedSimpArgs false
open Go.RowKit

theorem zero_ok : Cpu.zero.Ok := ⟨fun j => by show (0 : Int) ≤ 0 ∧ (0 : Int) < 4294967296; decide, by show (0 : Int) ≤ 0 ∧ (0 : Int) < 4294967296; decide, by show (0 : Int) ≤ 0 ∧ (0 : Int) < 4294967296; decide⟩
theorem answered_ok {c : Cpu} (h : c.Ok) {x : Int} (hx : 0 ≤ x ∧ x < 4294967296) : (c.answered x).Ok := by
  refine ⟨fun j => ?_, h.h, h.pc⟩
  unfold Cpu.answered
  simp only []
  split
  · exact hx
  · exact h.r j
theorem set_ok {c : Cpu} (h : c.Ok) {a x : Int} (hx : 0 ≤ x ∧ x < 4294967296) : (c.set a x).Ok := by
  refine ⟨fun j => ?_, h.h, h.pc⟩
  unfold Cpu.set
  simp only []
  split
  · exact hx
  · exact h.r j

set_option maxRecDepth 100000 in
set_option maxHeartbeats 8000000 in
theorem looks_walk (c : Cpu) (cond a x : Int) (w : World) (hk : c.Ok) (hx : 0 ≤ x ∧ x < 4294967296) : Calls Try.prog 9 #[c.val, .int .i64 cond, .int .i64 a, .int .u32 x] w fun e w' => e = .returned (.bool true) ∧ Below w.heap.size w w' := by
  have H0 := (Sep.nil w).alloc c.cells 25
  have B0 := Lib.hid (bel1 w (.cells c.cells 25))
  go_enter Try.func9, Try.ntmps9
  go_wp2_with (refine load_sep rfl 25 (.tmp 4) rfl H0 0 rfl rfl Try.underlying25 rfl (by kernel_rfl) ?_)
  refine (loaded_walk c a x _ hx).mono ?_
  rintro e w1 ⟨rfl, hb1⟩
  obtain ⟨d, hd⟩ : ∃ d, d = (c.loaded a x).1 := ⟨_, rfl⟩
  obtain ⟨n, hn⟩ : ∃ n, n = (c.loaded a x).2 := ⟨_, rfl⟩
  rw [← hd, ← hn]
  have HD := Lib.hid hd
  have HN := Lib.hid hn
  clear hd hn
  have H1 := H0.bel hb1
  have B1 := Lib.hid (bel_then B0.out hb1)
  clear hb1 H0
  go_wp2_with (first
    | (refine alloc_sep rfl 25 rfl H1 (z := Cpu.zero.val) (cs := Cpu.zero.cells) (by kernel_rfl) rfl ?_; intro w2 H2 b2 s2)
    | (refine store_sep rfl 25 (.tmp 9) (.tmp 18) rfl H2 0 rfl rfl rfl (by kernel_rfl) rfl rfl ?_; intro w3 H3' k3 s3; have H3 : Sep w3 [(w1.heap.size, d.cells, 25), (w.heap.size, c.cells, 25)] := H3')
    | (refine load_sep rfl 25 (.tmp 4) rfl H3 1 rfl rfl Try.underlying25 rfl (by kernel_rfl) ?_))
  refine (answered_walk c x _).mono ?_
  rintro e w4 ⟨rfl, hb4⟩
  have B3 : Hid (Below w.heap.size w w3) := Lib.hid ((ke2 (Ke.below Non (bel_then B1.out b2)) k3 B1.out.size).non)
  have H4 := H3.bel hb4
  have B4 := Lib.hid (bel_then B3.out hb4)
  clear hb4 H3 H3' H2 b2 k3 H1
  go_wp2_with (first
    | (refine alloc_sep rfl 25 rfl H4 (z := Cpu.zero.val) (cs := Cpu.zero.cells) (by kernel_rfl) rfl ?_; intro w5 H5 b5 s5)
    | (refine store_sep rfl 25 (.tmp 11) (.tmp 22) rfl H5 0 rfl rfl rfl (by kernel_rfl) rfl rfl ?_; intro w6 H6' k6 s6; have H6 : Sep w6 [(w4.heap.size, (c.answered x).cells, 25), (w1.heap.size, d.cells, 25), (w.heap.size, c.cells, 25)] := H6'))
  have B6 : Hid (Below w.heap.size w w6) := Lib.hid ((ke2 (Ke.below Non (bel_then B4.out b5)) k6 B4.out.size).non)
  clear H6' k6 b5 H5 H4
  simp only [Act.put, List.setIfInBounds_toArray, List.set_cons_succ, List.set_cons_zero]
  refine wp_region_mix' [([1, 4, 0, 3], 2), ([], 5), ([6, 7, 8, 10], 9), ([], 11)] [12, 13] (by kernel_rfl) (by kernel_rfl) (fun _ _ d _ _ h => by cases d <;> exact h) ?_
  intro w7 hb7
  have H7 := H6.bel hb7
  have B7 := Lib.hid (bel_then B6.out hb7)
  have q := fun x => ((H7.at 2 rfl).laterB x).loads (P := Try.prog) Try.underlying25 rfl (by kernel_rfl)
  refine mix_step ?_
  simp only [pickOps, nth]
  (repeat (go_big_quiet_step (fail)))
  ( (go_big_quiet_want; refine quiet_row 25 (.tmp 4) rfl rfl q ?_; go_big_quiet_on) ; simp only [Act.put, List.setIfInBounds_toArray, List.set_cons_succ, List.set_cons_zero])
  ( (go_big_quiet_want; refine quiet_row 25 (.tmp 4) rfl rfl q ?_; go_big_quiet_on) ; simp only [Act.put, List.setIfInBounds_toArray, List.set_cons_succ, List.set_cons_zero])
  refine wpQuiet_nil ?_
  go_wp2_with fail
  refine (holds_walk c cond _).mono ?_
  rintro e w8 ⟨rfl, hb8⟩
  have B8 := Lib.hid (bel_then B7.out hb8)
  have H8 := H7.bel hb8
  have HB8 := Lib.hid hb8
  clear hb8 q hb7
  go_wp2_with fail
  refine ⟨HB8.out, mix_step ?_⟩
  simp only [pickOps, nth]
  refine wpQuiet_nil ?_
  go_wp2_with fail
  refine (refholds_walk c cond _).mono ?_
  rintro e w9 ⟨rfl, hb9⟩
  have B9 := Lib.hid (bel_then B8.out hb9)
  have H9 := H8.bel hb9
  have HB9 := Lib.hid hb9
  clear hb9 H8
  have q := fun x => ((H9.at 2 rfl).laterB x).loads (P := Try.prog) Try.underlying25 rfl (by kernel_rfl)
  go_wp2_with fail
  refine ⟨HB9.out, mix_step ?_⟩
  simp only [pickOps, nth]
  go_big_quiet_step (fail)
  go_big_quiet_step (fail)
  ( (go_big_quiet_want; refine quiet_row 25 (.tmp 4) rfl rfl q ?_; go_big_quiet_on) ; simp only [Act.put, List.setIfInBounds_toArray, List.set_cons_succ, List.set_cons_zero])
  ( (go_big_quiet_want; refine quiet_row 25 (.tmp 4) rfl rfl q ?_; go_big_quiet_on) ; simp only [Act.put, List.setIfInBounds_toArray, List.set_cons_succ, List.set_cons_zero])
  refine wpQuiet_nil ?_
  go_wp2_with fail
  refine (flags_walk c _).mono ?_
  rintro e w10 ⟨rfl, hb10⟩
  have B10 := Lib.hid (bel_then B9.out hb10)
  have H10 := H9.bel hb10
  have HB10 := Lib.hid hb10
  clear hb10 q H9 H7 H6
  go_wp2_with fail
  refine ⟨HB10.out, mix_step ?_⟩
  simp only [pickOps, nth]
  refine wpQuiet_nil ?_
  go_wp2_with fail
  refine (refflags_walk c _).mono ?_
  rintro e w12 ⟨rfl, hb12⟩
  have B12 := Lib.hid (bel_then B10.out hb12)
  have H12 := H10.bel hb12
  have HB12 := Lib.hid hb12
  have c112 : Hid (w1.heap.size < w12.heap.size ∧ w.heap.size ≤ w1.heap.size) := Lib.hid ⟨(H12.at 1 rfl).lt, B1.out.size⟩
  clear H10
  go_wp2_with fail
  refine ⟨HB12.out, mix_end ?_⟩
  simp only [pickOps, nth]
  (repeat (go_big_quiet_step (fail)))
  refine wpQuiet_nil ?_
  have HA := Lib.hid (answered_ok hk hx)
  obtain ⟨hs1, hs2⟩ := c112.out
  clear hb12 HB12
  by_cases ha : a < 0 ∨ 15 < a
  · have e1 : c.loaded a x = (Cpu.zero, 2) := if_pos ha
    have e2 := HD.out
    have e3 := HN.out
    rw [e1] at e2 e3
    simp only [] at e2 e3
    clear HD HN e1
    subst e2 e3
    by_cases h1 : a < 0
    · have d1 : decide (a < 0) = true := decide_eq_true h1
      ( ( go_wp2_with (first | (refine load_sep rfl 25 (.tmp 4) rfl H12 2 rfl rfl Try.underlying25 rfl (by kernel_rfl) ?_) | (refine alloc_sep rfl 25 rfl H12 (z := Cpu.zero.val) (cs := Cpu.zero.cells) (by kernel_rfl) rfl ?_; intro w13 H13 b13 s13) | (refine store_sep rfl 25 (.tmp 12) (.tmp 37) rfl H13 0 rfl rfl rfl (by kernel_rfl) rfl rfl ?_; intro w14 H14' k14 s14; have H14 : Sep w14 [(w12.heap.size, c.cells, 25), (w4.heap.size, (c.answered x).cells, 25), (w1.heap.size, Cpu.zero.cells, 25), (w.heap.size, c.cells, 25)] := H14') | (refine store1_sep (v := .int .u32 x) rfl 22 (.tmp 40) (.tmp 38) rfl H14 0 rfl rfl rfl rfl (by kernel_rfl) ?_ ?_; rfl; intro w15 H15' k15 s15; have H15 : Sep w15 [(w12.heap.size, (c.answered x).cells, 25), (w4.heap.size, (c.answered x).cells, 25), (w1.heap.size, Cpu.zero.cells, 25), (w.heap.size, c.cells, 25)] := H15') | (refine load_sep rfl 25 (.tmp 11) rfl H15 1 rfl rfl Try.underlying25 rfl (by kernel_rfl) ?_) | (refine load_sep rfl 25 (.tmp 12) rfl H15 0 rfl rfl Try.underlying25 rfl (by kernel_rfl) ?_) | (refine neq_cpu rfl (.tmp 41) (.tmp 42) rfl (c.answered x) HA.out rfl rfl ?_) | (refine load_sep rfl 25 (.tmp 9) rfl H15 2 rfl rfl Try.underlying25 rfl (by kernel_rfl) ?_) | (refine eql_cpu rfl (.tmp 50) (.tmp 51) rfl Cpu.zero zero_ok rfl rfl ?_)) ; have K14 := Lib.hid (ke2 (Ke.below Non (bel_then B12.out b13)) k14 (by omega)) ; have K15 := Lib.hid (ke2 K14.out k15 (by omega)) ; have B15 := Lib.hid K15.out.non ; clear b13 k14 k15 H14 H14' H15' H13) ; refine (num_walk 2 _).mono ?_ ; rintro e w16 ⟨rfl, rfl⟩ ; go_wp2_with fail ; refine (known_walk _).mono ?_ ; rintro e w17 ⟨rfl, hb17⟩ ; go_wp2_with fail ; go_ret ; exact ⟨rfl, bel_then B15.out hb17⟩)
    · have d1 : decide (a < 0) = false := decide_eq_false h1
      have d2 : decide (15 < a) = true := decide_eq_true (by omega)
      ( ( go_wp2_with (first | (refine load_sep rfl 25 (.tmp 4) rfl H12 2 rfl rfl Try.underlying25 rfl (by kernel_rfl) ?_) | (refine alloc_sep rfl 25 rfl H12 (z := Cpu.zero.val) (cs := Cpu.zero.cells) (by kernel_rfl) rfl ?_; intro w13 H13 b13 s13) | (refine store_sep rfl 25 (.tmp 12) (.tmp 37) rfl H13 0 rfl rfl rfl (by kernel_rfl) rfl rfl ?_; intro w14 H14' k14 s14; have H14 : Sep w14 [(w12.heap.size, c.cells, 25), (w4.heap.size, (c.answered x).cells, 25), (w1.heap.size, Cpu.zero.cells, 25), (w.heap.size, c.cells, 25)] := H14') | (refine store1_sep (v := .int .u32 x) rfl 22 (.tmp 40) (.tmp 38) rfl H14 0 rfl rfl rfl rfl (by kernel_rfl) ?_ ?_; rfl; intro w15 H15' k15 s15; have H15 : Sep w15 [(w12.heap.size, (c.answered x).cells, 25), (w4.heap.size, (c.answered x).cells, 25), (w1.heap.size, Cpu.zero.cells, 25), (w.heap.size, c.cells, 25)] := H15') | (refine load_sep rfl 25 (.tmp 11) rfl H15 1 rfl rfl Try.underlying25 rfl (by kernel_rfl) ?_) | (refine load_sep rfl 25 (.tmp 12) rfl H15 0 rfl rfl Try.underlying25 rfl (by kernel_rfl) ?_) | (refine neq_cpu rfl (.tmp 41) (.tmp 42) rfl (c.answered x) HA.out rfl rfl ?_) | (refine load_sep rfl 25 (.tmp 9) rfl H15 2 rfl rfl Try.underlying25 rfl (by kernel_rfl) ?_) | (refine eql_cpu rfl (.tmp 50) (.tmp 51) rfl Cpu.zero zero_ok rfl rfl ?_)) ; have K14 := Lib.hid (ke2 (Ke.below Non (bel_then B12.out b13)) k14 (by omega)) ; have K15 := Lib.hid (ke2 K14.out k15 (by omega)) ; have B15 := Lib.hid K15.out.non ; clear b13 k14 k15 H14 H14' H15' H13) ; refine (num_walk 2 _).mono ?_ ; rintro e w16 ⟨rfl, rfl⟩ ; go_wp2_with fail ; refine (known_walk _).mono ?_ ; rintro e w17 ⟨rfl, hb17⟩ ; go_wp2_with fail ; go_ret ; exact ⟨rfl, bel_then B15.out hb17⟩)
  · have e1 : c.loaded a x = (c.set a x, 0) := if_neg ha
    have e2 := HD.out
    have e3 := HN.out
    rw [e1] at e2 e3
    simp only [] at e2 e3
    clear HD HN e1
    subst e2 e3
    have d1 : decide (a < 0) = false := decide_eq_false (by omega)
    have d2 : decide (15 < a) = false := decide_eq_false (by omega)
    have HR : Hid (0 ≤ a ∧ a < 16) := Lib.hid (by omega)
    clear ha
    ( go_wp2_with (first | (refine load_sep rfl 25 (.tmp 4) rfl H12 2 rfl rfl Try.underlying25 rfl (by kernel_rfl) ?_) | (refine alloc_sep rfl 25 rfl H12 (z := Cpu.zero.val) (cs := Cpu.zero.cells) (by kernel_rfl) rfl ?_; intro w13 H13 b13 s13) | (refine store_sep rfl 25 (.tmp 12) (.tmp 37) rfl H13 0 rfl rfl rfl (by kernel_rfl) rfl rfl ?_; intro w14 H14' k14 s14; have H14 : Sep w14 [(w12.heap.size, c.cells, 25), (w4.heap.size, (c.answered x).cells, 25), (w1.heap.size, (c.set a x).cells, 25), (w.heap.size, c.cells, 25)] := H14') | (refine store1_sep (v := .int .u32 x) rfl 22 (.tmp 40) (.tmp 38) rfl H14 0 rfl rfl rfl rfl (by kernel_rfl) ?_ ?_; rfl; intro w15 H15' k15 s15; have H15 : Sep w15 [(w12.heap.size, (c.answered x).cells, 25), (w4.heap.size, (c.answered x).cells, 25), (w1.heap.size, (c.set a x).cells, 25), (w.heap.size, c.cells, 25)] := H15') | (refine load_sep rfl 25 (.tmp 11) rfl H15 1 rfl rfl Try.underlying25 rfl (by kernel_rfl) ?_) | (refine load_sep rfl 25 (.tmp 12) rfl H15 0 rfl rfl Try.underlying25 rfl (by kernel_rfl) ?_) | (refine neq_cpu rfl (.tmp 41) (.tmp 42) rfl (c.answered x) HA.out rfl rfl ?_) | (refine load_sep rfl 25 (.tmp 9) rfl H15 2 rfl rfl Try.underlying25 rfl (by kernel_rfl) ?_) | (refine eql_cpu rfl (.tmp 50) (.tmp 51) rfl Cpu.zero zero_ok rfl rfl ?_)) ; have K14 := Lib.hid (ke2 (Ke.below Non (bel_then B12.out b13)) k14 (by omega)) ; have K15 := Lib.hid (ke2 K14.out k15 (by omega)) ; have B15 := Lib.hid K15.out.non ; clear b13 k14 k15 H14 H14' H15' H13)
    refine wp_region_mix' [([2, 3, 0, 1], 4), ([5, 6, 7], 8), ([9, 10, 11], 12)] [13, 14] (by kernel_rfl) (by kernel_rfl) (fun _ _ d _ _ h => by cases d <;> exact h) ?_
    intro w16 hb16
    have H16 := H15.bel hb16
    have B16 := Lib.hid (bel_then B15.out hb16)
    have q2 := fun x => ((H16.at 2 rfl).laterB x).loads (P := Try.prog) Try.underlying25 rfl (by kernel_rfl)
    have q3 := fun x => ((H16.at 3 rfl).laterB x).loads (P := Try.prog) Try.underlying25 rfl (by kernel_rfl)
    refine mix_step ?_
    simp only [pickOps, nth]
    (repeat (go_big_quiet_step (fail)))
    ( (go_big_quiet_want; refine quiet_row 25 (.tmp 9) rfl rfl q2 ?_; go_big_quiet_on) ; simp only [Act.put, List.setIfInBounds_toArray, List.set_cons_succ, List.set_cons_zero])
    ( (go_big_quiet_want; refine quiet_row 25 (.tmp 4) rfl rfl q3 ?_; go_big_quiet_on) ; simp only [Act.put, List.setIfInBounds_toArray, List.set_cons_succ, List.set_cons_zero])
    refine wpQuiet_nil ?_
    go_wp2_with fail
    refine (refset_walk c a x _ HR.out hx).mono ?_
    rintro e w17 ⟨rfl, hb17⟩
    have B17 := Lib.hid (bel_then B16.out hb17)
    have HB17 := Lib.hid hb17
    clear hb17 q2 q3
    go_wp2_with fail
    refine ⟨HB17.out, mix_step ?_⟩
    simp only [pickOps, nth]
    (go_big_quiet_want; refine quiet_eql_cpu (.tmp 61) (.tmp 65) rfl (c.set a x) (set_ok hk hx) rfl rfl ?_; go_big_quiet_on)
    simp only [Act.put, List.setIfInBounds_toArray, List.set_cons_succ, List.set_cons_zero]
    (repeat (go_big_quiet_step (fail)))
    refine wpQuiet_nil ?_
    go_wp2_with fail
    refine (num_walk 0 _).mono ?_
    rintro e w18 ⟨rfl, rfl⟩
    go_wp2_with fail
    refine ⟨Below.refl _ _, mix_step ?_⟩
    simp only [pickOps, nth]
    (repeat (go_big_quiet_step (fail)))
    refine wpQuiet_nil ?_
    go_wp2_with fail
    refine (known_walk _).mono ?_
    rintro e w19 ⟨rfl, hb19⟩
    have B19 := Lib.hid (bel_then B17.out hb19)
    have HB19 := Lib.hid hb19
    clear hb19
    go_wp2_with fail
    refine ⟨HB19.out, mix_end ?_⟩
    simp only [pickOps, nth]
    (repeat (go_big_quiet_step (fail)))
    refine wpQuiet_nil ?_
    go_wp2_with fail
    go_ret
    exact ⟨rfl, B19.out⟩

theorem looks_all (c : Cpu) (cond a x : Int) (w : World) (hk : c.Ok) (_h1 : IntKind.i64.min ≤ cond ∧ cond ≤ IntKind.i64.max) (_h2 : IntKind.i64.min ≤ a ∧ a ≤ IntKind.i64.max) (hx : IntKind.u32.min ≤ x ∧ x ≤ IntKind.u32.max) : Calls Try.prog 9 #[c.val, .int .i64 cond, .int .i64 a, .int .u32 x] w fun e w' => e = .returned (.bool true) ∧ Below w.heap.size w w' := by
  refine looks_walk c cond a x w hk ?_
  have h1 : IntKind.u32.min = 0 := by decide
  have h2 : IntKind.u32.max = 4294967295 := by decide
  rw [h1, h2] at hx
  omega

end Go.Proofs.Ytkeaogphaifnmaa
