/- The law RiscReturns, walked. -/
import Derived.Test.YtkeaogphaifnmaaRiscKnown2
namespace Go.Proofs.Ytkeaogphaifnmaa
set_option linter.unusedVariables false
set_option linter.unusedSimpArgs false
open Go.RowKit

theorem cond_T (c : Cpu) : c.cond 7 = true := by simp [Cpu.cond, Cpu.is]
theorem ok_jump {c : Cpu} (h : c.Ok) (v : Bool) {to : Int} (ht : 0 ≤ to ∧ to < 4294967296) : (c.jump v to).Ok := by
  refine ⟨fun j => ?_, h.h, ht⟩
  unfold Cpu.jump
  cases v
  · exact h.r j
  · simp only [if_true]
    split
    · omega
    · exact h.r j
def ki3 (way : Int) : Ins := ⟨4, false, true, 0, 0, 0, 0, 0, way, 7, 0⟩
def ki4 : Ins := ⟨5, false, false, 0, 0, 15, 0, 0, 0, 7, 0⟩
theorem ki3_may {way : Int} (h : -8388608 ≤ way ∧ way < 8388608) : (ki3 way).May := by constructor <;> simp [ki3] <;> omega
theorem ki4_may : ki4.May := by constructor <;> simp [ki4]
theorem ki3_ok {way : Int} (h : -8388608 ≤ way ∧ way < 8388608) : (ki3 way).Ok := by constructor <;> simp [ki3] <;> omega
theorem ki4_ok : ki4.Ok := by constructor <;> simp [ki4]
theorem k3_step (c : Cpu) {way : Int} (h : -8388608 ≤ way ∧ way < 8388608) : c.step (wordR (ki3 way)) = (c.next.jump true ((c.next.pc + way) % 4294967296), Ev.none) := by
  obtain ⟨_, h1, h2⟩ := word_of (ki3_may h)
  unfold Cpu.step
  rw [h1, if_pos h2]
  unfold Cpu.exec
  rw [if_neg (by simp [ki3]), if_neg (by simp [ki3]), if_neg (by simp [ki3]), if_neg (by show ¬ c.next.cond 7 = false; rw [cond_T]; simp), if_neg (by simp [ki3]), if_neg (by simp [ki3])]
  rfl
theorem k4_step (c : Cpu) : c.step (wordR ki4) = (c.next.jump false (c.next.r 15 / 4), Ev.none) := by
  obtain ⟨_, h1, h2⟩ := word_of ki4_may
  unfold Cpu.step
  rw [h1, if_pos h2]
  unfold Cpu.exec
  rw [if_neg (by simp [ki4]), if_neg (by simp [ki4]), if_neg (by simp [ki4]), if_neg (by show ¬ c.next.cond 7 = false; rw [cond_T]; simp), if_neg (by simp [ki4]), if_pos (show ki4.form = 5 from rfl)]
  rfl

set_option maxRecDepth 100000 in
set_option maxHeartbeats 8000000 in
theorem returns_walk (c : Cpu) (way : Int) (w : World) (hk : c.Ok) (_hway : IntKind.i64.min ≤ way ∧ way ≤ IntKind.i64.max) : Calls Try.prog 6 #[c.val, .int .i64 way] w fun e w' => e = .returned (.bool true) ∧ Below w.heap.size w w' := by
  have hpc : c.cells[21]? = some (.int .u32 c.pc) := rfl
  by_cases h1 : 1073741823 ≤ c.pc
  · have hd : decide (1073741823 ≤ c.pc) = true := decide_eq_true h1
    go_enter Try.func6, Try.ntmps6
    go_wp2_with fail
    ( refine (known_walk _).mono ?_ ; rintro e w2 ⟨rfl, hb2⟩ ; go_wp2_with fail ; go_ret ; exact ⟨rfl, bel_then (bel1 w _) hb2⟩)
  · have hd : decide (1073741823 ≤ c.pc) = false := decide_eq_false h1
    by_cases h2 : way < -8388608
    · have hd2 : decide (way < -8388608) = true := decide_eq_true h2
      go_enter Try.func6, Try.ntmps6
      go_wp2_with fail
      ( refine (known_walk _).mono ?_ ; rintro e w2 ⟨rfl, hb2⟩ ; go_wp2_with fail ; go_ret ; exact ⟨rfl, bel_then (bel1 w _) hb2⟩)
    · have hd2 : decide (way < -8388608) = false := decide_eq_false h2
      by_cases h3 : 8388608 ≤ way
      · have hd3 : decide (8388608 ≤ way) = true := decide_eq_true h3
        go_enter Try.func6, Try.ntmps6
        go_wp2_with fail
        ( refine (known_walk _).mono ?_ ; rintro e w2 ⟨rfl, hb2⟩ ; go_wp2_with fail ; go_ret ; exact ⟨rfl, bel_then (bel1 w _) hb2⟩)
      · have hd3 : decide (8388608 ≤ way) = false := decide_eq_false h3
        have hw : -8388608 ≤ way ∧ way < 8388608 := by omega
        have hp0 := hk.pc.1
        have HW := Lib.hid hw
        have H0 := (Sep.nil w).alloc c.cells 25
        go_enter Try.func6, Try.ntmps6
        go_wp2_with fail
        refine wp_region_def [([0, 1, 2], 3), ([], 4)] [5, 6, 7] [⟨8, 10, 5, 25, 27, Cpu.zero.cells⟩, ⟨9, 11, 6, 28, 28, Ev.none.cells⟩] (by kernel_rfl) (by kernel_rfl) (by kernel_rfl) (by kernel_rfl) rfl ?_
        intro w1 hb1
        have H1 := H0.bel hb1
        have B1 := Lib.hid (bel_then (bel1 w (.cells c.cells 25)) hb1)
        have q1 := fun x => ((H1.at 0 rfl).laterB x).loads (P := Try.prog) Try.underlying25 rfl (by kernel_rfl)
        ( refine def_seg ?_ ; simp only [pickOps, nth] ; (go_big_quiet_want; refine quiet_row 25 (.tmp 2) rfl rfl q1 ?_; go_big_quiet_on) ; simp only [Act.put, List.setIfInBounds_toArray, List.set_cons_succ, List.set_cons_zero] ; (repeat (go_big_quiet_step (fail))) ; refine wpQuiet_nil ?_ ; apply def_call (.int .u32 (wordR (ki3 way))) ; (simp only [Act.put, List.setIfInBounds_toArray, List.set_cons_succ, List.set_cons_zero]; rfl) ; intro x ; go_wp2_with fail ; refine (word_walk (ki3 way) _ (ki3_ok HW.out) (by simp [ki3]) (by simp [ki3]) (by simp [ki3])).mono ?_ ; rintro e w' ⟨rfl, hb⟩ ; go_wp2_with fail ; refine def_seg ?_ ; simp only [pickOps, nth] ; refine wpQuiet_nil ?_ ; apply def_call (.tuple #[Cpu.val (c.next.jump true ((c.next.pc + way) % 4294967296)), Ev.none.val]) ; (simp only [Act.put, List.setIfInBounds_toArray, List.set_cons_succ, List.set_cons_zero]; rfl) ; intro x ; go_wp2_with fail ; refine (step_quiet (word_of (ki3_may HW.out)).1 hk (k3_step c HW.out)).mono ?_ ; rintro e w' ⟨rfl, hb⟩ ; go_wp2_with fail ; refine def_fin ?_ ; simp only [pickOps, nth] ; (repeat (go_big_quiet_step (fail))) ; refine wpQuiet_nil ?_ ; refine def_post2 ⟨⟨Cpu.zero.val, by kernel_rfl, rfl⟩, by kernel_rfl, rfl, rfl⟩ ⟨⟨Ev.none.val, by kernel_rfl, rfl⟩, by kernel_rfl, rfl, rfl⟩ ?_)
        intro g2 g3 w2 hb2 hg2 hg3 hs2
        simp only [setMany, List.setIfInBounds_toArray, List.set_cons_succ, List.set_cons_zero]
        obtain ⟨d, hd⟩ : ∃ d, d = c.next.jump true ((c.next.pc + way) % 4294967296) := ⟨_, rfl⟩
        have hdk : d.Ok := by rw [hd]; exact ok_jump (ok_next hk) true (by omega)
        have hd15 : d.next.r 15 / 4 = c.pc + 1 := by
          rw [hd]; unfold Cpu.next Cpu.jump; simp only [if_true]; omega
        have hdpc : d.pc = W.wd (c.pc + 1 + way) := by
          rw [hd]; unfold Cpu.next Cpu.jump W.wd; simp only []; omega
        have H2 : Sep w2 [(g2, d.cells, 25), (g3, Ev.none.cells, 28)] := by rw [hd]; exact hs2
        have B2 := Lib.hid (bel_then B1.out hb2)
        have H2' := H1.bel hb2
        have D15 := Lib.hid hd15
        have DPC := Lib.hid hdpc
        rw [← hd]
        clear hs2 hb2 hb1 H0 q1 hd hd15 hdpc hpc
        go_wp2_with fail
        refine wp_region_def [([0, 1], 2), ([], 3)] [4, 5, 6] [⟨7, 9, 7, 25, 34, Cpu.zero.cells⟩, ⟨8, 10, 8, 28, 35, Ev.none.cells⟩] (by kernel_rfl) (by kernel_rfl) (by kernel_rfl) (by kernel_rfl) rfl ?_
        intro w3 hb3
        have H3 := H2.bel hb3
        have H3' := H2'.bel hb3
        have B3 := Lib.hid (bel_then B2.out hb3)
        have q2 := fun x => ((H3.at 0 rfl).laterB x).loads (P := Try.prog) Try.underlying25 rfl (by kernel_rfl)
        ( refine def_seg ?_ ; simp only [pickOps, nth] ; (go_big_quiet_want; refine quiet_row 25 (.tmp 5) rfl rfl q2 ?_; go_big_quiet_on) ; simp only [Act.put, List.setIfInBounds_toArray, List.set_cons_succ, List.set_cons_zero] ; (repeat (go_big_quiet_step (fail))) ; refine wpQuiet_nil ?_ ; apply def_call (.int .u32 (wordR ki4)) ; (simp only [Act.put, List.setIfInBounds_toArray, List.set_cons_succ, List.set_cons_zero]; rfl) ; intro x ; go_wp2_with fail ; refine (word_walk ki4 _ ki4_ok (by simp [ki4]) (by simp [ki4]) (by simp [ki4])).mono ?_ ; rintro e w' ⟨rfl, hb⟩ ; go_wp2_with fail ; refine def_seg ?_ ; simp only [pickOps, nth] ; refine wpQuiet_nil ?_ ; apply def_call (.tuple #[Cpu.val (d.next.jump false (d.next.r 15 / 4)), Ev.none.val]) ; (simp only [Act.put, List.setIfInBounds_toArray, List.set_cons_succ, List.set_cons_zero]; rfl) ; intro x ; go_wp2_with fail ; refine (step_quiet (word_of ki4_may).1 hdk (k4_step d)).mono ?_ ; rintro e w' ⟨rfl, hb⟩ ; go_wp2_with fail ; refine def_fin ?_ ; simp only [pickOps, nth] ; (repeat (go_big_quiet_step (fail))) ; refine wpQuiet_nil ?_ ; refine def_post2 ⟨⟨Cpu.zero.val, by kernel_rfl, rfl⟩, by kernel_rfl, rfl, rfl⟩ ⟨⟨Ev.none.val, by kernel_rfl, rfl⟩, by kernel_rfl, rfl, rfl⟩ ?_)
        intro g4 g5 w4 hb4 hg4 hg5 hs4
        simp only [setMany, List.setIfInBounds_toArray, List.set_cons_succ, List.set_cons_zero]
        have H4 := H3.bel hb4
        have H4' := H3'.bel hb4
        have B4 := Lib.hid (bel_then B3.out hb4)
        have HS := Lib.hid hs4
        clear H2 H2' H3 H3' q2 hb3 hb4
        go_wp2_with fail
        refine wp_region_mix' [([0, 1, 2, 3, 4, 5, 6, 7, 8, 9, 10, 11, 12, 13, 14], 15), ([16, 17, 18], 19)] [20, 21] (by kernel_rfl) (by kernel_rfl) (fun _ _ d _ _ h => by cases d <;> exact h) ?_
        intro w5 hb5
        have B5 := Lib.hid (bel_then B4.out hb5)
        have l1 := ((hs4.bel hb5).at 0 rfl).laterCellB (v := .int .u32 (c.pc + 1)) 21 (by rw [← D15.out]; rfl)
        have l2 := ((H4'.bel hb5).at 0 rfl).laterCellB (v := .int .u32 c.pc) 21 rfl
        have l3 := ((H4.bel hb5).at 0 rfl).laterCellB (v := .int .u32 (W.wd (c.pc + 1 + way))) 21 (by rw [← DPC.out]; rfl)
        have a1 : IntKind.u32.wrap (c.pc + 1) = c.pc + 1 := by rw [IntKind.wrap_u32]; omega
        have a2 : wrap64 (c.pc + 1) = c.pc + 1 := by unfold wrap64; omega
        have a3 : IntKind.i64.wrap (c.pc + 1) = c.pc + 1 := by rw [IntKind.wrap_i64]; omega
        have a4 : IntKind.i64.wrap (c.pc + 1 + way) = c.pc + 1 + way := by rw [IntKind.wrap_i64]; omega
        have a5 : IntKind.i64.wrap c.pc = c.pc := by rw [IntKind.wrap_i64]; omega
        clear hs4 H4 H4' hb5
        refine mix_step ?_
        simp only [pickOps, nth]
        (repeat (go_big_quiet_step (fail)))
        refine wpQuiet_nil ?_
        go_wp2_with fail
        refine (ref_word _ _ (by omega)).mono ?_
        rintro e w' ⟨rfl, rfl⟩
        go_wp2_with fail
        refine ⟨Below.refl _ _, mix_step ?_⟩
        simp only [pickOps, nth]
        (repeat (go_big_quiet_step (fail)))
        refine wpQuiet_nil ?_
        go_wp2_with fail
        refine (known_walk _).mono ?_
        rintro e w6 ⟨rfl, hb6⟩
        have B6 := Lib.hid (bel_then B5.out hb6)
        have HB6 := Lib.hid hb6
        clear hb6
        go_wp2_with fail
        refine ⟨HB6.out, mix_end ?_⟩
        simp only [pickOps, nth]
        (repeat (go_big_quiet_step (fail)))
        refine wpQuiet_nil ?_
        go_wp2_with fail
        go_ret
        exact ⟨rfl, B6.out⟩

end Go.Proofs.Ytkeaogphaifnmaa
