/- The law RiscMeans, walked. -/
import Derived.Test.YtkeaogphaifnmaaRiscMeansPlain
import Derived.Test.YtkeaogphaifnmaaRefMay
import Derived.Test.YtkeaogphaifnmaaRiscReturns
import Derived.Test.YtkeaogphaifnmaaRiscOrders
namespace Go.Proofs.Ytkeaogphaifnmaa
set_option linter.unusedVariables false
set_option linter.unusedSimpArgs false
open Go.RowKit


theorem may_calls (i : Ins) (w : World) : Calls Try.prog 13 #[i.val] w fun e w' => ∃ r, e = .returned (.bool r) ∧ (r = true ↔ i.May) ∧ Below w.heap.size w w' := may_all i w
theorem may_ok {i : Ins} (h : i.May) : i.Ok := by
  have h0 := h.reg
  have h1 := h.imm
  have h2 := h.mem
  have h4 := h.jump
  have h5 := h.to
  have h6 := h.sys
  obtain ⟨hf, ha, hb, hc, ho, hi, hd, hn, _, _, _, _, _, _, _, _⟩ := h
  have hs : i.form = 0 ∨ i.form = 1 ∨ (i.form = 2 ∨ i.form = 3) ∨ i.form = 4 ∨ i.form = 5 ∨ i.form = 6 := by omega
  have ho : -8388608 ≤ i.off ∧ i.off ≤ 8388607 := by
    rcases hs with e | e | e | e | e | e
    · have := (h0 e).2.2.1; omega
    · have := (h1 e).2.1; omega
    · have := (h2 e).2.2.2.2.2.2; omega
    · have := (h4 e).2.2.2.2.2.2.2; omega
    · have := (h5 e).2.2.2.2.2.1; omega
    · have := (h6 e).2.2.2.2.2.2.2; omega
  constructor <;> omega
theorem may_word {i : Ins} (h : i.May) (w : World) : Calls Try.prog 14 #[i.val] w fun e w' => e = .returned (.int .u32 (wordR i)) ∧ Below w.heap.size w w' :=
  word_walk i w (may_ok h) (by have := h.im; omega) (by have := h.c; omega) h.form
theorem may_step {c : Cpu} {i : Ins} (h : i.May) {d : Cpu} {v : Ev} (hd : c.next.exec i = (d, v)) : c.step (wordR i) = (d, v) := by
  unfold Cpu.step
  rw [(word_of h).2.1, if_pos (word_of h).2.2]
  exact hd

set_option maxRecDepth 100000 in
set_option maxHeartbeats 8000000 in
theorem means_walk (c : Cpu) (i : Ins) (w : World) (hk : c.Ok) : Calls Try.prog 4 #[c.val, i.val] w fun e w' => e = .returned (.bool true) ∧ Below w.heap.size w w' := by
  have H0 := (Sep.nil w).alloc2 c.cells i.cells 25 35
  have B0 := Lib.hid (bel2 w (.cells c.cells 25) (.cells i.cells 35))
  go_enter Try.func4, Try.ntmps4
  go_wp2_with fail
  refine (known_walk _).mono ?_
  rintro e w1 ⟨rfl, hb1⟩
  have H1 := H0.bel hb1
  have B1 := Lib.hid (bel_then B0.out hb1)
  clear H0 hb1
  go_wp2_with (refine load_sep rfl 35 (.tmp 3) rfl H1 0 rfl rfl Try.underlying35 rfl (by kernel_rfl) ?_)
  refine (may_calls i _).mono ?_
  rintro e w2 ⟨r, rfl, hr, hb2⟩
  have B2 := Lib.hid (bel_then B1.out hb2)
  cases r with
  | false =>
    go_wp2_with fail
    go_ret
    exact ⟨rfl, B2.out⟩
  | true =>
    have hm : i.May := hr.1 rfl
    clear hr
    obtain ⟨d, ev, hd⟩ : ∃ d ev, c.next.exec i = (d, ev) := ⟨_, _, rfl⟩
    have HM := Lib.hid hm
    have HP := Lib.hid (means_plain c hm hd)
    have HS := Lib.hid (may_step hm hd)
    have H2 := H1.bel hb2
    clear hb2 H1 hm hd
    go_wp2_with fail
    refine wp_region_def [([0, 1], 2), ([], 3)] [4, 5, 6] [⟨7, 9, 5, 25, 21, Cpu.zero.cells⟩, ⟨8, 10, 6, 28, 22, Ev.none.cells⟩] (by kernel_rfl) (by kernel_rfl) (by kernel_rfl) (by kernel_rfl) rfl ?_
    intro w3 hb3
    have H3 := H2.bel hb3
    have B3 := Lib.hid (bel_then B2.out hb3)
    have q1 := fun x => ((H3.at 1 rfl).laterB x).loads (P := Try.prog) Try.underlying25 rfl (by kernel_rfl)
    have q2 := fun x => ((H3.at 0 rfl).laterB x).loads (P := Try.prog) Try.underlying35 rfl (by kernel_rfl)
    (try simp only [Act.put])
    refine def_seg ?_
    simp only [pickOps, nth]
    (go_big_quiet_want; refine quiet_row 25 (.tmp 2) rfl rfl q1 ?_; go_big_quiet_on)
    simp only [Act.put, List.setIfInBounds_toArray, List.set_cons_succ, List.set_cons_zero]
    (go_big_quiet_want; refine quiet_row 35 (.tmp 3) rfl rfl q2 ?_; go_big_quiet_on)
    (try simp only [Act.put, List.setIfInBounds_toArray, List.set_cons_succ, List.set_cons_zero])
    refine wpQuiet_nil ?_
    apply def_call (.int .u32 (wordR i))
    · (simp only [Act.put, List.setIfInBounds_toArray, List.set_cons_succ, List.set_cons_zero]; rfl)
    · intro x
      go_wp2_with fail
      refine (may_word HM.out _).mono ?_
      rintro e w' ⟨rfl, hb⟩
      go_wp2_with fail
    refine def_seg ?_
    simp only [pickOps, nth]
    refine wpQuiet_nil ?_
    apply def_call (.tuple #[d.val, ev.val])
    · (simp only [Act.put, List.setIfInBounds_toArray, List.set_cons_succ, List.set_cons_zero]; rfl)
    · intro x
      go_wp2_with fail
      refine (step_quiet (word_of HM.out).1 hk HS.out).mono ?_
      rintro e w' ⟨rfl, hb⟩
      go_wp2_with fail
    refine def_fin ?_
    simp only [pickOps, nth]
    (repeat (go_big_quiet_step (fail)))
    refine wpQuiet_nil ?_
    refine def_post2 ⟨⟨Cpu.zero.val, by kernel_rfl, rfl⟩, by kernel_rfl, rfl, rfl⟩ ⟨⟨Ev.none.val, by kernel_rfl, rfl⟩, by kernel_rfl, rfl, rfl⟩ ?_
    intro g5 g6 w4 hb4 hg5 hg6 hs4
    simp only [setMany, List.setIfInBounds_toArray, List.set_cons_succ, List.set_cons_zero]
    have H4 : Sep w4 [(g5, d.cells, 25), (g6, ev.cells, 28)] := hs4
    have H3' := H3.bel hb4
    have B4 := Lib.hid (bel_then B3.out hb4)
    have A5 := Lib.hid (H4.at 0 rfl)
    have A6 := Lib.hid (H4.at 1 rfl)
    have AC := Lib.hid (H3'.at 1 rfl)
    have AI := Lib.hid (H3'.at 0 rfl)
    clear hs4 hb4 H3 q1 q2 hb3 H4 H3' H2 hg5 hg6
    go_wp2_with fail
    go_loopw [7] (fun n wr => ∃ k : Nat, k ≤ 8 ∧ n = .int .i64 k ∧ Below w4.heap.size w4 wr) (fun n _ => 8 - (intOf n).toNat)
    case atStart => exact ⟨0, Nat.zero_le _, rfl, Below.refl _ _⟩
    case round =>
      obtain ⟨k, hk8, rfl, hbr⟩ := hrel
      have HBR := Lib.hid hbr
      clear hbr
      by_cases hlt : k < 8
      · obtain ⟨bk, hbk⟩ : ∃ bk, bk = c.is k := ⟨_, rfl⟩
        have C1 : Hid (c.cond k = bk) := by unfold Hid; rw [cond_low _ _ (by omega), hbk]
        have C2 : Hid (c.cond ((k : Int) + 8) = !bk) := by unfold Hid; rw [cond_high _ _ (by omega), hbk]
        have i3 : IntKind.i64.wrap ((k : Int) + 8) = k + 8 := by rw [IntKind.wrap_i64]; omega
        clear hbk
        go_wp2_with fail
        refine wp_region_mix' [([1, 4, 5, 0, 3], 2), ([], 6)] [7] (by kernel_rfl) (by kernel_rfl) (fun _ _ d _ _ h => by cases d <;> exact h) ?_
        intro w5 hb5
        have AC5 := (AC.out.bel HBR.out).bel hb5
        have BR5 := Lib.hid (bel_then HBR.out hb5)
        have l1 := fun x => (AC5.laterB x).loads (P := Try.prog) Try.underlying25 rfl (by kernel_rfl)
        refine mix_step ?_
        simp only [pickOps, nth]
        (repeat (go_big_quiet_step (fail)))
        (go_big_quiet_want; refine quiet_row 25 (.tmp 2) rfl rfl l1 ?_; go_big_quiet_on)
        (try simp only [Act.put, List.setIfInBounds_toArray, List.set_cons_succ, List.set_cons_zero])
        (go_big_quiet_want; refine quiet_row 25 (.tmp 2) rfl rfl l1 ?_; go_big_quiet_on)
        (try simp only [Act.put, List.setIfInBounds_toArray, List.set_cons_succ, List.set_cons_zero])
        refine wpQuiet_nil ?_
        clear i3
        go_wp2_with fail
        refine (holds_walk c k _).mono ?_
        rw [C1.out]
        rintro e w6 ⟨rfl, hb6⟩
        have AC6 := AC5.bel hb6
        have BR6 := Lib.hid (bel_then BR5.out hb6)
        have HB6 := Lib.hid hb6
        clear l1 hb5 hb6 AC5
        go_wp2_with fail
        refine ⟨HB6.out, mix_step ?_⟩
        simp only [pickOps, nth]
        refine wpQuiet_nil ?_
        go_wp2_with fail
        refine (holds_walk c (k + 8) _).mono ?_
        rw [C2.out]
        rintro e w7 ⟨rfl, hb7⟩
        have BR7 := Lib.hid (bel_then BR6.out hb7)
        have HB7 := Lib.hid hb7
        clear hb7 AC6
        go_wp2_with fail
        refine ⟨HB7.out, mix_end ?_⟩
        simp only [pickOps, nth]
        cases bk
        all_goals
          (repeat (go_big_quiet_step (fail)))
          refine wpQuiet_nil ?_
          go_wp2_with fail
          go_roundw
          case rel => exact ⟨k + 1, by omega, by go_num, BR7.out⟩
          case measure => simp [intOf]; omega
      · obtain rfl : k = 8 := by omega
        have BR := Lib.hid (bel_then B4.out HBR.out)
        have AX := Lib.hid (A5.out.bel HBR.out)
        have AE := Lib.hid (A6.out.bel HBR.out)
        have AI' := Lib.hid (AI.out.bel HBR.out)
        have AC' := Lib.hid (AC.out.bel HBR.out)
        have hpc := hk.pc
        have f0 : wr.cell? ⟨w.heap.size + 1, 0, none⟩ = some (.int .i64 i.form) := AI'.out.cell 0
        have f9 : wr.cell? ⟨w.heap.size + 1, 9, none⟩ = some (.int .i64 i.cond) := AI'.out.cell 9
        have hform := HM.out.form
        clear A5 A6 AI AC HBR hlt hk8 HS
        rcases (show i.form ≤ 1 ∨ (2 ≤ i.form ∧ i.form ≠ 4 ∧ i.form ≠ 5) ∨ i.form = 4 ∨ i.form = 5 by omega) with h1 | ⟨h1, h4, h5⟩ | h1 | h1
        · have HJ : Hid (jmp c i = false) := by unfold Hid jmp; rw [decide_eq_false (by omega)]; rfl
          have d4 : (i.form == 4) = false := by simp; omega
          have d5 : (i.form == 5) = false := by simp; omega
          go_wp2_with fail

          refine wp_region_mix' [([0, 1, 2, 3, 4, 5, 6, 7, 8], 9)] [10, 11] (by kernel_rfl) (by kernel_rfl) (fun _ _ d _ _ h => by cases d <;> exact h) ?_
          intro w8 hb8
          have BR8 := Lib.hid (bel_then BR.out hb8)
          have AX8 := Lib.hid (AX.out.bel hb8)
          have AE8 := Lib.hid (AE.out.bel hb8)
          have AI8 := Lib.hid (AI'.out.bel hb8)
          have AC8 := Lib.hid (AC'.out.bel hb8)
          have lx := AX8.out.laterCellB (v := .int .u32 (W.wd (c.pc + 1))) 21 (by show some (Value.int .u32 d.pc) = _; rw [HP.out.pc HJ.out]; rfl)
          have lc := AC8.out.laterCellB (v := .int .u32 c.pc) 21 rfl
          refine mix_step ?_
          simp only [pickOps, nth]
          (repeat (go_big_quiet_step (fail)))
          refine wpQuiet_nil ?_
          go_wp2_with fail
          refine (ref_word _ _ ⟨by omega, by omega⟩).mono ?_
          rintro e w9 ⟨rfl, rfl⟩
          go_wp2_with fail
          refine ⟨Below.refl _ _, mix_end ?_⟩
          simp only [pickOps, nth]
          (repeat (go_big_quiet_step (fail)))
          refine wpQuiet_nil ?_
          clear lx lc hb8 f0 f9 BR AX AE AI' AC'
          go_wp2_with fail

          go_loopw [9] (fun n wr => ∃ k : Nat, k ≤ 16 ∧ n = .int .i64 k ∧ Below w8.heap.size w8 wr) (fun n _ => 16 - (intOf n).toNat)
          case atStart => exact ⟨0, Nat.zero_le _, rfl, Below.refl _ _⟩
          case round =>
            obtain ⟨k, hk8, rfl, hbr⟩ := hrel
            have HBR := Lib.hid hbr
            clear hbr
            have f0 := (AI8.out.bel HBR.out).cell 0
            have f2 := (AI8.out.bel HBR.out).cell 2
            have f3 := (AI8.out.bel HBR.out).cell 3
            have f6 := (AI8.out.bel HBR.out).cell 6
            simp only [Ins.cells] at f0 f2 f3 f6
            by_cases hlt : k < 16
            · have i1 : (k : Int) < 16 := by omega
              have i2 : (0 : Int) ≤ k := by omega
              by_cases hka : (k : Int) = i.a
              · have dk : ((k : Int) == i.a) = true := by simpa using hka
                go_wp2_with fail
                refine wp_region_mix' [] [0, 1, 2, 3, 4, 5, 6, 7, 8, 9, 10, 11, 12] (by kernel_rfl) (by kernel_rfl) (fun _ _ d _ _ h => by cases d <;> exact h) ?_
                intro w9 hb9
                have BR9 := Lib.hid (bel_then HBR.out hb9)
                refine mix_end ?_
                simp only [pickOps, nth]
                (repeat (go_big_quiet_step (fail)))
                refine wpQuiet_nil ?_
                clear hb9 f0 f2 f3 f6
                go_wp2_with fail
                go_roundw
                case rel => exact ⟨k + 1, by omega, by go_num, BR9.out⟩
                case measure => simp [intOf]; omega

              · have dk : ((k : Int) == i.a) = false := by simpa using hka
                have hr := HP.out.r k hlt (fun h => hka h.2) (by rw [HJ.out]; simp)
                go_wp2_with fail
                refine wp_region_mix' [] [0, 1, 2, 3, 4, 5, 6, 7, 8, 9, 10, 11, 12] (by kernel_rfl) (by kernel_rfl) (fun _ _ d _ _ h => by cases d <;> exact h) ?_
                intro w9 hb9
                have lx := ((AX8.out.bel HBR.out).bel hb9).laterCellB (v := .int .u32 (c.r k)) k (reg_cell d w k hlt hr.symm)
                have lc := ((AC8.out.bel HBR.out).bel hb9).laterCellB (v := .int .u32 (c.r k)) k (reg_cell c w k hlt rfl)
                have BR9 := Lib.hid (bel_then HBR.out hb9)
                refine mix_end ?_
                simp only [pickOps, nth]
                (repeat (go_big_quiet_step (fail)))
                refine wpQuiet_nil ?_
                clear lx lc hb9 f0 f2 f3 f6
                go_wp2_with fail
                go_roundw
                case rel => exact ⟨k + 1, by omega, by go_num, BR9.out⟩
                case measure => simp [intOf]; omega

            · obtain rfl : k = 16 := by omega
              have e0 := (AE8.out.bel HBR.out).cell 0
              simp only [Ev.cells] at e0
              rcases HP.out.ev h1 with hv | ⟨hv, ho⟩
              · rw [hv] at e0
                go_wp2_with fail
                go_ret
                exact ⟨rfl, bel_then BR8.out HBR.out⟩
              · rw [hv] at e0
                rw [ho] at f6
                go_wp2_with fail
                go_ret
                exact ⟨rfl, bel_then BR8.out HBR.out⟩
        · have HJ : Hid (jmp c i = false) := by unfold Hid jmp; rw [decide_eq_false (by omega)]; rfl
          have h0 : ¬ i.form ≤ 1 := by omega
          have d4 : (i.form == 4) = false := by simp; omega
          have d5 : (i.form == 5) = false := by simp; omega
          go_wp2_with fail

          refine wp_region_mix' [([0, 1, 2, 3, 4, 5, 6, 7, 8], 9)] [10, 11] (by kernel_rfl) (by kernel_rfl) (fun _ _ d _ _ h => by cases d <;> exact h) ?_
          intro w8 hb8
          have BR8 := Lib.hid (bel_then BR.out hb8)
          have AX8 := Lib.hid (AX.out.bel hb8)
          have AE8 := Lib.hid (AE.out.bel hb8)
          have AI8 := Lib.hid (AI'.out.bel hb8)
          have AC8 := Lib.hid (AC'.out.bel hb8)
          have lx := AX8.out.laterCellB (v := .int .u32 (W.wd (c.pc + 1))) 21 (by show some (Value.int .u32 d.pc) = _; rw [HP.out.pc HJ.out]; rfl)
          have lc := AC8.out.laterCellB (v := .int .u32 c.pc) 21 rfl
          refine mix_step ?_
          simp only [pickOps, nth]
          (repeat (go_big_quiet_step (fail)))
          refine wpQuiet_nil ?_
          go_wp2_with fail
          refine (ref_word _ _ ⟨by omega, by omega⟩).mono ?_
          rintro e w9 ⟨rfl, rfl⟩
          go_wp2_with fail
          refine ⟨Below.refl _ _, mix_end ?_⟩
          simp only [pickOps, nth]
          (repeat (go_big_quiet_step (fail)))
          refine wpQuiet_nil ?_
          clear lx lc hb8 f0 f9 BR AX AE AI' AC'
          go_wp2_with fail

          go_loopw [9] (fun n wr => ∃ k : Nat, k ≤ 16 ∧ n = .int .i64 k ∧ Below w8.heap.size w8 wr) (fun n _ => 16 - (intOf n).toNat)
          case atStart => exact ⟨0, Nat.zero_le _, rfl, Below.refl _ _⟩
          case round =>
            obtain ⟨k, hk8, rfl, hbr⟩ := hrel
            have HBR := Lib.hid hbr
            clear hbr
            have f0 := (AI8.out.bel HBR.out).cell 0
            have f2 := (AI8.out.bel HBR.out).cell 2
            have f3 := (AI8.out.bel HBR.out).cell 3
            have f6 := (AI8.out.bel HBR.out).cell 6
            simp only [Ins.cells] at f0 f2 f3 f6
            by_cases hlt : k < 16
            · have i1 : (k : Int) < 16 := by omega
              have i2 : (0 : Int) ≤ k := by omega
              have hr := HP.out.r k hlt (fun h => absurd h.1 (by omega)) (by rw [HJ.out]; simp)
              go_wp2_with fail
              refine wp_region_mix' [] [0, 1, 2, 3, 4, 5, 6, 7, 8, 9, 10, 11, 12] (by kernel_rfl) (by kernel_rfl) (fun _ _ d _ _ h => by cases d <;> exact h) ?_
              intro w9 hb9
              have lx := ((AX8.out.bel HBR.out).bel hb9).laterCellB (v := .int .u32 (c.r k)) k (reg_cell d w k hlt hr.symm)
              have lc := ((AC8.out.bel HBR.out).bel hb9).laterCellB (v := .int .u32 (c.r k)) k (reg_cell c w k hlt rfl)
              have BR9 := Lib.hid (bel_then HBR.out hb9)
              refine mix_end ?_
              simp only [pickOps, nth]
              (repeat (go_big_quiet_step (fail)))
              refine wpQuiet_nil ?_
              clear lx lc hb9 f0 f2 f3 f6
              go_wp2_with fail
              go_roundw
              case rel => exact ⟨k + 1, by omega, by go_num, BR9.out⟩
              case measure => simp [intOf]; omega

            · obtain rfl : k = 16 := by omega
              obtain ⟨e1, e2, e3, e4, e5⟩ := HP.out.fl (by omega)
              have x1 : wr.cell? ⟨g5, 17, none⟩ = some (.bool c.n) := ((AX8.out.bel HBR.out).cell 17).trans (by rw [← e1]; rfl)
              have x2 : wr.cell? ⟨g5, 18, none⟩ = some (.bool c.z) := ((AX8.out.bel HBR.out).cell 18).trans (by rw [← e2]; rfl)
              have x3 : wr.cell? ⟨g5, 19, none⟩ = some (.bool c.c) := ((AX8.out.bel HBR.out).cell 19).trans (by rw [← e3]; rfl)
              have x4 : wr.cell? ⟨g5, 20, none⟩ = some (.bool c.v) := ((AX8.out.bel HBR.out).cell 20).trans (by rw [← e4]; rfl)
              have x5 : wr.cell? ⟨g5, 16, none⟩ = some (.int .u32 c.h) := ((AX8.out.bel HBR.out).cell 16).trans (by rw [← e5]; rfl)
              have y1 : wr.cell? ⟨w.heap.size, 17, none⟩ = some (.bool c.n) := (AC8.out.bel HBR.out).cell 17
              have y2 : wr.cell? ⟨w.heap.size, 18, none⟩ = some (.bool c.z) := (AC8.out.bel HBR.out).cell 18
              have y3 : wr.cell? ⟨w.heap.size, 19, none⟩ = some (.bool c.c) := (AC8.out.bel HBR.out).cell 19
              have y4 : wr.cell? ⟨w.heap.size, 20, none⟩ = some (.bool c.v) := (AC8.out.bel HBR.out).cell 20
              have y5 : wr.cell? ⟨w.heap.size, 16, none⟩ = some (.int .u32 c.h) := (AC8.out.bel HBR.out).cell 16
              clear e1 e2 e3 e4 e5
              go_wp2_with fail
              go_ret
              exact ⟨rfl, bel_then BR8.out HBR.out⟩
        · have h0 : ¬ i.form ≤ 1 := by omega
          have d4 : (i.form == 4) = true := by simp; omega
          have d5 : (i.form == 5) = false := by simp; omega
          obtain ⟨bj, hbj⟩ : ∃ bj, bj = c.cond i.cond := ⟨_, rfl⟩
          have HC : Hid (c.cond i.cond = bj) := hbj.symm
          have HJ' : Hid (jmp c i = bj) := by unfold Hid jmp; rw [decide_eq_true (by omega), ← hbj]; rfl
          clear hbj
          have AS : Sep wr [(w.heap.size, c.cells, 25)] := (Sep.nil wr).cons AC'.out (by simp)
          go_wp2_with (refine guard_off (by kernel_rfl) ?_; refine load_sep rfl 25 (.tmp 2) rfl AS 0 rfl rfl Try.underlying25 rfl (by kernel_rfl) ?_)
          refine (holds_walk c i.cond _).mono ?_
          rw [HC.out]
          rintro e w7 ⟨rfl, hb7⟩
          have BR' := Lib.hid (bel_then BR.out hb7)
          have AX' := Lib.hid (AX.out.bel hb7)
          have AE' := Lib.hid (AE.out.bel hb7)
          have AI'' := Lib.hid (AI'.out.bel hb7)
          have AC'' := Lib.hid (AC'.out.bel hb7)
          clear BR AX AE AI' AC' AS hb7
          have BR := BR'
          have AX := AX'
          have AE := AE'
          have AI' := AI''
          have AC' := AC''
          clear BR' AX' AE' AI'' AC''
          cases bj with
          | false =>
            have HJ := HJ'
            go_wp2_with fail
            refine wp_region_mix' [([0, 1, 2, 3, 4, 5, 6, 7, 8], 9)] [10, 11] (by kernel_rfl) (by kernel_rfl) (fun _ _ d _ _ h => by cases d <;> exact h) ?_
            intro w8 hb8
            have BR8 := Lib.hid (bel_then BR.out hb8)
            have AX8 := Lib.hid (AX.out.bel hb8)
            have AE8 := Lib.hid (AE.out.bel hb8)
            have AI8 := Lib.hid (AI'.out.bel hb8)
            have AC8 := Lib.hid (AC'.out.bel hb8)
            have lx := AX8.out.laterCellB (v := .int .u32 (W.wd (c.pc + 1))) 21 (by show some (Value.int .u32 d.pc) = _; rw [HP.out.pc HJ.out]; rfl)
            have lc := AC8.out.laterCellB (v := .int .u32 c.pc) 21 rfl
            refine mix_step ?_
            simp only [pickOps, nth]
            (repeat (go_big_quiet_step (fail)))
            refine wpQuiet_nil ?_
            go_wp2_with fail
            refine (ref_word _ _ ⟨by omega, by omega⟩).mono ?_
            rintro e w9 ⟨rfl, rfl⟩
            go_wp2_with fail
            refine ⟨Below.refl _ _, mix_end ?_⟩
            simp only [pickOps, nth]
            (repeat (go_big_quiet_step (fail)))
            refine wpQuiet_nil ?_
            clear lx lc hb8 f0 f9 BR AX AE AI' AC'
            go_wp2_with fail

            go_loopw [9] (fun n wr => ∃ k : Nat, k ≤ 16 ∧ n = .int .i64 k ∧ Below w8.heap.size w8 wr) (fun n _ => 16 - (intOf n).toNat)
            case atStart => exact ⟨0, Nat.zero_le _, rfl, Below.refl _ _⟩
            case round =>
              obtain ⟨k, hk8, rfl, hbr⟩ := hrel
              have HBR := Lib.hid hbr
              clear hbr
              have f0 := (AI8.out.bel HBR.out).cell 0
              have f2 := (AI8.out.bel HBR.out).cell 2
              have f3 := (AI8.out.bel HBR.out).cell 3
              have f6 := (AI8.out.bel HBR.out).cell 6
              simp only [Ins.cells] at f0 f2 f3 f6
              by_cases hlt : k < 16
              · have i1 : (k : Int) < 16 := by omega
                have i2 : (0 : Int) ≤ k := by omega
                have hr := HP.out.r k hlt (fun h => absurd h.1 (by omega)) (by rw [HJ.out]; simp)
                go_wp2_with fail
                refine wp_region_mix' [] [0, 1, 2, 3, 4, 5, 6, 7, 8, 9, 10, 11, 12] (by kernel_rfl) (by kernel_rfl) (fun _ _ d _ _ h => by cases d <;> exact h) ?_
                intro w9 hb9
                have lx := ((AX8.out.bel HBR.out).bel hb9).laterCellB (v := .int .u32 (c.r k)) k (reg_cell d w k hlt hr.symm)
                have lc := ((AC8.out.bel HBR.out).bel hb9).laterCellB (v := .int .u32 (c.r k)) k (reg_cell c w k hlt rfl)
                have BR9 := Lib.hid (bel_then HBR.out hb9)
                refine mix_end ?_
                simp only [pickOps, nth]
                (repeat (go_big_quiet_step (fail)))
                refine wpQuiet_nil ?_
                clear lx lc hb9 f0 f2 f3 f6
                go_wp2_with fail
                go_roundw
                case rel => exact ⟨k + 1, by omega, by go_num, BR9.out⟩
                case measure => simp [intOf]; omega

              · obtain rfl : k = 16 := by omega
                obtain ⟨e1, e2, e3, e4, e5⟩ := HP.out.fl (by omega)
                have x1 : wr.cell? ⟨g5, 17, none⟩ = some (.bool c.n) := ((AX8.out.bel HBR.out).cell 17).trans (by rw [← e1]; rfl)
                have x2 : wr.cell? ⟨g5, 18, none⟩ = some (.bool c.z) := ((AX8.out.bel HBR.out).cell 18).trans (by rw [← e2]; rfl)
                have x3 : wr.cell? ⟨g5, 19, none⟩ = some (.bool c.c) := ((AX8.out.bel HBR.out).cell 19).trans (by rw [← e3]; rfl)
                have x4 : wr.cell? ⟨g5, 20, none⟩ = some (.bool c.v) := ((AX8.out.bel HBR.out).cell 20).trans (by rw [← e4]; rfl)
                have x5 : wr.cell? ⟨g5, 16, none⟩ = some (.int .u32 c.h) := ((AX8.out.bel HBR.out).cell 16).trans (by rw [← e5]; rfl)
                have y1 : wr.cell? ⟨w.heap.size, 17, none⟩ = some (.bool c.n) := (AC8.out.bel HBR.out).cell 17
                have y2 : wr.cell? ⟨w.heap.size, 18, none⟩ = some (.bool c.z) := (AC8.out.bel HBR.out).cell 18
                have y3 : wr.cell? ⟨w.heap.size, 19, none⟩ = some (.bool c.c) := (AC8.out.bel HBR.out).cell 19
                have y4 : wr.cell? ⟨w.heap.size, 20, none⟩ = some (.bool c.v) := (AC8.out.bel HBR.out).cell 20
                have y5 : wr.cell? ⟨w.heap.size, 16, none⟩ = some (.int .u32 c.h) := (AC8.out.bel HBR.out).cell 16
                clear e1 e2 e3 e4 e5
                go_wp2_with fail
                go_ret
                exact ⟨rfl, bel_then BR8.out HBR.out⟩

          | true =>
            have HJ := HJ'
            go_wp2_with fail
            refine wp_region_mix' [([0, 1, 2, 3, 4, 5, 6, 7, 8], 9)] [10, 11] (by kernel_rfl) (by kernel_rfl) (fun _ _ d _ _ h => by cases d <;> exact h) ?_
            intro w8 hb8
            have BR8 := Lib.hid (bel_then BR.out hb8)
            have AX8 := Lib.hid (AX.out.bel hb8)
            have AE8 := Lib.hid (AE.out.bel hb8)
            have AI8 := Lib.hid (AI'.out.bel hb8)
            have AC8 := Lib.hid (AC'.out.bel hb8)
            refine mix_step ?_
            simp only [pickOps, nth]
            (repeat (go_big_quiet_step (fail)))
            refine wpQuiet_nil ?_
            go_wp2_with fail
            refine ⟨Below.refl _ _, mix_end ?_⟩
            simp only [pickOps, nth]
            (repeat (go_big_quiet_step (fail)))
            refine wpQuiet_nil ?_
            clear hb8 f0 f9 BR AX AE AI' AC'
            go_wp2_with fail

            go_loopw [9] (fun n wr => ∃ k : Nat, k ≤ 16 ∧ n = .int .i64 k ∧ Below w8.heap.size w8 wr) (fun n _ => 16 - (intOf n).toNat)
            case atStart => exact ⟨0, Nat.zero_le _, rfl, Below.refl _ _⟩
            case round =>
              obtain ⟨k, hk8, rfl, hbr⟩ := hrel
              have HBR := Lib.hid hbr
              clear hbr
              have f0 := (AI8.out.bel HBR.out).cell 0
              have f2 := (AI8.out.bel HBR.out).cell 2
              have f3 := (AI8.out.bel HBR.out).cell 3
              have f6 := (AI8.out.bel HBR.out).cell 6
              simp only [Ins.cells] at f0 f2 f3 f6
              by_cases hlt : k < 16
              · have i1 : (k : Int) < 16 := by omega
                have i2 : (0 : Int) ≤ k := by omega
                cases hvv : i.v with
                | true =>
                  rw [hvv] at f2
                  by_cases hka : k = 15
                  · have dk : ((k : Int) == 15) = true := by simp; omega
                    go_wp2_with fail
                    refine wp_region_mix' [] [0, 1, 2, 3, 4, 5, 6, 7, 8, 9, 10, 11, 12] (by kernel_rfl) (by kernel_rfl) (fun _ _ d _ _ h => by cases d <;> exact h) ?_
                    intro w9 hb9
                    have BR9 := Lib.hid (bel_then HBR.out hb9)
                    refine mix_end ?_
                    simp only [pickOps, nth]
                    (repeat (go_big_quiet_step (fail)))
                    refine wpQuiet_nil ?_
                    clear hb9 f0 f2 f3 f6
                    go_wp2_with fail
                    go_roundw
                    case rel => exact ⟨k + 1, by omega, by go_num, BR9.out⟩
                    case measure => simp [intOf]; omega

                  · have dk : ((k : Int) == 15) = false := by simp; omega
                    have hr := HP.out.r k hlt (fun h => absurd h.1 (by omega)) (fun h => hka h.2.2)
                    go_wp2_with fail
                    refine wp_region_mix' [] [0, 1, 2, 3, 4, 5, 6, 7, 8, 9, 10, 11, 12] (by kernel_rfl) (by kernel_rfl) (fun _ _ d _ _ h => by cases d <;> exact h) ?_
                    intro w9 hb9
                    have lx := ((AX8.out.bel HBR.out).bel hb9).laterCellB (v := .int .u32 (c.r k)) k (reg_cell d w k hlt hr.symm)
                    have lc := ((AC8.out.bel HBR.out).bel hb9).laterCellB (v := .int .u32 (c.r k)) k (reg_cell c w k hlt rfl)
                    have BR9 := Lib.hid (bel_then HBR.out hb9)
                    refine mix_end ?_
                    simp only [pickOps, nth]
                    (repeat (go_big_quiet_step (fail)))
                    refine wpQuiet_nil ?_
                    clear lx lc hb9 f0 f2 f3 f6
                    go_wp2_with fail
                    go_roundw
                    case rel => exact ⟨k + 1, by omega, by go_num, BR9.out⟩
                    case measure => simp [intOf]; omega

                | false =>
                  rw [hvv] at f2
                  have hr := HP.out.r k hlt (fun h => absurd h.1 (by omega)) (fun h => absurd h.2.1 (by rw [hvv]; decide))
                  go_wp2_with fail
                  refine wp_region_mix' [] [0, 1, 2, 3, 4, 5, 6, 7, 8, 9, 10, 11, 12] (by kernel_rfl) (by kernel_rfl) (fun _ _ d _ _ h => by cases d <;> exact h) ?_
                  intro w9 hb9
                  have lx := ((AX8.out.bel HBR.out).bel hb9).laterCellB (v := .int .u32 (c.r k)) k (reg_cell d w k hlt hr.symm)
                  have lc := ((AC8.out.bel HBR.out).bel hb9).laterCellB (v := .int .u32 (c.r k)) k (reg_cell c w k hlt rfl)
                  have BR9 := Lib.hid (bel_then HBR.out hb9)
                  refine mix_end ?_
                  simp only [pickOps, nth]
                  (repeat (go_big_quiet_step (fail)))
                  refine wpQuiet_nil ?_
                  clear lx lc hb9 f0 f2 f3 f6
                  go_wp2_with fail
                  go_roundw
                  case rel => exact ⟨k + 1, by omega, by go_num, BR9.out⟩
                  case measure => simp [intOf]; omega

              · obtain rfl : k = 16 := by omega
                obtain ⟨e1, e2, e3, e4, e5⟩ := HP.out.fl (by omega)
                have x1 : wr.cell? ⟨g5, 17, none⟩ = some (.bool c.n) := ((AX8.out.bel HBR.out).cell 17).trans (by rw [← e1]; rfl)
                have x2 : wr.cell? ⟨g5, 18, none⟩ = some (.bool c.z) := ((AX8.out.bel HBR.out).cell 18).trans (by rw [← e2]; rfl)
                have x3 : wr.cell? ⟨g5, 19, none⟩ = some (.bool c.c) := ((AX8.out.bel HBR.out).cell 19).trans (by rw [← e3]; rfl)
                have x4 : wr.cell? ⟨g5, 20, none⟩ = some (.bool c.v) := ((AX8.out.bel HBR.out).cell 20).trans (by rw [← e4]; rfl)
                have x5 : wr.cell? ⟨g5, 16, none⟩ = some (.int .u32 c.h) := ((AX8.out.bel HBR.out).cell 16).trans (by rw [← e5]; rfl)
                have y1 : wr.cell? ⟨w.heap.size, 17, none⟩ = some (.bool c.n) := (AC8.out.bel HBR.out).cell 17
                have y2 : wr.cell? ⟨w.heap.size, 18, none⟩ = some (.bool c.z) := (AC8.out.bel HBR.out).cell 18
                have y3 : wr.cell? ⟨w.heap.size, 19, none⟩ = some (.bool c.c) := (AC8.out.bel HBR.out).cell 19
                have y4 : wr.cell? ⟨w.heap.size, 20, none⟩ = some (.bool c.v) := (AC8.out.bel HBR.out).cell 20
                have y5 : wr.cell? ⟨w.heap.size, 16, none⟩ = some (.int .u32 c.h) := (AC8.out.bel HBR.out).cell 16
                clear e1 e2 e3 e4 e5
                go_wp2_with fail
                go_ret
                exact ⟨rfl, bel_then BR8.out HBR.out⟩
        · have h0 : ¬ i.form ≤ 1 := by omega
          have d4 : (i.form == 4) = false := by simp; omega
          have d5 : (i.form == 5) = true := by simp; omega
          obtain ⟨bj, hbj⟩ : ∃ bj, bj = c.cond i.cond := ⟨_, rfl⟩
          have HC : Hid (c.cond i.cond = bj) := hbj.symm
          have HJ' : Hid (jmp c i = bj) := by unfold Hid jmp; rw [decide_eq_true (by omega), ← hbj]; rfl
          clear hbj
          have AS : Sep wr [(w.heap.size, c.cells, 25)] := (Sep.nil wr).cons AC'.out (by simp)
          go_wp2_with (refine guard_off (by kernel_rfl) ?_; refine load_sep rfl 25 (.tmp 2) rfl AS 0 rfl rfl Try.underlying25 rfl (by kernel_rfl) ?_)
          refine (holds_walk c i.cond _).mono ?_
          rw [HC.out]
          rintro e w7 ⟨rfl, hb7⟩
          have BR' := Lib.hid (bel_then BR.out hb7)
          have AX' := Lib.hid (AX.out.bel hb7)
          have AE' := Lib.hid (AE.out.bel hb7)
          have AI'' := Lib.hid (AI'.out.bel hb7)
          have AC'' := Lib.hid (AC'.out.bel hb7)
          clear BR AX AE AI' AC' AS hb7
          have BR := BR'
          have AX := AX'
          have AE := AE'
          have AI' := AI''
          have AC' := AC''
          clear BR' AX' AE' AI'' AC''
          cases bj with
          | false =>
            have HJ := HJ'
            go_wp2_with fail
            refine wp_region_mix' [([0, 1, 2, 3, 4, 5, 6, 7, 8], 9)] [10, 11] (by kernel_rfl) (by kernel_rfl) (fun _ _ d _ _ h => by cases d <;> exact h) ?_
            intro w8 hb8
            have BR8 := Lib.hid (bel_then BR.out hb8)
            have AX8 := Lib.hid (AX.out.bel hb8)
            have AE8 := Lib.hid (AE.out.bel hb8)
            have AI8 := Lib.hid (AI'.out.bel hb8)
            have AC8 := Lib.hid (AC'.out.bel hb8)
            have lx := AX8.out.laterCellB (v := .int .u32 (W.wd (c.pc + 1))) 21 (by show some (Value.int .u32 d.pc) = _; rw [HP.out.pc HJ.out]; rfl)
            have lc := AC8.out.laterCellB (v := .int .u32 c.pc) 21 rfl
            refine mix_step ?_
            simp only [pickOps, nth]
            (repeat (go_big_quiet_step (fail)))
            refine wpQuiet_nil ?_
            go_wp2_with fail
            refine (ref_word _ _ ⟨by omega, by omega⟩).mono ?_
            rintro e w9 ⟨rfl, rfl⟩
            go_wp2_with fail
            refine ⟨Below.refl _ _, mix_end ?_⟩
            simp only [pickOps, nth]
            (repeat (go_big_quiet_step (fail)))
            refine wpQuiet_nil ?_
            clear lx lc hb8 f0 f9 BR AX AE AI' AC'
            go_wp2_with fail

            go_loopw [9] (fun n wr => ∃ k : Nat, k ≤ 16 ∧ n = .int .i64 k ∧ Below w8.heap.size w8 wr) (fun n _ => 16 - (intOf n).toNat)
            case atStart => exact ⟨0, Nat.zero_le _, rfl, Below.refl _ _⟩
            case round =>
              obtain ⟨k, hk8, rfl, hbr⟩ := hrel
              have HBR := Lib.hid hbr
              clear hbr
              have f0 := (AI8.out.bel HBR.out).cell 0
              have f2 := (AI8.out.bel HBR.out).cell 2
              have f3 := (AI8.out.bel HBR.out).cell 3
              have f6 := (AI8.out.bel HBR.out).cell 6
              simp only [Ins.cells] at f0 f2 f3 f6
              by_cases hlt : k < 16
              · have i1 : (k : Int) < 16 := by omega
                have i2 : (0 : Int) ≤ k := by omega
                have hr := HP.out.r k hlt (fun h => absurd h.1 (by omega)) (by rw [HJ.out]; simp)
                go_wp2_with fail
                refine wp_region_mix' [] [0, 1, 2, 3, 4, 5, 6, 7, 8, 9, 10, 11, 12] (by kernel_rfl) (by kernel_rfl) (fun _ _ d _ _ h => by cases d <;> exact h) ?_
                intro w9 hb9
                have lx := ((AX8.out.bel HBR.out).bel hb9).laterCellB (v := .int .u32 (c.r k)) k (reg_cell d w k hlt hr.symm)
                have lc := ((AC8.out.bel HBR.out).bel hb9).laterCellB (v := .int .u32 (c.r k)) k (reg_cell c w k hlt rfl)
                have BR9 := Lib.hid (bel_then HBR.out hb9)
                refine mix_end ?_
                simp only [pickOps, nth]
                (repeat (go_big_quiet_step (fail)))
                refine wpQuiet_nil ?_
                clear lx lc hb9 f0 f2 f3 f6
                go_wp2_with fail
                go_roundw
                case rel => exact ⟨k + 1, by omega, by go_num, BR9.out⟩
                case measure => simp [intOf]; omega

              · obtain rfl : k = 16 := by omega
                obtain ⟨e1, e2, e3, e4, e5⟩ := HP.out.fl (by omega)
                have x1 : wr.cell? ⟨g5, 17, none⟩ = some (.bool c.n) := ((AX8.out.bel HBR.out).cell 17).trans (by rw [← e1]; rfl)
                have x2 : wr.cell? ⟨g5, 18, none⟩ = some (.bool c.z) := ((AX8.out.bel HBR.out).cell 18).trans (by rw [← e2]; rfl)
                have x3 : wr.cell? ⟨g5, 19, none⟩ = some (.bool c.c) := ((AX8.out.bel HBR.out).cell 19).trans (by rw [← e3]; rfl)
                have x4 : wr.cell? ⟨g5, 20, none⟩ = some (.bool c.v) := ((AX8.out.bel HBR.out).cell 20).trans (by rw [← e4]; rfl)
                have x5 : wr.cell? ⟨g5, 16, none⟩ = some (.int .u32 c.h) := ((AX8.out.bel HBR.out).cell 16).trans (by rw [← e5]; rfl)
                have y1 : wr.cell? ⟨w.heap.size, 17, none⟩ = some (.bool c.n) := (AC8.out.bel HBR.out).cell 17
                have y2 : wr.cell? ⟨w.heap.size, 18, none⟩ = some (.bool c.z) := (AC8.out.bel HBR.out).cell 18
                have y3 : wr.cell? ⟨w.heap.size, 19, none⟩ = some (.bool c.c) := (AC8.out.bel HBR.out).cell 19
                have y4 : wr.cell? ⟨w.heap.size, 20, none⟩ = some (.bool c.v) := (AC8.out.bel HBR.out).cell 20
                have y5 : wr.cell? ⟨w.heap.size, 16, none⟩ = some (.int .u32 c.h) := (AC8.out.bel HBR.out).cell 16
                clear e1 e2 e3 e4 e5
                go_wp2_with fail
                go_ret
                exact ⟨rfl, bel_then BR8.out HBR.out⟩

          | true =>
            have HJ := HJ'
            go_wp2_with fail
            refine wp_region_mix' [([0, 1, 2, 3, 4, 5, 6, 7, 8], 9)] [10, 11] (by kernel_rfl) (by kernel_rfl) (fun _ _ d _ _ h => by cases d <;> exact h) ?_
            intro w8 hb8
            have BR8 := Lib.hid (bel_then BR.out hb8)
            have AX8 := Lib.hid (AX.out.bel hb8)
            have AE8 := Lib.hid (AE.out.bel hb8)
            have AI8 := Lib.hid (AI'.out.bel hb8)
            have AC8 := Lib.hid (AC'.out.bel hb8)
            refine mix_step ?_
            simp only [pickOps, nth]
            (repeat (go_big_quiet_step (fail)))
            refine wpQuiet_nil ?_
            go_wp2_with fail
            refine ⟨Below.refl _ _, mix_end ?_⟩
            simp only [pickOps, nth]
            (repeat (go_big_quiet_step (fail)))
            refine wpQuiet_nil ?_
            clear hb8 f0 f9 BR AX AE AI' AC'
            go_wp2_with fail

            go_loopw [9] (fun n wr => ∃ k : Nat, k ≤ 16 ∧ n = .int .i64 k ∧ Below w8.heap.size w8 wr) (fun n _ => 16 - (intOf n).toNat)
            case atStart => exact ⟨0, Nat.zero_le _, rfl, Below.refl _ _⟩
            case round =>
              obtain ⟨k, hk8, rfl, hbr⟩ := hrel
              have HBR := Lib.hid hbr
              clear hbr
              have f0 := (AI8.out.bel HBR.out).cell 0
              have f2 := (AI8.out.bel HBR.out).cell 2
              have f3 := (AI8.out.bel HBR.out).cell 3
              have f6 := (AI8.out.bel HBR.out).cell 6
              simp only [Ins.cells] at f0 f2 f3 f6
              by_cases hlt : k < 16
              · have i1 : (k : Int) < 16 := by omega
                have i2 : (0 : Int) ≤ k := by omega
                cases hvv : i.v with
                | true =>
                  rw [hvv] at f2
                  by_cases hka : k = 15
                  · have dk : ((k : Int) == 15) = true := by simp; omega
                    go_wp2_with fail
                    refine wp_region_mix' [] [0, 1, 2, 3, 4, 5, 6, 7, 8, 9, 10, 11, 12] (by kernel_rfl) (by kernel_rfl) (fun _ _ d _ _ h => by cases d <;> exact h) ?_
                    intro w9 hb9
                    have BR9 := Lib.hid (bel_then HBR.out hb9)
                    refine mix_end ?_
                    simp only [pickOps, nth]
                    (repeat (go_big_quiet_step (fail)))
                    refine wpQuiet_nil ?_
                    clear hb9 f0 f2 f3 f6
                    go_wp2_with fail
                    go_roundw
                    case rel => exact ⟨k + 1, by omega, by go_num, BR9.out⟩
                    case measure => simp [intOf]; omega

                  · have dk : ((k : Int) == 15) = false := by simp; omega
                    have hr := HP.out.r k hlt (fun h => absurd h.1 (by omega)) (fun h => hka h.2.2)
                    go_wp2_with fail
                    refine wp_region_mix' [] [0, 1, 2, 3, 4, 5, 6, 7, 8, 9, 10, 11, 12] (by kernel_rfl) (by kernel_rfl) (fun _ _ d _ _ h => by cases d <;> exact h) ?_
                    intro w9 hb9
                    have lx := ((AX8.out.bel HBR.out).bel hb9).laterCellB (v := .int .u32 (c.r k)) k (reg_cell d w k hlt hr.symm)
                    have lc := ((AC8.out.bel HBR.out).bel hb9).laterCellB (v := .int .u32 (c.r k)) k (reg_cell c w k hlt rfl)
                    have BR9 := Lib.hid (bel_then HBR.out hb9)
                    refine mix_end ?_
                    simp only [pickOps, nth]
                    (repeat (go_big_quiet_step (fail)))
                    refine wpQuiet_nil ?_
                    clear lx lc hb9 f0 f2 f3 f6
                    go_wp2_with fail
                    go_roundw
                    case rel => exact ⟨k + 1, by omega, by go_num, BR9.out⟩
                    case measure => simp [intOf]; omega

                | false =>
                  rw [hvv] at f2
                  have hr := HP.out.r k hlt (fun h => absurd h.1 (by omega)) (fun h => absurd h.2.1 (by rw [hvv]; decide))
                  go_wp2_with fail
                  refine wp_region_mix' [] [0, 1, 2, 3, 4, 5, 6, 7, 8, 9, 10, 11, 12] (by kernel_rfl) (by kernel_rfl) (fun _ _ d _ _ h => by cases d <;> exact h) ?_
                  intro w9 hb9
                  have lx := ((AX8.out.bel HBR.out).bel hb9).laterCellB (v := .int .u32 (c.r k)) k (reg_cell d w k hlt hr.symm)
                  have lc := ((AC8.out.bel HBR.out).bel hb9).laterCellB (v := .int .u32 (c.r k)) k (reg_cell c w k hlt rfl)
                  have BR9 := Lib.hid (bel_then HBR.out hb9)
                  refine mix_end ?_
                  simp only [pickOps, nth]
                  (repeat (go_big_quiet_step (fail)))
                  refine wpQuiet_nil ?_
                  clear lx lc hb9 f0 f2 f3 f6
                  go_wp2_with fail
                  go_roundw
                  case rel => exact ⟨k + 1, by omega, by go_num, BR9.out⟩
                  case measure => simp [intOf]; omega

              · obtain rfl : k = 16 := by omega
                obtain ⟨e1, e2, e3, e4, e5⟩ := HP.out.fl (by omega)
                have x1 : wr.cell? ⟨g5, 17, none⟩ = some (.bool c.n) := ((AX8.out.bel HBR.out).cell 17).trans (by rw [← e1]; rfl)
                have x2 : wr.cell? ⟨g5, 18, none⟩ = some (.bool c.z) := ((AX8.out.bel HBR.out).cell 18).trans (by rw [← e2]; rfl)
                have x3 : wr.cell? ⟨g5, 19, none⟩ = some (.bool c.c) := ((AX8.out.bel HBR.out).cell 19).trans (by rw [← e3]; rfl)
                have x4 : wr.cell? ⟨g5, 20, none⟩ = some (.bool c.v) := ((AX8.out.bel HBR.out).cell 20).trans (by rw [← e4]; rfl)
                have x5 : wr.cell? ⟨g5, 16, none⟩ = some (.int .u32 c.h) := ((AX8.out.bel HBR.out).cell 16).trans (by rw [← e5]; rfl)
                have y1 : wr.cell? ⟨w.heap.size, 17, none⟩ = some (.bool c.n) := (AC8.out.bel HBR.out).cell 17
                have y2 : wr.cell? ⟨w.heap.size, 18, none⟩ = some (.bool c.z) := (AC8.out.bel HBR.out).cell 18
                have y3 : wr.cell? ⟨w.heap.size, 19, none⟩ = some (.bool c.c) := (AC8.out.bel HBR.out).cell 19
                have y4 : wr.cell? ⟨w.heap.size, 20, none⟩ = some (.bool c.v) := (AC8.out.bel HBR.out).cell 20
                have y5 : wr.cell? ⟨w.heap.size, 16, none⟩ = some (.int .u32 c.h) := (AC8.out.bel HBR.out).cell 16
                clear e1 e2 e3 e4 e5
                go_wp2_with fail
                go_ret
                exact ⟨rfl, bel_then BR8.out HBR.out⟩

end Go.Proofs.Ytkeaogphaifnmaa
