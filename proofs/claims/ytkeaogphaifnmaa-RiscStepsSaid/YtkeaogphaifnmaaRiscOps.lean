/- The law's 'ops': instructions, done one behind the other. -/
import Derived.Test.YtkeaogphaifnmaaRiscKnown2
import Derived.Test.YtkeaogphaifnmaaTail
namespace Go.Proofs.Ytkeaogphaifnmaa
set_option linter.unusedVariables false
set_option linter.unusedSimpArgs false
open Go.RowKit

/-- instructions side by side. -/
def insRow (L : List Ins) : List Value := L.flatMap (fun i => i.cells.toList)
theorem insRow_len (L : List Ins) : (insRow L).length = 11 * L.length := by
  induction L with
  | nil => rfl
  | cons i L ih => unfold insRow at *; rw [List.flatMap_cons, List.length_append, ih]; simp [Ins.cells]; omega
theorem insRow_at : ∀ (L : List Ins) (k : Nat) (i : Ins) (j : Nat), L[k]? = some i → j < 11 → (insRow L)[11 * k + j]? = i.cells[j]?
  | [], k, i, j, h, _ => by simp at h
  | x :: L, 0, i, j, h, hj => by
    simp at h; subst h
    unfold insRow
    rw [List.flatMap_cons, List.getElem?_append_left (by simp [Ins.cells]; omega)]
    simp
  | x :: L, k + 1, i, j, h, hj => by
    have := insRow_at L k i j (by simpa using h) hj
    unfold insRow at *
    rw [List.flatMap_cons, List.getElem?_append_right (by simp [Ins.cells]; omega), ← this]
    congr 1
    simp [Ins.cells]; omega

/-- a whole struct's load out of a block's middle, in every world of the segment. -/
theorem At.loadsMid {P : Program} {w : World} {g : Nat} {cs : Array Value} {t : TypeId} (h : At w g cs t) (o : Nat) (xs : List Value) (hx : ∀ (j : Nat) v, xs[j]? = some v → cs[o + j]? = some v) {ty : TypeId} {d : TypeDesc} (hu : P.underlying ty = some d) (hd : d.isRow = true) (hi : (P.info? ty).map (·.size) = some xs.length) :
    (Instr.loadAt ty (.pointer (some ⟨g, o, none⟩))).run P w = .ok (.agg xs.toArray) w :=
  run_loadAt_mid w g o ty xs d (fun j v hv => by rw [h.cell]; exact hx j v hv) hu hd hi
theorem quiet_mid {P : Program} {R : World → Prop} {K : Act → Prop} {a : Act} {o : Oper} (ty : TypeId) (x : Operand) (ho : o.op = .load ty x) {g f : Nat} {cs : Array Value} (hx : a.eval x = .pointer (some ⟨g, f, none⟩))
    (hl : ∀ y : Later R, (Instr.loadAt ty (.pointer (some ⟨g, f, none⟩))).run P y.w = .ok (.agg cs) y.w) (hk : K (a.put o.dst (.agg cs))) : o.quiet P a (fun w' => ∃ y : Later R, w' = y.w) K :=
  ⟨_, fun w hw => by
    obtain ⟨y, rfl⟩ := hw
    unfold Oper.quietAt execOp
    simp only [ho, hx, Sem.run_bind, hl y, Result.andThen_ok]
    exact ⟨rfl, rfl⟩, hk⟩

/-- a new block was written. -/
theorem bel_ke {w w2 w3 : World} {g : Nat} (h : Below w.heap.size w w2) (k : Ke (· = g) w2 w3) (hg : w.heap.size ≤ g) : Below w.heap.size w w3 :=
  ⟨k.os.trans h.os, k.tape.trans h.tape, k.output.trans h.output, Nat.le_trans h.size k.size, fun i hi => (k.block i (Nat.lt_of_lt_of_le hi h.size) (by omega)).trans (h.block i hi)⟩

structure Does (c : Cpu) (L : List Ins) (D : Nat → Cpu) (E : Nat → Ev) : Prop where
  zero : D 0 = c
  ok : ∀ k, k ≤ L.length → (D k).Ok
  may : ∀ i ∈ L, i.May
  step : ∀ k i, L[k]? = some i → (D k).step (wordR i) = (D (k + 1), E k)

theorem Ins.May.ok {i : Ins} (h : i.May) : i.Ok := by
  have := h.reg
  have := h.imm
  have := h.mem
  have := h.jump
  have := h.to
  have := h.sys
  have := h.form
  obtain ⟨form, u, v, a, b, c, op, im, off, cond, n⟩ := i
  have := h.a; have := h.b; have := h.c; have := h.op; have := h.im; have := h.cond; have := h.n
  constructor <;> simp only at * <;> omega

set_option maxRecDepth 100000 in
set_option maxHeartbeats 8000000 in
theorem ops_walk (c : Cpu) (L : List Ins) (D : Nat → Cpu) (E : Nat → Ev) (b : Nat) (w : World) (hd : Does c L D E) (hA : At w b (insRow L).toArray 35) (hn : L.length < 1000) :
    Calls Try.prog 18 #[c.val, .slice (some ⟨b, 0, none⟩) L.length L.length] w fun e w' => e = .returned (D L.length).val ∧ Below w.heap.size w w' := by
  obtain ⟨n, hnn⟩ : ∃ n, n = L.length := ⟨_, rfl⟩
  rw [← hnn] at hn
  have HN := Lib.hid hnn
  rw [← hnn]
  have HD := Lib.hid hd
  have HA := Lib.hid hA
  have H0 := (Sep.nil w).alloc2 c.cells Cpu.zero.cells 25 25
  have B0 := bel2 w (.cells c.cells 25) (.cells Cpu.zero.cells 25)
  have hbb := hA.lt
  clear hd hA hnn
  go_enter Try.func18, Try.ntmps18
  go_wp2_with fail
  go_loopw [5] (fun i wr => ∃ k : Nat, k ≤ n ∧ i = .int .i64 k ∧ Sep wr [(w.heap.size + 1, Cpu.zero.cells, 25), (w.heap.size, (D k).cells, 25)] ∧ Below w.heap.size w wr) (fun i _ => n - (intOf i).toNat)
  case atStart => exact ⟨0, Nat.zero_le _, rfl, by rw [HD.out.zero]; exact H0, B0⟩
  case round =>
    obtain ⟨k, hkn, rfl, hs, hbr⟩ := hrel
    have HS := Lib.hid hs
    have HB := Lib.hid hbr
    clear hs hbr
    by_cases hlt : k < n
    · obtain ⟨i, hi⟩ : ∃ i, L[k]? = some i := ⟨_, List.getElem?_eq_getElem (by rw [← HN.out]; exact hlt)⟩
      have HI := Lib.hid hi
      have hm := HD.out.may i (List.mem_of_getElem? hi)
      have HM := Lib.hid hm
      have i1 : (k : Int) < n := by omega
      have i2 : (0 : Int) ≤ k := by omega
      have i3 : decide ((k : Int) < n) = true := decide_eq_true i1
      clear hi hm
      go_wp2_with fail
      refine wp_region_tail [([0, 1, 2, 3, 4], 5), ([], 6)] [7, 8, 9] 10 [8, 7, 6, 5, 4, 3, 1, 2, 0] (by kernel_rfl) (by kernel_rfl) (fun _ _ d _ _ h => by cases d <;> exact h) ?_
      intro w3 hb3
      have B3 := Lib.hid (bel_then HB.out hb3)
      have S3 := HS.out.bel hb3
      have A3 := HA.out.bel B3.out
      have l1 := fun x => ((S3.at 1 rfl).laterB x).loads (P := Try.prog) Try.underlying25 rfl (by kernel_rfl)
      have l2 := fun x => (A3.laterB x).loadsMid (P := Try.prog) (k * 11) i.cells.toList (fun j v hv => by
        have hj : j < 11 := by
          obtain ⟨h, _⟩ := List.getElem?_eq_some_iff.1 hv
          simpa [Ins.cells] using h
        have := insRow_at L k i j HI.out hj
        rw [Nat.mul_comm] at this
        rw [List.getElem?_toArray, this]; simpa using hv) Try.underlying35 rfl (by kernel_rfl)
      refine mixT_step ?_
      simp only [pickOps, nth]
      (go_big_quiet_want; refine quiet_row 25 (.tmp 2) rfl rfl l1 ?_; go_big_quiet_on)
      simp only [Act.put, List.setIfInBounds_toArray, List.set_cons_succ, List.set_cons_zero]
      (repeat (go_big_quiet_step (fail)))
      (go_big_quiet_want; refine quiet_mid 35 (.tmp 16) rfl rfl l2 ?_; go_big_quiet_on)
      simp only [Act.put, List.setIfInBounds_toArray, List.set_cons_succ, List.set_cons_zero]
      refine wpQuiet_nil ?_
      clear l1 l2
      go_wp2_with fail
      refine (word_walk i _ HM.out.ok ⟨HM.out.im.1, by have := HM.out.im; omega⟩ ⟨HM.out.c.1, by have := HM.out.c; omega⟩ HM.out.form).mono ?_
      rintro e w4 ⟨rfl, hb4⟩
      have B4 := Lib.hid hb4
      have B34 := Lib.hid (bel_then B3.out hb4)
      have S4 := S3.bel hb4
      clear hb4 hb3 S3 A3
      go_wp2_with fail
      refine ⟨B4.out, mixT_step ?_⟩
      simp only [pickOps, nth]
      refine wpQuiet_nil ?_
      go_wp2_with fail
      refine (step_quiet (word_of HM.out).1 (HD.out.ok k (by rw [← HN.out]; omega)) (HD.out.step k i HI.out)).mono ?_
      rintro e w5 ⟨rfl, hb5⟩
      have B5 := Lib.hid hb5
      have B35 := Lib.hid (bel_then B34.out hb5)
      have S5 := S4.bel hb5
      clear hb5 S4
      go_wp2_with fail
      refine ⟨B5.out, mixT_end ?_⟩
      simp only [pickOps, nth]
      haveI : Nonempty World := ⟨w⟩
      (repeat (go_big_quiet_step (fail)))
      refine wpQuiet_nil ?_
      refine store_sep rfl 25 (.tmp 2) (.tmp 20) rfl S5 1 rfl rfl rfl (by kernel_rfl) rfl ?_ ?_
      rfl
      intro w6 H6 k6 s6
      have K6 := Lib.hid k6
      have H6' := Lib.hid H6
      clear k6 H6
      go_wp2_with fail
      go_roundw
      case rel =>
        refine ⟨k + 1, by omega, by go_num, H6'.out, ?_⟩
        refine ⟨K6.out.os.trans B35.out.os, K6.out.tape.trans B35.out.tape, K6.out.output.trans B35.out.output, Nat.le_trans B35.out.size K6.out.size, fun g hg => ?_⟩
        exact (K6.out.block g (Nat.lt_of_lt_of_le hg B35.out.size) (Nat.ne_of_lt hg)).trans (B35.out.block g hg)
      case measure => simp [intOf]; omega
    · obtain rfl : k = n := by omega
      have i3 : decide ((k : Int) < k) = false := decide_eq_false (by omega)
      go_wp2_with (first | (refine load_sep rfl 25 (.tmp 2) rfl HS.out 1 rfl rfl Try.underlying25 rfl (by kernel_rfl) ?_) | (refine store_sep rfl 25 (.tmp 4) (.tmp 22) rfl HS.out 0 rfl rfl rfl (by kernel_rfl) rfl ?_ ?_; rfl; intro w7 H7 k7 s7))
      refine bodyPost_ret (res_cell rfl rfl (H7.at 0 rfl) Try.underlying25 rfl (by kernel_rfl)) rfl ⟨rfl, ?_⟩
      refine ⟨k7.os.trans HB.out.os, k7.tape.trans HB.out.tape, k7.output.trans HB.out.output, Nat.le_trans HB.out.size k7.size, fun g hg => ?_⟩
      exact (k7.block g (Nat.lt_of_lt_of_le hg HB.out.size) (by omega)).trans (HB.out.block g hg)

theorem ops_walk' {c : Cpu} {L : List Ins} {D : Nat → Cpu} {E : Nat → Ev} {b : Nat} {w : World} {d : Cpu} (hdd : D L.length = d) (hd : Does c L D E) (hA : At w b (insRow L).toArray 35) (hn : L.length < 1000) :
    Calls Try.prog 18 #[c.val, .slice (some ⟨b, 0, none⟩) L.length L.length] w fun e w' => e = .returned d.val ∧ Below w.heap.size w w' := by
  rw [← hdd]; exact ops_walk c L D E b w hd hA hn

end Go.Proofs.Ytkeaogphaifnmaa
