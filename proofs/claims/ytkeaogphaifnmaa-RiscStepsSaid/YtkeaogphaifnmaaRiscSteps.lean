/- The law RiscSteps, walked. -/
import Derived.Test.YtkeaogphaifnmaaRefStep
import Derived.Test.YtkeaogphaifnmaaRiscKnown2
import Derived.Test.YtkeaogphaifnmaaCpuEq
namespace Go.Proofs.Ytkeaogphaifnmaa
set_option linter.unusedVariables false
set_option linter.unusedSimpArgs false
open Go.RowKit

structure Ev.Ok (e : Ev) : Prop where
  kind : -9223372036854775808 ≤ e.kind ∧ e.kind ≤ 9223372036854775807
  place : 0 ≤ e.place ∧ e.place < 4294967296
  reg : -9223372036854775808 ≤ e.reg ∧ e.reg ≤ 9223372036854775807
  value : 0 ≤ e.value ∧ e.value < 4294967296
  n : -9223372036854775808 ≤ e.n ∧ e.n ≤ 9223372036854775807

theorem ev_mk {k p r u n : Int} {b : Bool} (h1 : -9223372036854775808 ≤ k ∧ k ≤ 9223372036854775807) (h2 : 0 ≤ p ∧ p < 4294967296) (h3 : -9223372036854775808 ≤ r ∧ r ≤ 9223372036854775807) (h4 : 0 ≤ u ∧ u < 4294967296) (h5 : -9223372036854775808 ≤ n ∧ n ≤ 9223372036854775807) : Ev.Ok ⟨k, p, b, r, u, n⟩ := ⟨h1, h2, h3, h4, h5⟩
theorem mul_bd_hi (s : Bool) {a b : Int} (ha : 0 ≤ a ∧ a < 4294967296) (hb : 0 ≤ b ∧ b < 4294967296) : 0 ≤ W.mulHi s a b ∧ W.mulHi s a b < 4294967296 := by
  have h := W.mul_bd ha hb
  unfold W.mulHi
  split <;> omega
theorem op_ok {c d : Cpu} (h : c.Ok) {i : Ins} {m n : Int} (hm : 0 ≤ m ∧ m < 4294967296) (hn : 0 ≤ n ∧ n < 4294967296) (hd : c.op i m n = some d) : d.Ok := by
  have hs : ∀ (c : Cpu), c.Ok → ∀ x, 0 ≤ x ∧ x < 4294967296 → (c.set i.a x).Ok := fun c h x hx => by
    refine ⟨fun j => ?_, h.h, h.pc⟩
    show 0 ≤ (if j = i.a.toNat then x else c.r j) ∧ (if j = i.a.toNat then x else c.r j) < 4294967296
    split
    · exact hx
    · exact h.r j
  have h1 : 0 ≤ W.shl m (n % 32).toNat ∧ W.shl m (n % 32).toNat < 4294967296 := by unfold W.shl; omega
  have h2 : 0 ≤ W.sar m (n % 32).toNat ∧ W.sar m (n % 32).toNat < 4294967296 := ⟨W.wd_lo _, W.wd_hi _⟩
  have h3 := W.turn_bd hm.1 hm.2 (n % 32).toNat (by omega)
  have hw : ∀ z, 0 ≤ W.wd z ∧ W.wd z < 4294967296 := fun z => ⟨W.wd_lo _, W.wd_hi _⟩
  unfold Cpu.op at hd
  by_cases o0 : i.op = 0
  · rw [if_pos o0] at hd
    obtain rfl := Option.some.inj hd
    exact hs c h _ hn
  rw [if_neg o0] at hd
  by_cases o1 : i.op = 1
  · rw [if_pos o1] at hd
    obtain rfl := Option.some.inj hd
    exact hs c h _ h1
  rw [if_neg o1] at hd
  by_cases o2 : i.op = 2
  · rw [if_pos o2] at hd
    obtain rfl := Option.some.inj hd
    exact hs c h _ h2
  rw [if_neg o2] at hd
  by_cases o3 : i.op = 3
  · rw [if_pos o3] at hd
    obtain rfl := Option.some.inj hd
    exact hs c h _ h3
  rw [if_neg o3] at hd
  by_cases o4 : i.op = 4
  · rw [if_pos o4] at hd
    obtain rfl := Option.some.inj hd
    exact hs c h _ (bits_u32 _ _ _)
  rw [if_neg o4] at hd
  by_cases o5 : i.op = 5
  · rw [if_pos o5] at hd
    obtain rfl := Option.some.inj hd
    exact hs c h _ (bits_u32 _ _ _)
  rw [if_neg o5] at hd
  by_cases o6 : i.op = 6
  · rw [if_pos o6] at hd
    obtain rfl := Option.some.inj hd
    exact hs c h _ (bits_u32 _ _ _)
  rw [if_neg o6] at hd
  by_cases o7 : i.op = 7
  · rw [if_pos o7] at hd
    obtain rfl := Option.some.inj hd
    exact hs c h _ (bits_u32 _ _ _)
  rw [if_neg o7] at hd
  by_cases o8 : i.op = 8
  · rw [if_pos o8] at hd
    obtain rfl := Option.some.inj hd
    refine hs _ ?_ _ ?_
    · exact ⟨h.r, h.h, h.pc⟩
    · exact hw _
  rw [if_neg o8] at hd
  by_cases o9 : i.op = 9
  · rw [if_pos o9] at hd
    obtain rfl := Option.some.inj hd
    refine hs _ ?_ _ ?_
    · exact ⟨h.r, h.h, h.pc⟩
    · exact hw _
  rw [if_neg o9] at hd
  by_cases o10 : i.op = 10
  · rw [if_pos o10] at hd
    obtain rfl := Option.some.inj hd
    refine hs _ ?_ _ ?_
    · exact ⟨h.r, mul_bd_hi (!i.u) hm hn, h.pc⟩
    · exact mul_u32 _ _ _
  rw [if_neg o10] at hd
  by_cases hq : 0 < n ∧ n < 2147483648
  · rw [if_pos hq] at hd
    obtain rfl := Option.some.inj hd
    have e1 := Int.emod_nonneg (W.sg m) (show n ≠ 0 by omega)
    have e2 := Int.emod_lt_of_pos (W.sg m) (show 0 < n by omega)
    refine hs _ ?_ _ ?_
    · exact ⟨h.r, (show 0 ≤ W.sg m % n ∧ W.sg m % n < 4294967296 by omega), h.pc⟩
    · exact hw _
  · rw [if_neg hq] at hd
    cases hd

theorem step_ok {c : Cpu} (h : c.Ok) {x : Int} (hx : 0 ≤ x ∧ x < 4294967296) : (c.step x).1.Ok ∧ (c.step x).2.Ok := by
  have hn := ok_next h
  have hz : Ev.none.Ok := by constructor <;> decide
  have ho : Ev.odd.Ok := by constructor <;> decide
  have hb := flds_bd hx
  unfold Cpu.step
  split
  · rename_i hg
    have hM := ins_ok_of hx hg
    generalize flds x = i at hb hg hM
    unfold Cpu.exec
    split
    · cases ho' : c.next.op i (c.next.r i.b.toNat) (c.next.num i) with
      | none => exact ⟨hn, ho⟩
      | some d => exact ⟨op_ok hn (hn.r _) (c.next.num_bd i hn) ho', hz⟩
    · split
      · exact ⟨hn, ev_mk (by omega) (by omega) (by omega) (by omega) (by omega)⟩
      · split
        · have := hn.r i.a.toNat
          exact ⟨hn, ev_mk (by omega) (by omega) (by omega) (by split <;> omega) (by omega)⟩
        · split
          · exact ⟨hn, hz⟩
          · split
            · have := hM.n
              exact ⟨hn, ev_mk (by split <;> omega) (by omega) (by omega) (by omega) (by omega)⟩
            · refine ⟨⟨fun j => ?_, hn.h, ?_⟩, hz⟩
              · have h1 := hn.r j
                unfold Cpu.jump
                cases i.v with
                | false => exact h1
                | true =>
                  show 0 ≤ (if j = 15 then 4 * c.next.pc % 4294967296 else c.next.r j) ∧ (if j = 15 then 4 * c.next.pc % 4294967296 else c.next.r j) < 4294967296
                  split <;> omega
              · have := hn.r i.c.toNat
                show 0 ≤ (if i.form = 5 then c.next.r i.c.toNat / 4 else (c.next.pc + i.off) % 4294967296) ∧ (if i.form = 5 then c.next.r i.c.toNat / 4 else (c.next.pc + i.off) % 4294967296) < 4294967296
                split <;> omega
  · exact ⟨hn, ho⟩

theorem kl_i64 (d : Nat) (n : Int) (h : -9223372036854775808 ≤ n ∧ n ≤ 9223372036854775807) : Try.prog.keyLits (d + 1) 3 [.int .i64 n] = some [.int .i64 n] := by
  have hw : (Lit.int .i64 n).wf = true := by
    simp only [Lit.wf, IntKind.min, IntKind.max, IntKind.signed, IntKind.bits, Bool.and_eq_true, decide_eq_true_eq]
    simp
    omega
  simp [Program.keyLits, Try.underlying3, hw]
theorem kl_kind (d : Nat) (n : Int) (h : -9223372036854775808 ≤ n ∧ n ≤ 9223372036854775807) : Try.prog.keyLits (d + 1) 26 [.int .i64 n] = some [.int .i64 n] := by
  have hw : (Lit.int .i64 n).wf = true := by
    simp only [Lit.wf, IntKind.min, IntKind.max, IntKind.signed, IntKind.bits, Bool.and_eq_true, decide_eq_true_eq]
    simp
    omega
  simp [Program.keyLits, Try.underlying26, hw]
theorem co_i64 : Try.prog.cellsOf 3 = 1 := by kernel_rfl
theorem co_kind : Try.prog.cellsOf 26 = 1 := by kernel_rfl
theorem co_ev : Try.prog.cellsOf 28 = 6 := by kernel_rfl

theorem kl_ev (e : Ev) (h : e.Ok) : ∃ l, Try.prog.keyLits 4 28 e.cells.toList = some l := by
  have k0 := kl_kind 2 e.kind h.kind
  have k1 := kl_u32 2 e.place h.place
  have k3 := kl_i64 2 e.reg h.reg
  have k4 := kl_u32 2 e.value h.value
  have k5 := kl_i64 2 e.n h.n
  have kb := kl_bool 2
  rw [keyLits_struct Try.underlying28]
  simp [co_u32, co_bool, co_i64, co_kind, co_ev, Ev.cells, k0, k1, k3, k4, k5, kb]
theorem ev_same (v : Ev) (h : v.Ok) (w : World) : (Op.equalIn 10000 28 v.val v.val).run Try.prog w = .ok true w := by
  obtain ⟨l, hl⟩ := kl_ev v h
  obtain ⟨r, hr, hi⟩ := run_equalIn_deep (P := Try.prog) 9996 4 28 (by kernel_rfl) w 4 4 v.val v.val l l (by kernel_rfl) (by kernel_rfl) hl hl
  rw [hi.2 rfl] at hr
  exact hr
theorem run_eql_ev' (x y : Operand) (v : Ev) (h : v.Ok) (w : World) : (do eqGuard .eql 28 x y (.agg v.cells) (.agg v.cells); binOp .eql 28 (.agg v.cells) (.agg v.cells) : Sem Value).run Try.prog w = .ok (.bool true) w := by
  have e : (Op.equalIn 10000 28 (.agg v.cells) (.agg v.cells)).run Try.prog w = .ok true w := ev_same v h w
  have hm : Try.prog.eqGuardType Try.prog.depth 28 = false := by kernel_rfl
  simp only [Sem.run_bind, run_eqGuard_agg w .eql 28 x y v.cells v.cells hm, Result.andThen_ok, run_eql_struct]
  erw [e]; rfl
theorem run_eql_ev (x y : Operand) (v : Ev) (h : v.Ok) (w : World) : (do eqGuard .eql 28 x y v.val v.val; binOp .eql 28 v.val v.val : Sem Value).run Try.prog w = .ok (.bool true) w := run_eql_ev' x y v h w

set_option maxRecDepth 100000 in
set_option maxHeartbeats 8000000 in
theorem steps_walk (c : Cpu) (x : Int) (w : World) (hk : c.Ok) (hx : IntKind.u32.min ≤ x ∧ x ≤ IntKind.u32.max) : Calls Try.prog 3 #[c.val, .int .u32 x] w fun e w' => e = .returned (.bool true) ∧ Below w.heap.size w w' := by
  have hx' := bd_u32 hx
  obtain ⟨d, hd⟩ : ∃ d, d = (c.step x).1 := ⟨_, rfl⟩
  obtain ⟨v, hv⟩ : ∃ v, v = (c.step x).2 := ⟨_, rfl⟩
  have hok := step_ok hk hx'
  rw [← hd, ← hv] at hok
  have HD := Lib.hid hok.1
  have HV := Lib.hid hok.2
  have P1 : Hid (∀ w, Calls Try.prog 10 #[c.val, .int .u32 x] w fun e w' => e = .returned (.tuple #[d.val, v.val]) ∧ Below w.heap.size w w') := Lib.hid (fun w => (step_walk c x w hx' hk).mono fun e w' h => by unfold StepIs at h; rw [← hd, ← hv] at h; exact h)
  have P2 : Hid (∀ w, Calls Try.prog 11 #[c.val, .int .u32 x] w fun e w' => e = .returned (.tuple #[d.val, v.val]) ∧ Below w.heap.size w w') := Lib.hid (fun w => (refstep_walk c x w hx' hk).mono fun e w' h => by unfold StepIs at h; rw [← hd, ← hv] at h; exact h)
  have H0 := (Sep.nil w).alloc c.cells 25
  have B0 := Lib.hid (bel1 w (.cells c.cells 25))
  clear hd hv hok hx hx' hk
  go_enter Try.func3, Try.ntmps3
  go_wp2_with (refine load_sep rfl 25 (.tmp 2) rfl H0 0 rfl rfl Try.underlying25 rfl (by kernel_rfl) ?_)
  refine (P1.out _).mono ?_
  rintro e w1 ⟨rfl, hb1⟩
  have H1 := H0.bel hb1
  have B1 := Lib.hid (bel_then B0.out hb1)
  clear hb1 H0
  have f_0 : True := trivial
  have f_1 : True := trivial
  have f_2 : True := trivial
  have f_3 : True := trivial
  have f_4 : True := trivial
  go_wp2_with (first | (have _f := f_0; refine alloc_sep rfl 25 rfl H1 (z := Cpu.zero.val) (cs := Cpu.zero.cells) (by kernel_rfl) rfl ?_; intro w2 H2 b2 s2; have z2 : w.heap.size ≤ w2.heap.size := (by have := B1.out.size; omega); clear s2; clear _f f_0) | (have _f := f_1; refine alloc_sep rfl 28 rfl H2 (z := Ev.none.val) (cs := Ev.none.cells) (by kernel_rfl) rfl ?_; intro w3 H3 b3 s3; have z3 : w.heap.size ≤ w3.heap.size := (by omega); clear s3; clear _f f_1) | (have _f := f_2; refine store_sep rfl 25 (.tmp 5) (.tmp 13) rfl H3 1 rfl rfl rfl (by kernel_rfl) rfl ?_ ?_; rfl; intro w4 H4 k4 s4; have z4 : w.heap.size ≤ w4.heap.size := (by omega); clear s4; clear _f f_2) | (have _f := f_3; refine store_sep rfl 28 (.tmp 6) (.tmp 14) rfl H4 0 rfl rfl rfl (by kernel_rfl) rfl ?_ ?_; rfl; intro w5 H5 k5 s5; have z5 : w.heap.size ≤ w5.heap.size := (by omega); clear s5; clear _f f_3) | (have _f := f_4; refine load_sep rfl 25 (.tmp 2) rfl H5 2 rfl rfl Try.underlying25 rfl (by kernel_rfl) ?_; clear _f f_4))
  have B5 := Lib.hid (ke2 (ke2 (Ke.below Non (bel_then (bel_then B1.out b2) b3)) k4 (B1.out.size)) k5 z2).non
  clear k4 k5 b2 b3
  refine (P2.out _).mono ?_
  rintro e w6 ⟨rfl, hb6⟩
  have H6 := H5.bel hb6
  have B6 := Lib.hid (bel_then B5.out hb6)
  have z6 : w.heap.size ≤ w6.heap.size := B6.out.size
  have hq := fun w => run_eql_ev (.tmp 25) (.tmp 26) v HV.out w
  clear hb6 H1 H2 H3 H4 H5
  have f_0 : True := trivial
  have f_1 : True := trivial
  have f_2 : True := trivial
  have f_3 : True := trivial
  have f_4 : True := trivial
  have f_5 : True := trivial
  have f_6 : True := trivial
  go_wp2_with (first | (have _f := f_0; refine alloc_sep rfl 25 rfl H6 (z := Cpu.zero.val) (cs := Cpu.zero.cells) (by kernel_rfl) rfl ?_; intro w7 H7 b7 s7; have z7 : w.heap.size ≤ w7.heap.size := (by omega); clear s7; clear _f f_0) | (have _f := f_1; refine alloc_sep rfl 28 rfl H7 (z := Ev.none.val) (cs := Ev.none.cells) (by kernel_rfl) rfl ?_; intro w8 H8 b8 s8; have z8 : w.heap.size ≤ w8.heap.size := (by omega); clear s8; clear _f f_1) | (have _f := f_2; refine store_sep rfl 25 (.tmp 7) (.tmp 19) rfl H8 1 rfl rfl rfl (by kernel_rfl) rfl ?_ ?_; rfl; intro w9 H9 k9 s9; have z9 : w.heap.size ≤ w9.heap.size := (by omega); clear s9; clear _f f_2) | (have _f := f_3; refine store_sep rfl 28 (.tmp 8) (.tmp 20) rfl H9 0 rfl rfl rfl (by kernel_rfl) rfl ?_ ?_; rfl; intro w10 H10 k10 s10; have z10 : w.heap.size ≤ w10.heap.size := (by omega); clear s10; have g0 : w10.cell? ⟨w7.heap.size, 0, none⟩ = some (.int .i64 v.kind) := cell_of H10 0 rfl 0 rfl; have h0 : w10.cell? ⟨w2.heap.size, 0, none⟩ = some (.int .i64 v.kind) := cell_of H10 2 rfl 0 rfl; have g1 : w10.cell? ⟨w7.heap.size, 1, none⟩ = some (.int .u32 v.place) := cell_of H10 0 rfl 1 rfl; have h1 : w10.cell? ⟨w2.heap.size, 1, none⟩ = some (.int .u32 v.place) := cell_of H10 2 rfl 1 rfl; have g2 : w10.cell? ⟨w7.heap.size, 2, none⟩ = some (.bool v.byte) := cell_of H10 0 rfl 2 rfl; have h2 : w10.cell? ⟨w2.heap.size, 2, none⟩ = some (.bool v.byte) := cell_of H10 2 rfl 2 rfl; have g3 : w10.cell? ⟨w7.heap.size, 3, none⟩ = some (.int .i64 v.reg) := cell_of H10 0 rfl 3 rfl; have h3 : w10.cell? ⟨w2.heap.size, 3, none⟩ = some (.int .i64 v.reg) := cell_of H10 2 rfl 3 rfl; have g4 : w10.cell? ⟨w7.heap.size, 4, none⟩ = some (.int .u32 v.value) := cell_of H10 0 rfl 4 rfl; have h4 : w10.cell? ⟨w2.heap.size, 4, none⟩ = some (.int .u32 v.value) := cell_of H10 2 rfl 4 rfl; have g5 : w10.cell? ⟨w7.heap.size, 5, none⟩ = some (.int .i64 v.n) := cell_of H10 0 rfl 5 rfl; have h5 : w10.cell? ⟨w2.heap.size, 5, none⟩ = some (.int .i64 v.n) := cell_of H10 2 rfl 5 rfl; clear _f f_3) | (have _f := f_4; refine load_sep rfl 25 (.tmp 5) rfl H10 3 rfl rfl Try.underlying25 rfl (by kernel_rfl) ?_; clear _f f_4) | (have _f := f_5; refine load_sep rfl 25 (.tmp 7) rfl H10 1 rfl rfl Try.underlying25 rfl (by kernel_rfl) ?_; clear _f f_5) | (have _f := f_6; refine eql_cpu rfl (.tmp 21) (.tmp 22) rfl d HD.out rfl rfl ?_; clear _f f_6))
  have B10 := Lib.hid (ke2 (ke2 (Ke.below Non (bel_then (bel_then B6.out b7) b8)) k9 z6) k10 z7).non
  refine (known_walk _).mono ?_
  rintro e w11 ⟨rfl, hb11⟩
  have B11 := Lib.hid (bel_then B10.out hb11)
  clear hb11
  go_wp2_with fail
  go_ret
  exact ⟨rfl, B11.out⟩

end Go.Proofs.Ytkeaogphaifnmaa
