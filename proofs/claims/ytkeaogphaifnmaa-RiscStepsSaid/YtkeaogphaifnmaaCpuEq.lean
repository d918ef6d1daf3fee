/- A processor equals itself: '==' and '!=' of two Cpus that are alike. -/
import Derived.Test.YtkeaogphaifnmaaRiscOpen
import Derived.Test.YtkeaogphaifnmaaSepMore
import Derived.DeepKeys
import Derived.Laws.StructEq
namespace Go.Proofs.Ytkeaogphaifnmaa
set_option linter.unusedVariables false
set_option linter.unusedSimpArgs false
open Go.RowKit

theorem kl_u32 (d : Nat) (n : Int) (h : 0 ≤ n ∧ n < 4294967296) : Try.prog.keyLits (d + 1) 22 [.int .u32 n] = some [.int .u32 n] := by
  have hw : (Lit.int .u32 n).wf = true := by
    simp only [Lit.wf, IntKind.min, IntKind.max, IntKind.signed, IntKind.bits, Bool.and_eq_true, decide_eq_true_eq]
    simp
    omega
  simp [Program.keyLits, Try.underlying22, hw]
theorem kl_bool (d : Nat) (b : Bool) : Try.prog.keyLits (d + 1) 4 [.bool b] = some [.bool b] := by
  simp [Program.keyLits, Try.underlying4]
theorem co_u32 : Try.prog.cellsOf 22 = 1 := by kernel_rfl
theorem co_bool : Try.prog.cellsOf 4 = 1 := by kernel_rfl
theorem co_arr : Try.prog.cellsOf 23 = 16 := by kernel_rfl
theorem co_cpu : Try.prog.cellsOf 25 = 22 := by kernel_rfl
theorem r16 : List.range 16 = [0, 1, 2, 3, 4, 5, 6, 7, 8, 9, 10, 11, 12, 13, 14, 15] := by decide

theorem keyLits_arr {P : Program} {d : Nat} {t e : TypeId} {n : Nat} {cs : List Value} (hu : P.underlying t = some (.array n e)) : P.keyLits (d + 1) t cs = if cs.length = P.cellsOf t then ((List.range n).mapM fun i => P.keyLits d e ((cs.drop (i * P.cellsOf e)).take (P.cellsOf e))).map List.flatten else none := by
  conv => lhs; rw [Program.keyLits.eq_def]
  simp only [hu]
theorem keyLits_struct {P : Program} {d : Nat} {t : TypeId} {fs : Array Field} {cs : List Value} (hu : P.underlying t = some (.struct fs)) : P.keyLits (d + 1) t cs = if cs.length = P.cellsOf t ∧ fs.all (·.name != "_") = true then (fs.toList.mapM fun f => P.keyLits d f.type ((cs.drop f.offset).take (P.cellsOf f.type))).map List.flatten else none := by
  conv => lhs; rw [Program.keyLits.eq_def]
  simp only [hu]
theorem kl_arr (d : Nat) (r : Nat → Int) (h : ∀ j, 0 ≤ r j ∧ r j < 4294967296) : Try.prog.keyLits (d + 2) 23 [.int .u32 (r 0), .int .u32 (r 1), .int .u32 (r 2), .int .u32 (r 3), .int .u32 (r 4), .int .u32 (r 5), .int .u32 (r 6), .int .u32 (r 7), .int .u32 (r 8), .int .u32 (r 9), .int .u32 (r 10), .int .u32 (r 11), .int .u32 (r 12), .int .u32 (r 13), .int .u32 (r 14), .int .u32 (r 15)]
    = some [.int .u32 (r 0), .int .u32 (r 1), .int .u32 (r 2), .int .u32 (r 3), .int .u32 (r 4), .int .u32 (r 5), .int .u32 (r 6), .int .u32 (r 7), .int .u32 (r 8), .int .u32 (r 9), .int .u32 (r 10), .int .u32 (r 11), .int .u32 (r 12), .int .u32 (r 13), .int .u32 (r 14), .int .u32 (r 15)] := by
  have k := fun j => kl_u32 d (r j) (h j)
  rw [keyLits_arr Try.underlying23]
  simp only [co_u32, co_arr, r16, List.mapM_cons, List.mapM_nil]
  simp [k]

theorem kl_cpu (c : Cpu) (h : c.Ok) : ∃ l, Try.prog.keyLits 4 25 c.cells.toList = some l := by
  have ka := kl_arr 1 c.r h.r
  have k1 := kl_u32 2 c.h h.h
  have k2 := kl_u32 2 c.pc h.pc
  have kb := kl_bool 2
  rw [keyLits_struct Try.underlying25]
  simp [co_u32, co_bool, co_arr, co_cpu, Cpu.cells, ka, k1, k2, kb]

theorem cpu_same (c : Cpu) (h : c.Ok) (w : World) : (Op.equalIn 10000 25 c.val c.val).run Try.prog w = .ok true w := by
  obtain ⟨l, hl⟩ := kl_cpu c h
  obtain ⟨r, hr, hi⟩ := run_equalIn_deep (P := Try.prog) 9996 4 25 (by kernel_rfl) w 4 4 c.val c.val l l (by kernel_rfl) (by kernel_rfl) hl hl
  rw [hi.2 rfl] at hr
  exact hr

section
variable {ops : Array Oper} {rest : List Oper} {o : Oper} {a : Act} {w : World} {Q : Exit → Act → World → Prop}

theorem run_neq_cpu (x y : Operand) (c : Cpu) (h : c.Ok) (w : World) : (do eqGuard .neq 25 x y c.val c.val; binOp .neq 25 c.val c.val : Sem Value).run Try.prog w = .ok (.bool false) w := by
  have e := cpu_same c h w
  have hm : Try.prog.eqGuardType Try.prog.depth 25 = false := by kernel_rfl
  simp only [Sem.run_bind, run_eqGuard_agg w .neq 25 x y c.cells c.cells hm, Result.andThen_ok, run_neq_struct]
  erw [e]; rfl
theorem run_eql_cpu (x y : Operand) (c : Cpu) (h : c.Ok) (w : World) : (do eqGuard .eql 25 x y c.val c.val; binOp .eql 25 c.val c.val : Sem Value).run Try.prog w = .ok (.bool true) w := by
  have e := cpu_same c h w
  have hm : Try.prog.eqGuardType Try.prog.depth 25 = false := by kernel_rfl
  simp only [Sem.run_bind, run_eqGuard_agg w .eql 25 x y c.cells c.cells hm, Result.andThen_ok, run_eql_struct]
  erw [e]; rfl

theorem neq_cpu (hgd : o.guard = none) {t : TypeId} (x y : Operand) (ho : o.op = .binOp .neq 25 x y t) (c : Cpu) (hk : c.Ok) (hx : a.eval x = c.val) (hy : a.eval y = c.val)
    (h : wpList Try.prog ops Q rest (a.put o.dst (.bool false)) w) : wpList Try.prog ops Q (o :: rest) a w := by
  have e := run_neq_cpu x y c hk w
  refine wpList_plain hgd fun K hK => ?_
  unfold Oper.wp execOp
  simp only [ho, hx, hy, Sem.run_bind] at e ⊢
  rw [e]
  simp only [Result.andThen_ok]
  exact hK _ _ h
theorem eql_cpu (hgd : o.guard = none) {t : TypeId} (x y : Operand) (ho : o.op = .binOp .eql 25 x y t) (c : Cpu) (hk : c.Ok) (hx : a.eval x = c.val) (hy : a.eval y = c.val)
    (h : wpList Try.prog ops Q rest (a.put o.dst (.bool true)) w) : wpList Try.prog ops Q (o :: rest) a w := by
  have e := run_eql_cpu x y c hk w
  refine wpList_plain hgd fun K hK => ?_
  unfold Oper.wp execOp
  simp only [ho, hx, hy, Sem.run_bind] at e ⊢
  rw [e]
  simp only [Result.andThen_ok]
  exact hK _ _ h
theorem quiet_eql_cpu {R : World → Prop} {K : Act → Prop} {t : TypeId} (x y : Operand) (ho : o.op = .binOp .eql 25 x y t) (c : Cpu) (hc : c.Ok) (hx : a.eval x = c.val) (hy : a.eval y = c.val)
    (hk : K (a.put o.dst (.bool true))) : o.quiet Try.prog a (fun w' => ∃ y : Later R, w' = y.w) K :=
  ⟨_, fun w hw => by
    have e := run_eql_cpu x y c hc w
    unfold Oper.quietAt execOp
    simp only [ho, hx, hy, Sem.run_bind] at e ⊢
    rw [e]
    simp only [Result.andThen_ok]
    exact ⟨rfl, rfl⟩, hk⟩

end

end Go.Proofs.Ytkeaogphaifnmaa
