/- '==' and '!=' of two instructions. -/
import Derived.Test.YtmnmbpenonodiaaDoorRiscOf
import Derived.Test.YtmnmbpenonodiaaDoorSepMore
import Derived.Test.YtmnmbpenonodiaaDoorRiscPlain
import Derived.DeepKeys
import Derived.Laws.StructEq
namespace Go.Proofs.YtmnmbpenonodiaaDoor
set_option linter.unusedVariables false
set_option linter.unusedSimpArgs false
open Go.RowKit

theorem kl_bool (d : Nat) (b : Bool) : Tryd.prog.keyLits (d + 1) 4 [.bool b] = some [.bool b] := by
  simp [Program.keyLits, Tryd.underlying4]
theorem keyLits_struct {P : Program} {d : Nat} {t : TypeId} {fs : Array Field} {cs : List Value} (hu : P.underlying t = some (.struct fs)) : P.keyLits (d + 1) t cs = if cs.length = P.cellsOf t ∧ fs.all (·.name != "_") = true then (fs.toList.mapM fun f => P.keyLits d f.type ((cs.drop f.offset).take (P.cellsOf f.type))).map List.flatten else none := by
  conv => lhs; rw [Program.keyLits.eq_def]
  simp only [hu]
theorem kl_i64 (d : Nat) (n : Int) (h : -9223372036854775808 ≤ n ∧ n ≤ 9223372036854775807) : Tryd.prog.keyLits (d + 1) 3 [.int .i64 n] = some [.int .i64 n] := by
  have hw : (Lit.int .i64 n).wf = true := by
    simp only [Lit.wf, IntKind.min, IntKind.max, IntKind.signed, IntKind.bits, Bool.and_eq_true, decide_eq_true_eq]
    simp
    omega
  simp [Program.keyLits, Tryd.underlying3, hw]
theorem kl_form (d : Nat) (n : Int) (h : -9223372036854775808 ≤ n ∧ n ≤ 9223372036854775807) : Tryd.prog.keyLits (d + 1) 27 [.int .i64 n] = some [.int .i64 n] := by
  have hw : (Lit.int .i64 n).wf = true := by
    simp only [Lit.wf, IntKind.min, IntKind.max, IntKind.signed, IntKind.bits, Bool.and_eq_true, decide_eq_true_eq]
    simp
    omega
  simp [Program.keyLits, Tryd.underlying27, hw]
theorem co_bool : Tryd.prog.cellsOf 4 = 1 := by kernel_rfl
theorem co_i64 : Tryd.prog.cellsOf 3 = 1 := by kernel_rfl
theorem co_form : Tryd.prog.cellsOf 27 = 1 := by kernel_rfl
theorem co_ins : Tryd.prog.cellsOf 29 = 11 := by kernel_rfl

theorem Ins.May.fit {i : Ins} (h : i.May) : i.Ok := by
  have hoff : -8388608 ≤ i.off ∧ i.off ≤ 8388607 := by
    obtain ⟨hf, ha, hb, hc, ho, hi, hd, hn, h0, h1, h2, h4, h5, h6, hu, hm⟩ := h
    rcases (by omega : i.form = 0 ∨ i.form = 1 ∨ (i.form = 2 ∨ i.form = 3) ∨ i.form = 4 ∨ i.form = 5 ∨ i.form = 6) with e | e | e | e | e | e
    · have := h0 e; omega
    · have := h1 e; omega
    · have := h2 e; omega
    · have := h4 e; omega
    · have := h5 e; omega
    · have := h6 e; omega
  have hf := h.form
  have ha := h.a
  have hb := h.b
  have hc := h.c
  have ho := h.op
  have hi := h.im
  have hd := h.cond
  have hn := h.n
  constructor <;> omega

def Ins.lits (i : Ins) : List Lit := [.int .i64 i.form, .bool i.u, .bool i.v, .int .i64 i.a, .int .i64 i.b, .int .i64 i.c, .int .i64 i.op, .int .i64 i.im, .int .i64 i.off, .int .i64 i.cond, .int .i64 i.n]

theorem kl_ins (i : Ins) (h : i.Ok) : Tryd.prog.keyLits 4 29 i.cells.toList = some i.lits := by
  have kf := kl_form 2 i.form h.form
  have k1 := kl_i64 2 i.a h.a
  have k2 := kl_i64 2 i.b h.b
  have k3 := kl_i64 2 i.c h.c
  have k4 := kl_i64 2 i.op h.op
  have k5 := kl_i64 2 i.im h.im
  have k6 := kl_i64 2 i.off h.off
  have k7 := kl_i64 2 i.cond h.cond
  have k8 := kl_i64 2 i.n h.n
  have kb := kl_bool 2
  rw [keyLits_struct Tryd.underlying29]
  simp [co_bool, co_i64, co_form, co_ins, Ins.cells, Ins.lits, kf, k1, k2, k3, k4, k5, k6, k7, k8, kb]

theorem ins_lits {i j : Ins} (h : i.lits = j.lits) : i = j := by
  simp only [Ins.lits, List.cons.injEq, Lit.int.injEq, Lit.bool.injEq, true_and, and_true] at h
  obtain ⟨h1, h2, h3, h4, h5, h6, h7, h8, h9, h10, h11⟩ := h
  exact Ins.ext' h1 h2 h3 h4 h5 h6 h7 h8 h9 h10 h11

theorem ins_eq (i j : Ins) (hi : i.Ok) (hj : j.Ok) (w : World) : (Op.equalIn 10000 29 (.agg i.cells) (.agg j.cells)).run Tryd.prog w = .ok (decide (i = j)) w := by
  obtain ⟨r, hr, h⟩ := run_equalIn_deep (P := Tryd.prog) 9996 4 29 (by kernel_rfl) w 4 4 (.agg i.cells) (.agg j.cells) i.lits j.lits (by kernel_rfl) (by kernel_rfl) (kl_ins i hi) (kl_ins j hj)
  have e : r = decide (i = j) := by
    by_cases hh : i = j
    · subst hh; rw [h.2 rfl]; simp
    · cases r
      · simp [hh]
      · exact (hh (ins_lits (h.1 rfl))).elim
  rw [← e]
  exact hr

section
variable {ops : Array Oper} {rest : List Oper} {o : Oper} {a : Act} {w : World} {Q : Exit → Act → World → Prop}

theorem run_neq_ins (x y : Operand) (i j : Ins) (hi : i.Ok) (hj : j.Ok) (w : World) : (do eqGuard .neq 29 x y (.agg i.cells) (.agg j.cells); binOp .neq 29 (.agg i.cells) (.agg j.cells) : Sem Value).run Tryd.prog w = .ok (.bool (!decide (i = j))) w := by
  have e := ins_eq i j hi hj w
  have hm : Tryd.prog.eqGuardType Tryd.prog.depth 29 = false := by kernel_rfl
  simp only [Sem.run_bind, run_eqGuard_agg w .neq 29 x y i.cells j.cells hm, Result.andThen_ok, run_neq_struct]
  erw [e]; rfl
theorem run_eql_ins (x y : Operand) (i j : Ins) (hi : i.Ok) (hj : j.Ok) (w : World) : (do eqGuard .eql 29 x y (.agg i.cells) (.agg j.cells); binOp .eql 29 (.agg i.cells) (.agg j.cells) : Sem Value).run Tryd.prog w = .ok (.bool (decide (i = j))) w := by
  have e := ins_eq i j hi hj w
  have hm : Tryd.prog.eqGuardType Tryd.prog.depth 29 = false := by kernel_rfl
  simp only [Sem.run_bind, run_eqGuard_agg w .eql 29 x y i.cells j.cells hm, Result.andThen_ok, run_eql_struct]
  erw [e]; rfl

theorem neq_ins (hgd : o.guard = none) {t : TypeId} (x y : Operand) (ho : o.op = .binOp .neq 29 x y t) (i j : Ins) (hi : i.Ok) (hj : j.Ok) (hx : a.eval x = .agg i.cells) (hy : a.eval y = .agg j.cells) (r : Bool) (hr : (!decide (i = j)) = r)
    (h : wpList Tryd.prog ops Q rest (a.put o.dst (.bool r)) w) : wpList Tryd.prog ops Q (o :: rest) a w := by
  subst hr
  have e := run_neq_ins x y i j hi hj w
  refine wpList_plain hgd fun K hK => ?_
  unfold Oper.wp execOp
  simp only [ho, hx, hy, Sem.run_bind] at e ⊢
  rw [e]
  simp only [Result.andThen_ok]
  exact hK _ _ h
theorem eql_ins (hgd : o.guard = none) {t : TypeId} (x y : Operand) (ho : o.op = .binOp .eql 29 x y t) (i j : Ins) (hi : i.Ok) (hj : j.Ok) (hx : a.eval x = .agg i.cells) (hy : a.eval y = .agg j.cells) (r : Bool) (hr : decide (i = j) = r)
    (h : wpList Tryd.prog ops Q rest (a.put o.dst (.bool r)) w) : wpList Tryd.prog ops Q (o :: rest) a w := by
  subst hr
  have e := run_eql_ins x y i j hi hj w
  refine wpList_plain hgd fun K hK => ?_
  unfold Oper.wp execOp
  simp only [ho, hx, hy, Sem.run_bind] at e ⊢
  rw [e]
  simp only [Result.andThen_ok]
  exact hK _ _ h
theorem quiet_neq_ins {R : World → Prop} {K : Act → Prop} {t : TypeId} (x y : Operand) (ho : o.op = .binOp .neq 29 x y t) (i j : Ins) (hi : i.Ok) (hj : j.Ok) (hx : a.eval x = .agg i.cells) (hy : a.eval y = .agg j.cells) (r : Bool) (hr : (!decide (i = j)) = r)
    (hk : K (a.put o.dst (.bool r))) : o.quiet Tryd.prog a (fun w' => ∃ y : Later R, w' = y.w) K :=
  ⟨_, fun w hw => by
    subst hr
    have e := run_neq_ins x y i j hi hj w
    unfold Oper.quietAt execOp
    simp only [ho, hx, hy, Sem.run_bind] at e ⊢
    rw [e]
    simp only [Result.andThen_ok]
    exact ⟨rfl, rfl⟩, hk⟩
theorem quiet_eql_ins {R : World → Prop} {K : Act → Prop} {t : TypeId} (x y : Operand) (ho : o.op = .binOp .eql 29 x y t) (i j : Ins) (hi : i.Ok) (hj : j.Ok) (hx : a.eval x = .agg i.cells) (hy : a.eval y = .agg j.cells) (r : Bool) (hr : decide (i = j) = r)
    (hk : K (a.put o.dst (.bool r))) : o.quiet Tryd.prog a (fun w' => ∃ y : Later R, w' = y.w) K :=
  ⟨_, fun w hw => by
    subst hr
    have e := run_eql_ins x y i j hi hj w
    unfold Oper.quietAt execOp
    simp only [ho, hx, hy, Sem.run_bind] at e ⊢
    rw [e]
    simp only [Result.andThen_ok]
    exact ⟨rfl, rfl⟩, hk⟩

end

end Go.Proofs.YtmnmbpenonodiaaDoor
