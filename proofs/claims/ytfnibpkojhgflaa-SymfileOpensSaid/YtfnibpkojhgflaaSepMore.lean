/- More laws over blocks that are known whole: a new variable, a boxed one. -/
import Derived.Test.YtfnibpkojhgflaaMixR
namespace Go.Proofs.Ytfnibpkojhgflaa
set_option linter.unusedVariables false
set_option linter.unusedSimpArgs false
open Go.RowKit

section
variable {P : Program} {ops : Array Oper} {rest : List Oper} {o : Oper} {a : Act} {w : World} {Q : Exit → Act → World → Prop}

theorem run_alloc {P : Program} (w : World) (ty : TypeId) {z : Value} {cs : Array Value} (hz : (P.info? ty).map (·.zero) = some (some z)) (hc : z.cells = cs) :
    (Instr.alloc ty true (.tuple #[])).run P w = .ok (.pointer (some ⟨w.heap.size, 0, none⟩)) (w.alloc (.cells cs ty)) := by
  cases hq : P.info? ty with
  | none => simp [hq] at hz
  | some i =>
    have hs : i.zero = some z := by simpa [hq] using hz
    subst hc
    simp [Instr.alloc, zeroValue, typeInfo, hq, hs, newVar, newRow, go_sem]

/-- a new variable. -/
theorem alloc_sep (hgd : o.guard = none) (ty : TypeId) (ho : o.op = .alloc ty) {l : List Row} (H : Sep w l) {z : Value} {cs : Array Value} (hz : (P.info? ty).map (·.zero) = some (some z)) (hc : z.cells = cs)
    (h : ∀ w', Sep w' ((w.heap.size, cs, ty) :: l) → Below w.heap.size w w' → w'.heap.size = w.heap.size + 1 → wpList P ops Q rest (a.put o.dst (.pointer (some ⟨w.heap.size, 0, none⟩))) w') : wpList P ops Q (o :: rest) a w := by
  have hh := h _ (H.alloc cs ty) (bel1 w _) (by simp)
  refine wpList_plain hgd fun K hK => ?_
  unfold Oper.wp execOp
  simp only [ho, Sem.run_bind, run_alloc (P := P) w ty hz hc, Result.andThen_ok]
  exact hK _ _ hh

/-- a parameter boxed. -/
theorem box_sep (hgd : o.guard = none) (ty : TypeId) (x : Operand) (ho : o.op = .box ty x) {l : List Row} (H : Sep w l) {v : Value} {cs : Array Value} (hx : a.eval x = v) (hc : v.cells = cs)
    (h : ∀ w', Sep w' ((w.heap.size, cs, ty) :: l) → Below w.heap.size w w' → w'.heap.size = w.heap.size + 1 → wpList P ops Q rest (a.put o.dst (.pointer (some ⟨w.heap.size, 0, none⟩))) w') : wpList P ops Q (o :: rest) a w := by
  have hh := h _ (H.alloc cs ty) (bel1 w _) (by simp)
  subst hc
  refine wpList_plain hgd fun K hK => ?_
  have hr : (execOp a.eval o).run P w = .ok (.value (.pointer (some ⟨w.heap.size, 0, none⟩))) (w.alloc (.cells v.cells ty)) := by
    have hb : (Instr.box ty v).run P w = .ok (.pointer (some ⟨w.heap.size, 0, none⟩)) (w.alloc (.cells v.cells ty)) := by simp [Instr.box, newVar, newRow, go_sem]
    unfold execOp
    simp only [ho, hx, Sem.run_bind, hb, Result.andThen_ok]
    rfl
  unfold Oper.wp
  rw [hr]
  exact hK _ _ hh

end

end Go.Proofs.Ytfnibpkojhgflaa
