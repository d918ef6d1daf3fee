/- A guard that is not decided, without parting: what stands under it is run once, and its slot holds 'if g then v else undef'; the pick behind it joins both to one Bool. Over whatever program. -/
import Derived.WalkKit
import Derived.WalkSpells
import Derived.WalkLawsBesides
import Derived.BigQuiet
namespace Go.Proofs.Ytfnibpkojhgflaa
set_option linter.unusedVariables false
set_option linter.unusedSimpArgs false
open Go.RowKit

section
variable {P : Program} {ops : Array Oper} {Q : Exit → Act → World → Prop} {a : Act} {w : World} {rest : List Oper} {o : Oper}

theorem wp_const {C : Prop} (h : o.wp P a w (fun _ _ => C) (fun _ _ _ => False)) : C := by
  unfold Oper.wp at h
  generalize (execOp a.eval o).run P w = r at h
  cases r with
  | ok n w' =>
    cases n <;> simp only [Oper.upon] at h <;> first | exact h | skip
    · have hh := h
      obtain ⟨e, w'', fr, hR, _⟩ := hh []
      cases e with
      | returned v => exact hR
      | panicked c => exact hR.elim
      | outgrown => obtain ⟨a', w3, h3⟩ := hR; exact h3.elim
    · obtain ⟨v, w'', hR, _⟩ := h (Frame.enter P 0 #[] .normal) []
      exact hR
  | halt x w' => cases x <;> simp only [Oper.upon] at h

/-- what stands under a guard G: run, where G holds, it yields v; the slot holds 'if G then v else undef'. -/
theorem guard_law {G : Bool} {v : Value} (hw : Region.wanted o (yielded ops a.tmps) = G) (h1 : G = true → o.wp P a w (fun a2 w2 => a2 = a.put o.dst v ∧ w2 = w) (fun _ _ _ => False)) {a' : Act} (hp : a.put o.dst (if G then v else undef) = a')
    (h : wpList P ops Q rest a' w) : wpList P ops Q (o :: rest) a w := by
  subst hp
  unfold wpList
  rw [hw]
  cases G with
  | true =>
    rw [if_pos rfl]
    have h2 := h1 rfl
    left
    unfold Oper.wp at *
    generalize (execOp a.eval o).run P w = r at h2
    cases r with
    | ok n w' =>
      cases n <;> simp only [Oper.upon] at h2 ⊢
      all_goals first
        | (obtain ⟨e1, rfl⟩ := h2; rw [e1]; exact h)
        | (refine Calls.mono h2 fun e w'' he => ?_
           cases e with
           | returned u => obtain ⟨e1, rfl⟩ := he; show wpList P ops Q rest _ _; rw [e1]; exact h
           | panicked c => exact he.elim
           | outgrown => obtain ⟨a', w3, h3⟩ := he; exact h3.elim)
        | exact Rows.mono h2 fun u w'' he => by obtain ⟨e1, rfl⟩ := he; rw [e1]; exact h
    | halt x w' => cases x <;> simp only [Oper.upon] at h2
  | false =>
    rw [if_neg (by simp)]
    exact h

theorem guard_t {j : Nat} {g : Bool} (hgd : o.guard = some (j, true)) (hy : yielded ops a.tmps j = some g) : Region.wanted o (yielded ops a.tmps) = g := by
  unfold Region.wanted; rw [hgd]; simp only [hy]; cases g <;> rfl
theorem guard_f {j : Nat} {g : Bool} (hgd : o.guard = some (j, false)) (hy : yielded ops a.tmps j = some g) : Region.wanted o (yielded ops a.tmps) = !g := by
  unfold Region.wanted; rw [hgd]; simp only [hy]; cases g <;> rfl
theorem guard_tt {j d : Nat} {G g : Bool} {oj : Oper} (hgd : o.guard = some (j, true)) (ho : ops[j]? = some oj) (hd : oj.dst = some d) (hy : a.tmps[d]? = some (if G then .bool g else undef)) : Region.wanted o (yielded ops a.tmps) = (G && g) := by
  unfold Region.wanted yielded; rw [hgd]; simp only [ho, Option.bind_some, hd, hy]; cases G <;> cases g <;> rfl
theorem guard_ff {j d : Nat} {G g : Bool} {oj : Oper} (hgd : o.guard = some (j, false)) (ho : ops[j]? = some oj) (hd : oj.dst = some d) (hy : a.tmps[d]? = some (if G then .bool g else undef)) : Region.wanted o (yielded ops a.tmps) = (G && !g) := by
  unfold Region.wanted yielded; rw [hgd]; simp only [ho, Option.bind_some, hd, hy]; cases G <;> cases g <;> rfl

/-- 'x && y', 'x || y' joined. -/
theorem pick_and' {K : Act → World → Prop} {c x y : Operand} (ho : o.op = .pick c x y) {b v : Bool} (hc : a.eval c = .bool b) (hx : a.eval x = (if b then .bool v else undef)) (hy : a.eval y = .bool false)
    (h : K (a.put o.dst (.bool (b && v))) w) : o.wp P a w K Q := by
  unfold Oper.wp execOp
  cases b
  · simp only [ho, hc, hy, hx]; exact h
  · simp only [ho, hc, hy, hx]; exact h
theorem pick_or' {K : Act → World → Prop} {c x y : Operand} (ho : o.op = .pick c x y) {b v : Bool} (hc : a.eval c = .bool b) (hx : a.eval x = .bool true) (hy : a.eval y = (if !b then .bool v else undef))
    (h : K (a.put o.dst (.bool (b || v))) w) : o.wp P a w K Q := by
  unfold Oper.wp execOp
  cases b
  · simp only [ho, hc, hy, hx]; exact h
  · simp only [ho, hc, hy, hx]; exact h
theorem pick_and (hgd : o.guard = none) {c x y : Operand} (ho : o.op = .pick c x y) {b v : Bool} (hc : a.eval c = .bool b) (hx : a.eval x = (if b then .bool v else undef)) (hy : a.eval y = .bool false)
    (h : wpList P ops Q rest (a.put o.dst (.bool (b && v))) w) : wpList P ops Q (o :: rest) a w :=
  wpList_plain hgd fun K hK => pick_and' ho hc hx hy (hK _ _ h)
theorem pick_or (hgd : o.guard = none) {c x y : Operand} (ho : o.op = .pick c x y) {b v : Bool} (hc : a.eval c = .bool b) (hx : a.eval x = .bool true) (hy : a.eval y = (if !b then .bool v else undef))
    (h : wpList P ops Q rest (a.put o.dst (.bool (b || v))) w) : wpList P ops Q (o :: rest) a w :=
  wpList_plain hgd fun K hK => pick_or' ho hc hx hy (hK _ _ h)

end

theorem ite_twice {α : Type} (G : Bool) (x y z : α) : (if G then (if G then x else y) else z) = if G then x else z := by cases G <;> rfl
theorem ite_and {α : Type} (G g : Bool) (x y z : α) : (if (G && g) then (if G then x else y) else z) = if (G && g) then x else z := by cases G <;> cases g <;> rfl
theorem ite_and' {α : Type} (G g : Bool) (x y z : α) : (if (G && g) then (if g then x else y) else z) = if (G && g) then x else z := by cases G <;> cases g <;> rfl


end Go.Proofs.Ytfnibpkojhgflaa
