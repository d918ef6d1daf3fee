/- What the walks of the reference's 'May' share. -/
import Derived.Test.YtkeaogphaifnmaaRefIsa
import Derived.Test.YtkeaogphaifnmaaAnd
import Derived.Test.YtkeaogphaifnmaaRiscPlain
import Derived.Test.YtkeaogphaifnmaaRd
namespace Go.Proofs.Ytkeaogphaifnmaa
set_option linter.unusedVariables false
set_option linter.unusedSimpArgs false
open Go.RowKit

theorem hasL (s : ByteArray) (c : Int) (b : Bool) (h : hasB s c = b) (hs : s.size ≤ maxLen) (w : World) : Calls Try.prog 32 #[.string s, .int .u8 c] w fun e w' => e = .returned (.bool b) ∧ w = w' := h ▸ has_walk s c w hs

def MayIs (i : Ins) (X : Prop) (w : World) : Prop := Calls Try.prog 13 #[i.val] w fun e w' => ∃ r, e = .returned (.bool r) ∧ (r = true ↔ X) ∧ Below w.heap.size w w'

open Lean Meta Elab Tactic
elab "m_and" : tactic => do
  evalTactic (← `(tactic| refine and_has rfl rfl (fun w => hasL _ _ true (by decide) (by decide) w) (by intros; kernel_rfl) (by intros; kernel_rfl) (by intros; kernel_rfl) (by intros; kernel_rfl) (by intros; kernel_rfl) (by intros; kernel_rfl) (by intros; kernel_rfl) (by intros; kernel_rfl) (by intros; kernel_rfl) ?_))
  evalTactic (← `(tactic| intro v1 v2 v3))
  evalTactic (← `(tactic| go_puts))
elab "m_call" : tactic => do
  evalTactic (← `(tactic| first | (refine calls_pure (in_walk _ _ _ _) ?_) | (refine calls_pure (hasL _ _ false (by decide) (by decide) _) ?_) | (refine calls_pure (hasL _ _ true (by decide) (by decide) _) ?_)))
elab "m_arm" : tactic => do
  evalTactic (← `(tactic| first | (at_move_call; m_and) | go_big_guard))
elab "m_fin" : tactic => do
  evalTactic (← `(tactic| all_goals (clear_big; (first | omega | (simp at *; done) | (simp at *; omega) | (simp_all; done) | (simp_all; omega)))))

end Go.Proofs.Ytkeaogphaifnmaa
