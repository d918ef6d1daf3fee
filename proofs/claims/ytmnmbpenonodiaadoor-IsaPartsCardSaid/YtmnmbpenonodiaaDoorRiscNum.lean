/- Contract of isa.Value. -/
import Derived.Test.YtmnmbpenonodiaaDoorRiscCells
namespace Go.Proofs.YtmnmbpenonodiaaDoor
set_option linter.unusedVariables false
set_option linter.unusedSimpArgs false
open Go.RowKit

def Ins.value (i : Ins) : Int :=
  if i.form = 1 then
    if i.u = true ∧ i.op = 0 then i.im % 4294967296 * 65536 % 4294967296
    else if i.v then bits .or .u32 (i.im % 4294967296) 4294901760 else i.im % 4294967296
  else 0

set_option maxHeartbeats 1000000 in
theorem value_walk (i : Ins) (w : World) : Calls Tryd.prog 14 #[i.val] w fun e w' => e = .returned (.int .u32 i.value) ∧ Below w.heap.size w w' := by
  obtain ⟨form, u, v, a, b, c, op, im, off, cond, n⟩ := i
  by_cases hf : form = 1
  · subst hf
    by_cases ho : op = 0
    · subst ho
      cases u <;> cases v
      all_goals
        go_enter Tryd.func14, Tryd.ntmps14
        go_wp2
        go_ret
        exact ⟨ret_int (by simp [Ins.value]), (Below.refl _ _).alloc (Nat.le_refl _) _⟩
    · cases u <;> cases v
      all_goals
        go_enter Tryd.func14, Tryd.ntmps14
        go_wp2
        go_ret
        exact ⟨ret_int (by simp [Ins.value, ho]), (Below.refl _ _).alloc (Nat.le_refl _) _⟩
  · go_enter Tryd.func14, Tryd.ntmps14
    go_wp2
    go_ret
    exact ⟨ret_int (by simp [Ins.value, hf]), (Below.refl _ _).alloc (Nat.le_refl _) _⟩

end Go.Proofs.YtmnmbpenonodiaaDoor
