/- go_zeta: the goal's long lists of operations written out (a region of 64 operations and more is laid as 'List.append' of parts; the cheap walk does not see that as written out, and the elder walk takes ten times as long). -/
import Derived.BigGuard
namespace Go.Proofs.Ytkeaogphaifnmaa
open Lean Meta Elab Tactic

elab "go_zeta" : tactic => withMainContext do
  let g ← getMainGoal
  let t ← instantiateMVars (← g.getType)
  let t' ← Core.transform t (post := fun e => do
    if e.isAppOfArity ``List.append 3 then
      let mut xs : Array Lean.Expr := #[]
      let mut l := e.getArg! 1
      while l.isAppOfArity ``List.cons 3 do
        xs := xs.push (l.getArg! 1)
        l := l.getArg! 2
      if l.isAppOfArity ``List.nil 1 then
        let c := mkApp (mkConst ``List.cons [Level.zero]) (e.getArg! 0)
        return .done (xs.foldr (fun x r => mkApp2 c x r) (e.getArg! 2))
    return .continue)
  if t' == t then throwError "go_zeta: nothing to write out"
  replaceMainGoal [← g.replaceTargetDefEq t']

macro_rules | `(tactic| go_guarded) => `(tactic| first | go_big_skip | go_big_want | (go_zeta; first | go_big_skip | go_big_want))

end Go.Proofs.Ytkeaogphaifnmaa
