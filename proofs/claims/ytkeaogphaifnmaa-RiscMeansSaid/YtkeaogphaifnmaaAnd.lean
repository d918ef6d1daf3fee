/- 'x && !f(s, c)' where x is not decided: run once, without parting: the three slots that may be empty are let go. Over whatever program. -/
import Derived.WalkKit
import Derived.Test.YtkeaogphaifnmaaZeta
import Derived.Test.YtkeaogphaifnmaaGuard
import Derived.OwnWalk
namespace Go.Proofs.Ytkeaogphaifnmaa
set_option linter.unusedVariables false
set_option linter.unusedSimpArgs false
open Go.RowKit

section
variable {P : Program} {ops : Array Oper} {Q : Exit → Act → World → Prop} {w : World} {rest : List Oper} {a : Act} {d0 d1 d2 d3 d4 x j1 j2 j3 f : Nat} {s c : Value} {b h : Bool} {t1 t2 t3 t4 tn : TypeId} {p1 p2 p3 p4 : String} {e1 e2 e3 e4 : Array Edge} {g4 : Option (Nat × Bool)} {at2 : Array TypeId}

theorem and_law (hb : a.eval (.tmp d0) = .bool b) (hx : a.eval (.tmp x) = s)
    (hc : ∀ w, Calls P f #[s, c] w fun e w' => e = .returned (.bool h) ∧ w = w')
    (hr : ∀ args : Array Value, (callFunc f args).run P w = .ok (.enter f args) w)
    (y1 : yielded ops a.tmps j1 = some b)
    (y2 : ∀ v1, yielded ops (a.put (some d1) v1).tmps j2 = some b)
    (y3 : ∀ v1 v2, yielded ops ((a.put (some d1) v1).put (some d2) v2).tmps j3 = some b)
    (y4 : ∀ v1 v2 v3, Region.wanted ⟨some d4, .pick (.tmp d0) (.tmp d3) (.const (.bool false)), t4, p4, e4, g4⟩ (yielded ops (((a.put (some d1) v1).put (some d2) v2).put (some d3) v3).tmps) = true)
    (r1 : ∀ v1, (a.put (some d1) v1).eval (.tmp d1) = v1)
    (r2 : ∀ v1 v2, ((a.put (some d1) v1).put (some d2) v2).eval (.tmp d2) = v2)
    (r3 : ∀ v1 v2 v3, (((a.put (some d1) v1).put (some d2) v2).put (some d3) v3).eval (.tmp d3) = v3)
    (r0 : ∀ v1 v2 v3, (((a.put (some d1) v1).put (some d2) v2).put (some d3) v3).eval (.tmp d0) = .bool b)
    (k : ∀ v1 v2 v3, wpList P ops Q rest ((((a.put (some d1) v1).put (some d2) v2).put (some d3) v3).put (some d4) (.bool (b && !h))) w) :
    wpList P ops Q (⟨some d1, .move (.tmp x), t1, p1, e1, some (j1, true)⟩ :: ⟨some d2, .call ⟨.value (.func f), #[.tmp d1, .const c], at2⟩, t2, p2, e2, some (j2, true)⟩ :: ⟨some d3, .unOp .not tn (.tmp d2), t3, p3, e3, some (j3, true)⟩ ::
      ⟨some d4, .pick (.tmp d0) (.tmp d3) (.const (.bool false)), t4, p4, e4, g4⟩ :: rest) a w := by
  cases b with
  | false =>
    refine wpList_skip (guard_t (j := j1) rfl y1) (wpList_skip (guard_t (j := j2) rfl (y2 _)) (wpList_skip (guard_t (j := j3) rfl (y3 _ _)) ?_))
    refine BigFrame.wpList_want (y4 _ _ _) fun K hK => ?_
    refine pick_and' (v := false) (b := false) rfl (r0 _ _ _) (r3 _ _ _) rfl ?_
    exact hK _ _ (k _ _ _)
  | true =>
    refine BigFrame.wpList_want (guard_t (j := j1) rfl y1) fun K1 hK1 => ?_
    refine BigFrame.wp_move (.tmp x) rfl (hK1 _ _ ?_)
    rw [hx]
    refine BigFrame.wpList_want (guard_t (j := j2) rfl (y2 _)) fun K2 hK2 => ?_
    have hcl : Oper.wp P (⟨some d2, .call ⟨.value (.func f), #[.tmp d1, .const c], at2⟩, t2, p2, e2, some (j2, true)⟩) (a.put (some d1) s) w K2 Q := by
      unfold Oper.wp
      rw [execOp_call_go]
      have he : (#[] ++ Array.map (a.put (some d1) s).eval #[.tmp d1, .const c] ++ #[] : Array Value) = #[s, c] := by
        simp only [List.map_toArray, List.map_cons, List.map_nil, r1]
        rfl
      rw [he, hr]
      refine (hc w).mono ?_
      rintro e w' ⟨rfl, rfl⟩
      refine hK2 _ _ ?_
      refine BigFrame.wpList_want (guard_t (j := j3) rfl (y3 _ _)) fun K3 hK3 => ?_
      have h3 : Oper.wp P (⟨some d3, .unOp .not tn (.tmp d2), t3, p3, e3, some (j3, true)⟩ : Oper) ((a.put (some d1) s).put (some d2) (.bool h)) w K3 Q := by
        unfold Oper.wp
        have hn : (execOp ((a.put (some d1) s).put (some d2) (.bool h)).eval (⟨some d3, .unOp .not tn (.tmp d2), t3, p3, e3, some (j3, true)⟩ : Oper)).run P w = .ok (.value (.bool (!h))) w := by
          unfold execOp
          simp only [r2]
          cases h <;> rfl
        rw [hn]
        refine hK3 _ _ ?_
        refine BigFrame.wpList_want (y4 _ _ _) fun K hK => ?_
        refine pick_and' (v := !h) (b := true) rfl (r0 _ _ _) (r3 _ _ _) rfl ?_
        exact hK _ _ (k _ _ _)
      exact h3
    exact hcl

theorem and_has (hb : a.eval (.tmp d0) = .bool b) (hx : a.eval (.tmp x) = s)
    (hc : ∀ w, Calls P f #[s, c] w fun e w' => e = .returned (.bool true) ∧ w = w')
    (hr : ∀ args : Array Value, (callFunc f args).run P w = .ok (.enter f args) w)
    (y1 : yielded ops a.tmps j1 = some b)
    (y2 : ∀ v1, yielded ops (a.put (some d1) v1).tmps j2 = some b)
    (y3 : ∀ v1 v2, yielded ops ((a.put (some d1) v1).put (some d2) v2).tmps j3 = some b)
    (y4 : ∀ v1 v2 v3, Region.wanted ⟨some d4, .pick (.tmp d0) (.tmp d3) (.const (.bool false)), t4, p4, e4, g4⟩ (yielded ops (((a.put (some d1) v1).put (some d2) v2).put (some d3) v3).tmps) = true)
    (r1 : ∀ v1, (a.put (some d1) v1).eval (.tmp d1) = v1)
    (r2 : ∀ v1 v2, ((a.put (some d1) v1).put (some d2) v2).eval (.tmp d2) = v2)
    (r3 : ∀ v1 v2 v3, (((a.put (some d1) v1).put (some d2) v2).put (some d3) v3).eval (.tmp d3) = v3)
    (r0 : ∀ v1 v2 v3, (((a.put (some d1) v1).put (some d2) v2).put (some d3) v3).eval (.tmp d0) = .bool b)
    (k : ∀ v1 v2 v3, wpList P ops Q rest ((((a.put (some d1) v1).put (some d2) v2).put (some d3) v3).put (some d4) (.bool false)) w) :
    wpList P ops Q (⟨some d1, .move (.tmp x), t1, p1, e1, some (j1, true)⟩ :: ⟨some d2, .call ⟨.value (.func f), #[.tmp d1, .const c], at2⟩, t2, p2, e2, some (j2, true)⟩ :: ⟨some d3, .unOp .not tn (.tmp d2), t3, p3, e3, some (j3, true)⟩ ::
      ⟨some d4, .pick (.tmp d0) (.tmp d3) (.const (.bool false)), t4, p4, e4, g4⟩ :: rest) a w :=
  and_law (h := true) hb hx hc hr y1 y2 y3 y4 r1 r2 r3 r0 (by intro v1 v2 v3; rw [Bool.not_true, Bool.and_false]; exact k v1 v2 v3)
end

/-- a call that only answers. -/
theorem calls_pure {P : Program} {f : Nat} {args : Array Value} {w : World} {v : Value} {Q : Ending → World → Prop} (h : Calls P f args w fun e w' => e = .returned v ∧ w = w') (k : Q (.returned v) w) : Calls P f args w Q :=
  h.mono fun e w' he => by obtain ⟨rfl, rfl⟩ := he; exact k

/-- a guard that says yes is let go. -/
theorem guard_off {P : Program} {ops : Array Oper} {rest : List Oper} {o : Oper} {a : Act} {w : World} {Q : Exit → Act → World → Prop} (hw : Region.wanted o (yielded ops a.tmps) = true)
    (h : wpList P ops Q ({ o with guard := none } :: rest) a w) : wpList P ops Q (o :: rest) a w := by
  have h0 : Region.wanted { o with guard := none } (yielded ops a.tmps) = true := rfl
  unfold wpList at h ⊢
  rw [if_pos h0] at h
  rw [if_pos hw]
  exact h

open Lean Meta Elab Tactic

/-- puts on a frame that is written out: written out. -/
elab "go_puts" : tactic => withMainContext do
  let g ← getMainGoal
  let t ← instantiateMVars (← g.getType)
  let t' ← Core.transform t (post := fun e => do
    if e.isAppOfArity ``Act.put 3 && (BigFrame.slotsOf (e.getArg! 0)).isSome && (e.getArg! 1).isAppOfArity ``Option.some 2 then
      if let some d := BigFrame.numOf (e.getArg! 1).appArg! then return .done (BigFrame.putAt (e.getArg! 0) d (e.getArg! 2))
    return .continue)
  replaceMainGoal [← g.replaceTargetDefEq t']

/-- fails but where the list's first operation is guarded by a Bool that is not decided. -/
elab "at_open_guard" : tactic => withMainContext do
  let t := (← instantiateMVars (← (← getMainGoal).getType)).consumeMData
  let (_, vj) ← BigFrame.guardOf BigFrame.plain t "at_open_guard"
  unless vj.isAppOfArity ``Value.bool 1 && !(vj.appArg!.isConstOf ``Bool.true) && !(vj.appArg!.isConstOf ``Bool.false) do throwError "at_open_guard: no"

/-- fails but at a call. -/
elab "at_calls" : tactic => withMainContext do
  let t := (← instantiateMVars (← (← getMainGoal).getType)).consumeMData
  unless t.isAppOf ``Calls do throwError "at_calls: no"

/-- a goal that is a 'match' on what is written out. -/
elab "go_iota" : tactic => withMainContext do
  let g ← getMainGoal
  let t := (← instantiateMVars (← g.getType)).consumeMData
  let b := t.headBeta
  let isM ← match b.getAppFn with
    | .const n _ => isMatcher n
    | _ => pure false
  unless isM || b != t do throwError "go_iota: no match"
  let t' ← if isM then whnfCore b else pure b
  if t' == t then throwError "go_iota: stuck"
  replaceMainGoal [← g.replaceTargetDefEq t']

/-- 'go_wp2_with fail', with T tried first where a guard is open. -/
elab "go_open_with " "(" t:tacticSeq ")" "(" c:tacticSeq ")" : tactic => do
  BigFrame.walkBy' (← `(tactic| first | (at_open_guard; ($t)) | (at_calls; ($c)) | go_values | go_skip | go_guarded | go_step | go_upon | go_back | go_iota | (go_values <;> (try go_simp))))

/-- at a call, at an open guard: what kinds of operations stand first. -/
def firstOps (t : Lean.Expr) : Option (Lean.Expr × Lean.Expr) :=
  if t.isAppOfArity ``wpList 6 && (t.getArg! 3).isAppOfArity ``List.cons 3 then
    let l := t.getArg! 3
    let r := l.getArg! 2
    if r.isAppOfArity ``List.cons 3 && (l.getArg! 1).isAppOfArity ``Oper.mk 6 && (r.getArg! 1).isAppOfArity ``Oper.mk 6 then some ((l.getArg! 1).getArg! 1, (r.getArg! 1).getArg! 1) else none
  else none

/-- fails but where a 'move' and then a call stand. -/
elab "at_move_call" : tactic => withMainContext do
  let t := (← instantiateMVars (← (← getMainGoal).getType)).consumeMData
  let some (x, y) := firstOps t | throwError "at_move_call: no"
  unless x.isAppOf ``Op.move && y.isAppOf ``Op.call do throwError "at_move_call: no"

/-- the goal's context without what is long. -/
elab "clear_big" : tactic => withMainContext do
  let mut g ← getMainGoal
  for d in (← getLCtx).decls.toList.reverse do
    if let some d := d then
      if !d.isImplementationDetail then
        let ty ← instantiateMVars d.type
        let keep := ty.isConstOf ``Int || ty.isConstOf ``Bool || ty.isConstOf ``Nat || ty.isConstOf ``Go.World || ((← isProp ty) && ty.approxDepth.toNat < 24 && !(ty.find? (fun e => e.isConstOf ``World || e.isConstOf ``Act)).isSome)
        if !keep then g ← g.tryClear d.fvarId
  replaceMainGoal [g]

/-- how many goals, and what short hypotheses they bear. -/
elab "show_heads" : tactic => do
  let gs ← getGoals
  IO.println s!"GOALS {gs.length}"
  for g in gs do
    g.withContext do
      let t := (← instantiateMVars (← g.getType)).consumeMData
      let mut hs := #[]
      for d in ← getLCtx do
        if !d.isImplementationDetail then
          if (← isProp d.type) then
            let f ← ppExpr d.type
            let s := toString f
            if s.length < 120 then hs := hs.push s
      IO.println s!"HEAD {t.getAppFn} {t.getAppNumArgs} :: {hs}"

end Go.Proofs.Ytkeaogphaifnmaa
