/- 'x && !f(s, c)' where x is not decided: run once, without parting: the three slots that may be empty are let go. Over whatever program. -/
import Derived.WalkKit
import Derived.Test.YtfnibpkojhgflaaGuard
import Derived.OwnWalk
namespace Go.Proofs.Ytfnibpkojhgflaa
set_option linter.unusedVariables false
set_option linter.unusedSimpArgs false
open Go.RowKit

section
variable {P : Program} {ops : Array Oper} {Q : Exit → Act → World → Prop} {w : World} {rest : List Oper} {a : Act} {d0 d1 d2 d3 d4 x j1 j2 j3 f : Nat} {s c : Value} {b h : Bool} {t1 t2 t3 t4 tn : TypeId} {p1 p2 p3 p4 : String} {e1 e2 e3 e4 : Array Edge} {g4 : Option (Nat × Bool)} {at2 : Array TypeId}

theorem and_law (hb : a.eval (.tmp d0) = .bool b) (hx : a.eval (.tmp x) = s)
    (hc : ∀ w, Calls P f #[s, c] w fun e w' => e = .returned (.bool h) ∧ w = w')
    (hr : ∀ args : Array Value, (callFunc f args).run P w = .ok (.enter f args) w)
    (y1 : yielded ops a.tmps j1 = some b)
    (y2 : ∀ v1, yielded ops (a.put (some d1) v1).tmps j2 = some b)
    (y3 : ∀ v1 v2, yielded ops ((a.put (some d1) v1).put (some d2) v2).tmps j3 = some b)
    (y4 : ∀ v1 v2 v3, Region.wanted ⟨some d4, .pick (.tmp d0) (.tmp d3) (.const (.bool false)), t4, p4, e4, g4⟩ (yielded ops (((a.put (some d1) v1).put (some d2) v2).put (some d3) v3).tmps) = true)
    (r1 : ∀ v1, (a.put (some d1) v1).eval (.tmp d1) = v1)
    (r2 : ∀ v1 v2, ((a.put (some d1) v1).put (some d2) v2).eval (.tmp d2) = v2)
    (r3 : ∀ v1 v2 v3, (((a.put (some d1) v1).put (some d2) v2).put (some d3) v3).eval (.tmp d3) = v3)
    (r0 : ∀ v1 v2 v3, (((a.put (some d1) v1).put (some d2) v2).put (some d3) v3).eval (.tmp d0) = .bool b)
    (k : ∀ v1 v2 v3, wpList P ops Q rest ((((a.put (some d1) v1).put (some d2) v2).put (some d3) v3).put (some d4) (.bool (b && !h))) w) :
    wpList P ops Q (⟨some d1, .move (.tmp x), t1, p1, e1, some (j1, true)⟩ :: ⟨some d2, .call ⟨.value (.func f), #[.tmp d1, .const c], at2⟩, t2, p2, e2, some (j2, true)⟩ :: ⟨some d3, .unOp .not tn (.tmp d2), t3, p3, e3, some (j3, true)⟩ ::
      ⟨some d4, .pick (.tmp d0) (.tmp d3) (.const (.bool false)), t4, p4, e4, g4⟩ :: rest) a w := by
  cases b with
  | false =>
    refine wpList_skip (guard_t (j := j1) rfl y1) (wpList_skip (guard_t (j := j2) rfl (y2 _)) (wpList_skip (guard_t (j := j3) rfl (y3 _ _)) ?_))
    refine BigFrame.wpList_want (y4 _ _ _) fun K hK => ?_
    refine pick_and' (v := false) (b := false) rfl (r0 _ _ _) (r3 _ _ _) rfl ?_
    exact hK _ _ (k _ _ _)
  | true =>
    refine BigFrame.wpList_want (guard_t (j := j1) rfl y1) fun K1 hK1 => ?_
    refine BigFrame.wp_move (.tmp x) rfl (hK1 _ _ ?_)
    rw [hx]
    refine BigFrame.wpList_want (guard_t (j := j2) rfl (y2 _)) fun K2 hK2 => ?_
    have hcl : Oper.wp P (⟨some d2, .call ⟨.value (.func f), #[.tmp d1, .const c], at2⟩, t2, p2, e2, some (j2, true)⟩) (a.put (some d1) s) w K2 Q := by
      unfold Oper.wp
      rw [execOp_call_go]
      have he : (#[] ++ Array.map (a.put (some d1) s).eval #[.tmp d1, .const c] ++ #[] : Array Value) = #[s, c] := by
        simp only [List.map_toArray, List.map_cons, List.map_nil, r1]
        rfl
      rw [he, hr]
      refine (hc w).mono ?_
      rintro e w' ⟨rfl, rfl⟩
      refine hK2 _ _ ?_
      refine BigFrame.wpList_want (guard_t (j := j3) rfl (y3 _ _)) fun K3 hK3 => ?_
      have h3 : Oper.wp P (⟨some d3, .unOp .not tn (.tmp d2), t3, p3, e3, some (j3, true)⟩ : Oper) ((a.put (some d1) s).put (some d2) (.bool h)) w K3 Q := by
        unfold Oper.wp
        have hn : (execOp ((a.put (some d1) s).put (some d2) (.bool h)).eval (⟨some d3, .unOp .not tn (.tmp d2), t3, p3, e3, some (j3, true)⟩ : Oper)).run P w = .ok (.value (.bool (!h))) w := by
          unfold execOp
          simp only [r2]
          cases h <;> rfl
        rw [hn]
        refine hK3 _ _ ?_
        refine BigFrame.wpList_want (y4 _ _ _) fun K hK => ?_
        refine pick_and' (v := !h) (b := true) rfl (r0 _ _ _) (r3 _ _ _) rfl ?_
        exact hK _ _ (k _ _ _)
      exact h3
    exact hcl

theorem and_has (hb : a.eval (.tmp d0) = .bool b) (hx : a.eval (.tmp x) = s)
    (hc : ∀ w, Calls P f #[s, c] w fun e w' => e = .returned (.bool true) ∧ w = w')
    (hr : ∀ args : Array Value, (callFunc f args).run P w = .ok (.enter f args) w)
    (y1 : yielded ops a.tmps j1 = some b)
    (y2 : ∀ v1, yielded ops (a.put (some d1) v1).tmps j2 = some b)
    (y3 : ∀ v1 v2, yielded ops ((a.put (some d1) v1).put (some d2) v2).tmps j3 = some b)
    (y4 : ∀ v1 v2 v3, Region.wanted ⟨some d4, .pick (.tmp d0) (.tmp d3) (.const (.bool false)), t4, p4, e4, g4⟩ (yielded ops (((a.put (some d1) v1).put (some d2) v2).put (some d3) v3).tmps) = true)
    (r1 : ∀ v1, (a.put (some d1) v1).eval (.tmp d1) = v1)
    (r2 : ∀ v1 v2, ((a.put (some d1) v1).put (some d2) v2).eval (.tmp d2) = v2)
    (r3 : ∀ v1 v2 v3, (((a.put (some d1) v1).put (some d2) v2).put (some d3) v3).eval (.tmp d3) = v3)
    (r0 : ∀ v1 v2 v3, (((a.put (some d1) v1).put (some d2) v2).put (some d3) v3).eval (.tmp d0) = .bool b)
    (k : ∀ v1 v2 v3, wpList P ops Q rest ((((a.put (some d1) v1).put (some d2) v2).put (some d3) v3).put (some d4) (.bool false)) w) :
    wpList P ops Q (⟨some d1, .move (.tmp x), t1, p1, e1, some (j1, true)⟩ :: ⟨some d2, .call ⟨.value (.func f), #[.tmp d1, .const c], at2⟩, t2, p2, e2, some (j2, true)⟩ :: ⟨some d3, .unOp .not tn (.tmp d2), t3, p3, e3, some (j3, true)⟩ ::
      ⟨some d4, .pick (.tmp d0) (.tmp d3) (.const (.bool false)), t4, p4, e4, g4⟩ :: rest) a w :=
  and_law (h := true) hb hx hc hr y1 y2 y3 y4 r1 r2 r3 r0 (by intro v1 v2 v3; rw [Bool.not_true, Bool.and_false]; exact k v1 v2 v3)
end

section
variable {P : Program} {ops : Array Oper} {Q : Exit → Act → World → Prop} {w : World} {rest : List Oper} {a : Act} {d00 x0 d0 d1 d2 d3 d4 x j1 j2 j3 f : Nat} {s c : Value} {cz : Operand} {g00 : Option (Nat × Bool)} {e00 : Array Edge} {p00 : String} {ti ti2 tr t0 t1 t2 t3 t4 tn : TypeId} {p0 p1 p2 p3 p4 : String} {e0 e1 e2 e3 e4 : Array Edge} {g0 g4 : Option (Nat × Bool)} {at2 : Array TypeId}
/-- 'n != 0 && !f(s, c)', f says yes: run without parting. -/
theorem and_has3 (hc : ∀ w, Calls P f #[s, c] w fun e w' => e = .returned (.bool true) ∧ w = w')
    (h0 : Region.wanted ⟨some d00, .binOp .neq ti (.tmp x0) cz ti2, tr, p00, e00, g00⟩ (yielded ops a.tmps) = true) (h1 : ∃ b, (execOp a.eval ⟨some d00, .binOp .neq ti (.tmp x0) cz ti2, tr, p00, e00, g00⟩).run P w = .ok (.value (.bool b)) w)
    (h2 : ∀ v, Region.wanted ⟨some d0, .move (.tmp d00), t0, p0, e0, g0⟩ (yielded ops (a.put (some d00) v).tmps) = true)
    (h3 : ∀ v, (a.put (some d00) v).eval (.tmp d00) = v)
    (hb : ∀ v, ((a.put (some d00) v).put (some d0) v).eval (.tmp d0) = v) (hx : ∀ v, ((a.put (some d00) v).put (some d0) v).eval (.tmp x) = s)
    (hr : ∀ args : Array Value, (callFunc f args).run P w = .ok (.enter f args) w)
    (y1 : ∀ b, yielded ops ((a.put (some d00) (.bool b)).put (some d0) (.bool b)).tmps j1 = some b)
    (y2 : ∀ b v1, yielded ops (((a.put (some d00) (.bool b)).put (some d0) (.bool b)).put (some d1) v1).tmps j2 = some b)
    (y3 : ∀ b v1 v2, yielded ops ((((a.put (some d00) (.bool b)).put (some d0) (.bool b)).put (some d1) v1).put (some d2) v2).tmps j3 = some b)
    (y4 : ∀ b v1 v2 v3, Region.wanted ⟨some d4, .pick (.tmp d0) (.tmp d3) (.const (.bool false)), t4, p4, e4, g4⟩ (yielded ops (((((a.put (some d00) (.bool b)).put (some d0) (.bool b)).put (some d1) v1).put (some d2) v2).put (some d3) v3).tmps) = true)
    (r1 : ∀ v v1, (((a.put (some d00) v).put (some d0) v).put (some d1) v1).eval (.tmp d1) = v1)
    (r2 : ∀ v v1 v2, ((((a.put (some d00) v).put (some d0) v).put (some d1) v1).put (some d2) v2).eval (.tmp d2) = v2)
    (r3 : ∀ v v1 v2 v3, (((((a.put (some d00) v).put (some d0) v).put (some d1) v1).put (some d2) v2).put (some d3) v3).eval (.tmp d3) = v3)
    (r0 : ∀ v v1 v2 v3, (((((a.put (some d00) v).put (some d0) v).put (some d1) v1).put (some d2) v2).put (some d3) v3).eval (.tmp d0) = v)
    (k : ∀ v0 v v1 v2 v3, wpList P ops Q rest ((((((a.put (some d00) v0).put (some d0) v).put (some d1) v1).put (some d2) v2).put (some d3) v3).put (some d4) (.bool false)) w) :
    wpList P ops Q (⟨some d00, .binOp .neq ti (.tmp x0) cz ti2, tr, p00, e00, g00⟩ :: ⟨some d0, .move (.tmp d00), t0, p0, e0, g0⟩ :: ⟨some d1, .move (.tmp x), t1, p1, e1, some (j1, true)⟩ :: ⟨some d2, .call ⟨.value (.func f), #[.tmp d1, .const c], at2⟩, t2, p2, e2, some (j2, true)⟩ :: ⟨some d3, .unOp .not tn (.tmp d2), t3, p3, e3, some (j3, true)⟩ ::
      ⟨some d4, .pick (.tmp d0) (.tmp d3) (.const (.bool false)), t4, p4, e4, g4⟩ :: rest) a w := by
  obtain ⟨b, h1⟩ := h1
  refine BigFrame.wpList_want h0 fun K hK => ?_
  unfold Oper.wp
  rw [h1]
  refine hK _ _ ?_
  refine BigFrame.wpList_want (h2 _) fun K2 hK2 => ?_
  refine BigFrame.wp_move (.tmp d00) rfl (hK2 _ _ ?_)
  rw [h3]
  exact and_has (b := b) (hb _) (hx _) hc hr (y1 b) (y2 b) (y3 b) (y4 b) (r1 _) (r2 _) (r3 _) (r0 _) (fun v1 v2 v3 => k _ _ v1 v2 v3)
end

/-- a call that only answers. -/
theorem calls_pure {P : Program} {f : Nat} {args : Array Value} {w : World} {v : Value} {Q : Ending → World → Prop} (h : Calls P f args w fun e w' => e = .returned v ∧ w = w') (k : Q (.returned v) w) : Calls P f args w Q :=
  h.mono fun e w' he => by obtain ⟨rfl, rfl⟩ := he; exact k

/-- a guard that says yes is let go. -/
theorem guard_off {P : Program} {ops : Array Oper} {rest : List Oper} {o : Oper} {a : Act} {w : World} {Q : Exit → Act → World → Prop} (hw : Region.wanted o (yielded ops a.tmps) = true)
    (h : wpList P ops Q ({ o with guard := none } :: rest) a w) : wpList P ops Q (o :: rest) a w := by
  have h0 : Region.wanted { o with guard := none } (yielded ops a.tmps) = true := rfl
  unfold wpList at h ⊢
  rw [if_pos h0] at h
  rw [if_pos hw]
  exact h

/-- what was put, said as a 'move' of a constant: the walk then writes the frame out itself. -/
theorem put_of {P : Program} {ops : Array Oper} {Q : Exit → Act → World → Prop} {w : World} {rest : List Oper} {a : Act} {d : Nat} {v : Value} {t : TypeId} {p : String} {e : Array Edge}
    (h : wpList P ops Q (⟨some d, .move (.const v), t, p, e, none⟩ :: rest) a w) : wpList P ops Q rest (a.put (some d) v) w := by
  unfold wpList at h
  have h0 : Region.wanted (⟨some d, .move (.const v), t, p, e, none⟩ : Oper) (yielded ops a.tmps) = true := rfl
  rw [if_pos h0] at h
  rcases h with h | ⟨h, _⟩
  · exact h
  · exact absurd h.1 (Array.not_mem_empty _)

/-- does nothing, and fails (under 'with_reducible') but where a guarded 'move' and then a call stand. -/
theorem at_move_call {P : Program} {ops : Array Oper} {Q : Exit → Act → World → Prop} {w : World} {rest : List Oper} {a : Act} {d1 d2 : Option Tmp} {x : Operand} {c : Call} {t1 t2 : TypeId} {p1 p2 : String} {e1 e2 : Array Edge} {g1 g2 : Nat × Bool}
    (h : wpList P ops Q (⟨d1, .move x, t1, p1, e1, some g1⟩ :: ⟨d2, .call c, t2, p2, e2, some g2⟩ :: rest) a w) : wpList P ops Q (⟨d1, .move x, t1, p1, e1, some g1⟩ :: ⟨d2, .call c, t2, p2, e2, some g2⟩ :: rest) a w := h
/-- the same at a region that is laid as parts. -/
theorem at_parts {P : Program} {A B l : List Oper} {Q : Exit → Act → World → Prop} {w : World} {a : Act}
    (h : wpList P (List.toArray (List.append A B)) Q l a w) : wpList P (List.toArray (List.append A B)) Q l a w := h
/-- the same at a call. -/
theorem at_calls {P : Program} {f : Nat} {args : Array Value} {w : World} {Q : Ending → World → Prop} (h : Calls P f args w Q) : Calls P f args w Q := h

section
variable {P : Program} {ops : Array Oper} {Q : Exit → Act → World → Prop} {w : World} {rest : List Oper} {a : Act} {d0 d1 d2 d3 d4 x j1 j2 j3 f : Nat} {s c : Value} {b : Bool} {t1 t2 t3 t4 tn : TypeId} {p1 p2 p3 p4 : String} {e1 e2 e3 e4 : Array Edge} {g4 : Option (Nat × Bool)} {at2 : Array TypeId}
/-- 'and_has', what was put said as moves of constants. -/
theorem and_hasM (hb : a.eval (.tmp d0) = .bool b) (hx : a.eval (.tmp x) = s)
    (hc : ∀ w, Calls P f #[s, c] w fun e w' => e = .returned (.bool true) ∧ w = w')
    (hr : ∀ args : Array Value, (callFunc f args).run P w = .ok (.enter f args) w)
    (y1 : yielded ops a.tmps j1 = some b)
    (y2 : ∀ v1, yielded ops (a.put (some d1) v1).tmps j2 = some b)
    (y3 : ∀ v1 v2, yielded ops ((a.put (some d1) v1).put (some d2) v2).tmps j3 = some b)
    (y4 : ∀ v1 v2 v3, Region.wanted ⟨some d4, .pick (.tmp d0) (.tmp d3) (.const (.bool false)), t4, p4, e4, g4⟩ (yielded ops (((a.put (some d1) v1).put (some d2) v2).put (some d3) v3).tmps) = true)
    (r1 : ∀ v1, (a.put (some d1) v1).eval (.tmp d1) = v1)
    (r2 : ∀ v1 v2, ((a.put (some d1) v1).put (some d2) v2).eval (.tmp d2) = v2)
    (r3 : ∀ v1 v2 v3, (((a.put (some d1) v1).put (some d2) v2).put (some d3) v3).eval (.tmp d3) = v3)
    (r0 : ∀ v1 v2 v3, (((a.put (some d1) v1).put (some d2) v2).put (some d3) v3).eval (.tmp d0) = .bool b)
    (k : ∀ v1 v2 v3, wpList P ops Q (⟨some d1, .move (.const v1), t1, p1, e1, none⟩ :: ⟨some d2, .move (.const v2), t1, p1, e1, none⟩ :: ⟨some d3, .move (.const v3), t1, p1, e1, none⟩ :: ⟨some d4, .move (.const (.bool false)), t1, p1, e1, none⟩ :: rest) a w) :
    wpList P ops Q (⟨some d1, .move (.tmp x), t1, p1, e1, some (j1, true)⟩ :: ⟨some d2, .call ⟨.value (.func f), #[.tmp d1, .const c], at2⟩, t2, p2, e2, some (j2, true)⟩ :: ⟨some d3, .unOp .not tn (.tmp d2), t3, p3, e3, some (j3, true)⟩ ::
      ⟨some d4, .pick (.tmp d0) (.tmp d3) (.const (.bool false)), t4, p4, e4, g4⟩ :: rest) a w :=
  and_has hb hx hc hr y1 y2 y3 y4 r1 r2 r3 r0 (fun v1 v2 v3 => put_of (put_of (put_of (put_of (k v1 v2 v3)))))
end

end Go.Proofs.Ytfnibpkojhgflaa
