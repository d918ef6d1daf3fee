/- The single operations, by the slots that are known. Over whatever program. -/
import Derived.Test.YtfnibpkojhgflaaFr
import Derived.Test.YtfnibpkojhgflaaLibA
import Derived.Test.YtfnibpkojhgflaaLibC
import Derived.Great.BuildSlice
namespace Go.Proofs.Ytfnibpkojhgflaa
set_option linter.unusedVariables false
set_option linter.unusedSimpArgs false
open Go.RowKit

variable {P : Program} {B : Code} {n : Nat} {Q : Exit → Act → World → Prop} {p : List Nat} {l : Slots} {w w' : World} {i : Nat} {is : List Nat}

/-- what an operation looks at, where no array is gone through. -/
def looks : Op → Option (List Operand)
  | .alloc _ => some []
  | .move x | .assign x | .box _ x | .load _ x | .nilCheck x | .unOp _ _ x | .convert _ _ x | .makeInterface _ x | .fieldAddr _ x _ | .field _ x _ | .range _ x | .next x _ | .entry x | .typeAssert x _ _ _ | .extract x _ => some [x]
  | .pick c a b => some [c, a, b]
  | .store _ a v | .binOp _ _ a v _ | .makeSlice _ a v | .indexAddr _ a v | .index _ a v | .lookup _ a v _ | .mapEntry _ a v => some [a, v]
  | .mapUpdate _ m k v | .entryStore _ m k v | .insert _ m k v => some [m, k, v]
  | .makeMap _ none => some []
  | .makeMap _ (some x) => some [x]
  | .slice _ x none none none => some [x]
  | .slice _ x (some a) none none => some [x, a]
  | .slice _ x none (some a) none => some [x, a]
  | .slice _ x (some a) (some b) none => some [x, a, b]
  | .slice _ x none (some a) (some b) => some [x, a, b]
  | .slice _ x (some a) (some b) (some c) => some [x, a, b, c]
  | _ => none
theorem looks_of {o : Op} {xs : List Operand} (h : looks o = some xs) : ∀ x ∈ o.operands, x ∈ xs := by
  cases o <;> simp only [looks, Option.some.injEq, reduceCtorEq] at h <;> first
    | (subst h; intro x hx; simp_all [Op.operands])
    | skip
  case makeMap t r => cases r <;> simp only [Option.some.injEq] at h <;> subst h <;> intro x hx <;> simp_all [Op.operands]
  case slice t x lo hi mx =>
    cases lo <;> cases hi <;> cases mx <;> simp only [Option.some.injEq, reduceCtorEq] at h <;> subst h <;> intro y hy <;> simp [Op.operands] at hy ⊢ <;> grind
def knowAll (l : Slots) : Option (List Operand) → Bool
  | some xs => xs.all (knows l)
  | none => false
theorem exec_eq {o : Oper} {a : Act} (ha : Fr n l a) (hs : notSel o.op = true) (hk : knowAll l (looks o.op) = true) : execOp a.eval o = execOp (evL l) o := by
  refine execOp_congr o (notSel_of hs) fun x hx => ?_
  unfold knowAll at hk
  cases hl : looks o.op with
  | none => rw [hl] at hk; cases hk
  | some xs =>
    rw [hl] at hk
    exact ha.eval (List.all_eq_true.1 hk x (looks_of hl x hx))

/-- an operation's run, where it is known whole. -/
def runAt (P : Program) (B : Code) (n : Nat) (p : List Nat) (l : Slots) (i : Nat) (w : World) : Option (Option Nat × Result Next) :=
  match opAt B n p l i with
  | some o => bif knowAll l (looks o.op) then some (o.dst, (execOp (evL l) o).run P w) else none
  | none => none
theorem SL.run' {d : Option Nat} {v : Value} (h : runAt P B n p l i w = some (d, .ok (.value v) w')) (k : SL P B n Q p is (putL d v l) w') : SL P B n Q p (i :: is) l w := by
  unfold runAt at h
  cases ho : opAt B n p l i with
  | none => rw [ho] at h; cases h
  | some o =>
    rw [ho] at h
    simp only at h
    cases hk : knowAll l (looks o.op) with
    | false => rw [hk] at h; cases h
    | true =>
      rw [hk] at h
      simp only [cond_true, Option.some.injEq, Prod.mk.injEq] at h
      obtain ⟨rfl, h⟩ := h
      refine SL.op ho fun a ha => ?_
      unfold Oper.wp
      rw [exec_eq ha (opAt_of ho).2.2.2 hk, h]
      exact k _ (ha.put (opAt_of ho).2.2.1 v)
theorem SL.run {d : Nat} {v : Value} (h : runAt P B n p l i w = some (some d, .ok (.value v) w)) (k : SL P B n Q p is ((d, v) :: l) w) : SL P B n Q p (i :: is) l w := SL.run' h k
/-- a value that is another name of it. -/
theorem SL.runE {d : Nat} {u v : Value} (e : u = v) (h : runAt P B n p l i w = some (some d, .ok (.value u) w)) (k : SL P B n Q p is ((d, v) :: l) w) : SL P B n Q p (i :: is) l w := SL.run' h (by subst e; exact k)
theorem SL.int {d : Nat} {q : IntKind} {x y : Int} (e : x = y) (h : runAt P B n p l i w = some (some d, .ok (.value (.int q x)) w)) (k : SL P B n Q p is ((d, .int q y) :: l) w) : SL P B n Q p (i :: is) l w := SL.run' h (by subst e; exact k)
theorem SL.bool {d : Nat} {x y : Bool} (e : x = y) (h : runAt P B n p l i w = some (some d, .ok (.value (.bool x)) w)) (k : SL P B n Q p is ((d, .bool y) :: l) w) : SL P B n Q p (i :: is) l w := SL.run' h (by subst e; exact k)
/-- a world that is made. -/
theorem SL.runW {d : Nat} {v : Value} (h : runAt P B n p l i w = some (some d, .ok (.value v) w')) (k : SL P B n Q p is ((d, v) :: l) w') : SL P B n Q p (i :: is) l w := SL.run' h k

/-! ### loads, stores, new variables: their places -/
def ldAt (B : Code) (n : Nat) (p : List Nat) (l : Slots) (i : Nat) : Option (Option Nat × TypeId × Value) :=
  match opAt B n p l i with
  | some o => match o.op with
    | .load t x => bif knows l x then some (o.dst, t, evL l x) else none
    | _ => none
  | none => none
theorem SL.load {d : Nat} {t : TypeId} {a v : Value} (h : ldAt B n p l i = some (some d, t, a)) (hl : (Instr.loadAt t a).run P w = .ok v w) (k : SL P B n Q p is ((d, v) :: l) w) : SL P B n Q p (i :: is) l w := by
  unfold ldAt at h
  cases ho : opAt B n p l i with
  | none => rw [ho] at h; cases h
  | some o =>
    rw [ho] at h
    simp only at h
    cases hop : o.op with
    | load t' x =>
      rw [hop] at h
      simp only at h
      cases hk : knows l x with
      | false => rw [hk] at h; cases h
      | true =>
        rw [hk] at h
        simp only [cond_true, Option.some.injEq, Prod.mk.injEq] at h
        obtain ⟨hd, rfl, rfl⟩ := h
        refine SL.op ho fun b hb => ?_
        unfold Oper.wp execOp
        rw [hop]
        simp only [hb.eval hk, Sem.run_bind, hl, Result.andThen_ok]
        have := k _ (hb.put (d := some d) (by rw [← hd]; exact (opAt_of ho).2.2.1) v)
        rw [← hd] at this
        exact this
    | _ => rw [hop] at h; cases h
def stAt (B : Code) (n : Nat) (p : List Nat) (l : Slots) (i : Nat) : Option (Option Nat × TypeId × Value × Value) :=
  match opAt B n p l i with
  | some o => match o.op with
    | .store t x y => bif knows l x && knows l y then some (o.dst, t, evL l x, evL l y) else none
    | _ => none
  | none => none
theorem SL.store {d : Option Nat} {t : TypeId} {a v : Value} (h : stAt B n p l i = some (d, t, a, v)) (hl : (Instr.storeAt t a v).run P w = .ok () w') (k : SL P B n Q p is (putL d undef l) w') : SL P B n Q p (i :: is) l w := by
  unfold stAt at h
  cases ho : opAt B n p l i with
  | none => rw [ho] at h; cases h
  | some o =>
    rw [ho] at h
    simp only at h
    cases hop : o.op with
    | store t' x y =>
      rw [hop] at h
      simp only at h
      cases hk : (knows l x && knows l y) with
      | false => rw [hk] at h; cases h
      | true =>
        rw [hk] at h
        simp only [cond_true, Option.some.injEq, Prod.mk.injEq] at h
        rw [Bool.and_eq_true] at hk
        obtain ⟨rfl, rfl, rfl, rfl⟩ := h
        refine SL.op ho fun b hb => ?_
        unfold Oper.wp execOp
        rw [hop]
        simp only [hb.eval hk.1, hb.eval hk.2, Sem.run_bind, hl, Result.andThen_ok]
        exact k _ (hb.put (opAt_of ho).2.2.1 undef)
    | _ => rw [hop] at h; cases h
def alAt (B : Code) (n : Nat) (p : List Nat) (l : Slots) (i : Nat) : Option (Option Nat × TypeId) :=
  match opAt B n p l i with
  | some o => match o.op with
    | .alloc t => some (o.dst, t)
    | _ => none
  | none => none
theorem SL.alloc {d : Nat} {t : TypeId} {z : Value} {cs : Array Value} (h : alAt B n p l i = some (some d, t)) (hz : (P.info? t).map (·.zero) = some (some z)) (hc : z.cells = cs)
    (k : SL P B n Q p is ((d, .pointer (some ⟨w.heap.size, 0, none⟩)) :: l) (w.alloc (.cells cs t))) : SL P B n Q p (i :: is) l w := by
  unfold alAt at h
  cases ho : opAt B n p l i with
  | none => rw [ho] at h; cases h
  | some o =>
    rw [ho] at h
    simp only at h
    cases hop : o.op with
    | alloc t' =>
      rw [hop] at h
      simp only [Option.some.injEq, Prod.mk.injEq] at h
      obtain ⟨hd, rfl⟩ := h
      refine SL.op ho fun b hb => ?_
      unfold Oper.wp execOp
      rw [hop]
      simp only [Sem.run_bind, run_alloc (P := P) w t' hz hc, Result.andThen_ok]
      have := k _ (hb.put (d := some d) (by rw [← hd]; exact (opAt_of ho).2.2.1) _)
      rw [← hd] at this
      exact this
    | _ => rw [hop] at h; cases h
def bxAt (B : Code) (n : Nat) (p : List Nat) (l : Slots) (i : Nat) : Option (Option Nat × TypeId × Value) :=
  match opAt B n p l i with
  | some o => match o.op with
    | .box t x => bif knows l x then some (o.dst, t, evL l x) else none
    | _ => none
  | none => none
theorem SL.box {d : Nat} {t : TypeId} {v : Value} {cs : Array Value} (h : bxAt B n p l i = some (some d, t, v)) (hc : v.cells = cs)
    (k : SL P B n Q p is ((d, .pointer (some ⟨w.heap.size, 0, none⟩)) :: l) (w.alloc (.cells cs t))) : SL P B n Q p (i :: is) l w := by
  unfold bxAt at h
  cases ho : opAt B n p l i with
  | none => rw [ho] at h; cases h
  | some o =>
    rw [ho] at h
    simp only at h
    cases hop : o.op with
    | box t' x =>
      rw [hop] at h
      simp only at h
      cases hk : knows l x with
      | false => rw [hk] at h; cases h
      | true =>
        rw [hk] at h
        simp only [cond_true, Option.some.injEq, Prod.mk.injEq] at h
        obtain ⟨hd, rfl, rfl⟩ := h
        subst hc
        refine SL.op ho fun b hb => ?_
        have hbb : (Instr.box t' (evL l x)).run P w = .ok (.pointer (some ⟨w.heap.size, 0, none⟩)) (w.alloc (.cells (evL l x).cells t')) := by simp [Instr.box, newVar, newRow, go_sem]
        unfold Oper.wp execOp
        rw [hop]
        simp only [hb.eval hk, Sem.run_bind, hbb, Result.andThen_ok]
        have := k _ (hb.put (d := some d) (by rw [← hd]; exact (opAt_of ho).2.2.1) _)
        rw [← hd] at this
        exact this
    | _ => rw [hop] at h; cases h

/-! ### where lists are handed: calls, structs, literals, functions -/
def evAll (l : Slots) (xs : List Operand) : Option (List Value) := bif xs.all (knows l) then some (xs.map (evL l)) else none
theorem evAll_of {xs : Array Operand} {vs : List Value} {a : Act} (ha : Fr n l a) (h : evAll l xs.toList = some vs) : xs.map a.eval = vs.toArray := by
  unfold evAll at h
  cases hk : xs.toList.all (knows l) with
  | false => rw [hk] at h; cases h
  | true =>
    rw [hk] at h
    simp only [cond_true, Option.some.injEq] at h
    subst h
    have : xs.map a.eval = (xs.toList.map a.eval).toArray := by rw [← Array.toList_map, Array.toArray_toList]
    rw [this]
    congr 1
    refine List.map_congr_left fun x hx => ha.eval (List.all_eq_true.1 hk x hx)
def callAt (B : Code) (n : Nat) (p : List Nat) (l : Slots) (i : Nat) : Option (Option Nat × FuncId × List Value) :=
  match opAt B n p l i with
  | some o => match o.op with
    | .call c => match c.callee with
      | .value f => bif knows l f then match evL l f, evAll l c.args.toList with
        | .func (.func g) first captured, some vs => some (o.dst, g, first.toList ++ (vs ++ captured.toList))
        | _, _ => none else none
      | _ => none
    | _ => none
  | none => none
def isGo (P : Program) (f : FuncId) : Bool := match P.funcs[f]? with
  | some fn => !(fn.name == "runtime.NumGoroutine") && fn.body.isSome
  | none => false
theorem run_callFunc {f : FuncId} {args : Array Value} (h : isGo P f = true) : (callFunc f args).run P w = .ok (.enter f args) w := by
  unfold isGo at h
  unfold callFunc
  simp only [Sem.run_bind]
  show Result.andThen ((program).run P w) _ = _
  have : (program).run P w = .ok P w := rfl
  rw [this, Result.andThen_ok]
  show ((match P.funcs[f]? with | none => _ | some fn => _ : Sem Next)).run P w = _
  cases hf : P.funcs[f]? with
  | none => rw [hf] at h; cases h
  | some fn =>
    rw [hf] at h
    simp only [Bool.and_eq_true, Bool.not_eq_true'] at h
    simp only [h.1]
    cases hb : fn.body with
    | none => rw [hb] at h; simp at h
    | some c => simp
theorem SL.call' {d : Option Nat} {f : FuncId} {vs : List Value} {R : Ending → World → Prop} (h : callAt B n p l i = some (d, f, vs)) (hg : isGo P f = true) (hc : Calls P f vs.toArray w R)
    (k : ∀ e w', R e w' → ∃ v, e = .returned v ∧ SL P B n Q p is (putL d v l) w') : SL P B n Q p (i :: is) l w := by
  unfold callAt at h
  cases ho : opAt B n p l i with
  | none => rw [ho] at h; cases h
  | some o =>
    rw [ho] at h
    simp only at h
    cases hop : o.op with
    | call c =>
      rw [hop] at h
      simp only at h
      cases hcl : c.callee with
      | value x =>
        rw [hcl] at h
        simp only at h
        cases hk : knows l x with
        | false => rw [hk] at h; cases h
        | true =>
          rw [hk] at h
          simp only [cond_true] at h
          split at h
          · rename_i g first captured vs' hx hvs
            simp only [Option.some.injEq, Prod.mk.injEq] at h
            obtain ⟨rfl, rfl, rfl⟩ := h
            refine SL.op ho fun b hb => ?_
            have e : (execOp b.eval o).run P w = .ok (.enter g (first.toList ++ (vs' ++ captured.toList)).toArray) w := by
              unfold execOp
              rw [hop]
              simp only [resolve, hcl, hb.eval hk, hx, evAll_of hb hvs, Deferred.ofValue, Sem.run_bind, Sem.run_pure, Result.andThen_ok, invoke]
              rw [run_callFunc hg]
              simp
            unfold Oper.wp
            rw [e]
            refine Calls.mono hc fun en w' hR => ?_
            obtain ⟨v, rfl, hk'⟩ := k en w' hR
            exact hk' _ (hb.put (opAt_of ho).2.2.1 v)
          · cases h
      | _ => rw [hcl] at h; cases h
    | _ => rw [hop] at h; cases h
theorem SL.call {d : Nat} {f : FuncId} {vs : List Value} {R : Ending → World → Prop} (h : callAt B n p l i = some (some d, f, vs)) (hg : isGo P f = true) (hc : Calls P f vs.toArray w R)
    (k : ∀ e w', R e w' → ∃ v, e = .returned v ∧ SL P B n Q p is ((d, v) :: l) w') : SL P B n Q p (i :: is) l w := SL.call' h hg hc k
def biAt (B : Code) (n : Nat) (p : List Nat) (l : Slots) (i : Nat) : Option (Option Nat × Builtin × List TypeId × TypeId × List Value) :=
  match opAt B n p l i with
  | some o => match o.op with
    | .call c => match c.callee with
      | .builtin b => match evAll l c.args.toList with
        | some vs => some (o.dst, b, c.argTypes.toList, o.type, vs)
        | none => none
      | _ => none
    | _ => none
  | none => none
theorem SL.builtin' {d : Option Nat} {b : Builtin} {ts : List TypeId} {ty : TypeId} {vs : List Value} {v : Value} (h : biAt B n p l i = some (d, b, ts, ty, vs))
    (hr : ∀ c, (builtin b ts.toArray ty c vs.toArray).run P w = .ok (.value v) w') (k : SL P B n Q p is (putL d v l) w') : SL P B n Q p (i :: is) l w := by
  unfold biAt at h
  cases ho : opAt B n p l i with
  | none => rw [ho] at h; cases h
  | some o =>
    rw [ho] at h
    simp only at h
    cases hop : o.op with
    | call c =>
      rw [hop] at h
      simp only at h
      cases hcl : c.callee with
      | builtin b' =>
        rw [hcl] at h
        simp only at h
        cases hv : evAll l c.args.toList with
        | none => rw [hv] at h; cases h
        | some vs' =>
          rw [hv] at h
          simp only [Option.some.injEq, Prod.mk.injEq] at h
          obtain ⟨rfl, rfl, rfl, rfl, rfl⟩ := h
          refine SL.op ho fun a ha => ?_
          have e : (execOp a.eval o).run P w = .ok (.value v) w' := by
            unfold execOp
            rw [hop]
            simp only [resolve, hcl, evAll_of ha hv, Sem.run_bind, Sem.run_pure, Result.andThen_ok, invoke]
            exact hr _
          unfold Oper.wp
          rw [e]
          exact k _ (ha.put (opAt_of ho).2.2.1 v)
      | _ => rw [hcl] at h; cases h
    | _ => rw [hop] at h; cases h
theorem SL.builtin {d : Nat} {b : Builtin} {ts : List TypeId} {ty : TypeId} {vs : List Value} {v : Value} (h : biAt B n p l i = some (some d, b, ts, ty, vs))
    (hr : ∀ c, (builtin b ts.toArray ty c vs.toArray).run P w = .ok (.value v) w') (k : SL P B n Q p is ((d, v) :: l) w') : SL P B n Q p (i :: is) l w := SL.builtin' h hr k
def evParts (l : Slots) : List (Nat × Operand) → Option (List (Nat × Value))
  | [] => some []
  | (j, x) :: r => bif knows l x then match evParts l r with
    | some vs => some ((j, evL l x) :: vs)
    | none => none else none
theorem evParts_of {a : Act} (ha : Fr n l a) : ∀ (xs : List (Nat × Operand)) (vs : List (Nat × Value)), evParts l xs = some vs → xs.map (fun (i, x) => (i, a.eval x)) = vs
  | [], vs, h => by simp only [evParts, Option.some.injEq] at h; subst h; rfl
  | (j, x) :: r, vs, h => by
    unfold evParts at h
    cases hk : knows l x with
    | false => rw [hk] at h; cases h
    | true =>
      rw [hk] at h
      simp only [cond_true] at h
      split at h
      · rename_i vs' hv
        simp only [Option.some.injEq] at h
        subst h
        rw [List.map_cons, evParts_of ha r vs' hv]
        show (j, a.eval x) :: vs' = _
        rw [ha.eval hk]
      · cases h
def buAt (B : Code) (n : Nat) (p : List Nat) (l : Slots) (i : Nat) : Option (Option Nat × TypeId × List (Nat × Value)) :=
  match opAt B n p l i with
  | some o => match o.op with
    | .build t ps => match evParts l ps.toList with
      | some vs => some (o.dst, t, vs)
      | none => none
    | _ => none
  | none => none
theorem SL.build {d : Nat} {t : TypeId} {ps : List (Nat × Value)} {cs : Array Value} (h : buAt B n p l i = some (some d, t, ps)) (hb : P.built t ps = some cs) (k : SL P B n Q p is ((d, .agg cs) :: l) w) : SL P B n Q p (i :: is) l w := by
  unfold buAt at h
  cases ho : opAt B n p l i with
  | none => rw [ho] at h; cases h
  | some o =>
    rw [ho] at h
    simp only at h
    cases hop : o.op with
    | build t' xs =>
      rw [hop] at h
      simp only at h
      cases hv : evParts l xs.toList with
      | none => rw [hv] at h; cases h
      | some vs =>
        rw [hv] at h
        simp only [Option.some.injEq, Prod.mk.injEq] at h
        obtain ⟨hd, rfl, rfl⟩ := h
        refine SL.op ho fun a ha => ?_
        have e1 : (xs.map fun (i, x) => (i, a.eval x)).toList = vs := by rw [← evParts_of ha xs.toList vs hv]; simp
        have e : (execOp a.eval o).run P w = .ok (.value (.agg cs)) w := by
          unfold execOp
          rw [hop]
          simp only [Sem.run_bind]
          rw [run_build w t' _ cs (by rw [e1]; exact hb)]
          rfl
        unfold Oper.wp
        rw [e]
        have := k _ (ha.put (d := some d) (by rw [← hd]; exact (opAt_of ho).2.2.1) (.agg cs))
        rw [← hd] at this
        exact this
    | _ => rw [hop] at h; cases h
def bsAt (B : Code) (n : Nat) (p : List Nat) (l : Slots) (i : Nat) : Option (Option Nat × TypeId × Nat × List (Nat × Value)) :=
  match opAt B n p l i with
  | some o => match o.op with
    | .buildSlice t len ps => match evParts l ps.toList with
      | some vs => some (o.dst, t, len, vs)
      | none => none
    | _ => none
  | none => none
theorem SL.buildSlice {d : Nat} {t e : TypeId} {len size : Nat} {z : Value} {ps : List (Nat × Value)} {cs : Array Value} (h : bsAt B n p l i = some (some d, t, len, ps))
    (hu : P.underlying t = some (.slice e)) (hi : (P.info? e).map (fun i => (i.size, i.zero)) = some (size, some z)) (h1 : Nat.ble (len * size) 16777216 = true) (h2 : Nat.beq (len * size) 0 = false)
    (hf : Instr.fill (fun i => some (i * size, size)) ((List.range (len * size)).map (z.cells[· % z.cells.size]!)).toArray ps = some cs)
    (k : SL P B n Q p is ((d, .slice (some ⟨w.heap.size, 0, none⟩) len len) :: l) (w.alloc (.cells cs e))) : SL P B n Q p (i :: is) l w := by
  unfold bsAt at h
  cases ho : opAt B n p l i with
  | none => rw [ho] at h; cases h
  | some o =>
    rw [ho] at h
    simp only at h
    cases hop : o.op with
    | buildSlice t' len' xs =>
      rw [hop] at h
      simp only at h
      cases hv : evParts l xs.toList with
      | none => rw [hv] at h; cases h
      | some vs =>
        rw [hv] at h
        simp only [Option.some.injEq, Prod.mk.injEq] at h
        obtain ⟨hd, rfl, rfl, rfl⟩ := h
        refine SL.op ho fun a ha => ?_
        have e1 : (xs.map fun (i, x) => (i, a.eval x)).toList = vs := by rw [← evParts_of ha xs.toList vs hv]; simp
        cases hie : P.info? e with
        | none => rw [hie] at hi; simp at hi
        | some ie =>
          rw [hie] at hi
          simp only [Option.map_some, Option.some.injEq, Prod.mk.injEq] at hi
          obtain ⟨rfl, hz⟩ := hi
          have hx : (execOp a.eval o).run P w = .ok (.value (.slice (some ⟨w.heap.size, 0, none⟩) len' len')) (w.alloc (.cells cs e)) := by
            unfold execOp
            rw [hop]
            simp only [Sem.run_bind]
            rw [run_buildSlice w t' e len' _ cs ie z hu hie hz (by have := Nat.le_of_ble_eq_true h1; omega) (by intro q; rw [q] at h2; cases h2) (by rw [e1, ← hf]; congr 1; apply Array.ext'; simp [Array.toList_range])]
            rfl
          unfold Oper.wp
          rw [hx]
          have := k _ (ha.put (d := some d) (by rw [← hd]; exact (opAt_of ho).2.2.1) _)
          rw [← hd] at this
          exact this
    | _ => rw [hop] at h; cases h
def mfAt (B : Code) (n : Nat) (p : List Nat) (l : Slots) (i : Nat) : Option (Option Nat × Fn × List Value × List Value) :=
  match opAt B n p l i with
  | some o => match o.op with
    | .makeFunc f xs ys => match evAll l xs.toList, evAll l ys.toList with
      | some vs, some us => some (o.dst, f, vs, us)
      | _, _ => none
    | _ => none
  | none => none
theorem SL.makeFunc {d : Nat} {f : Fn} {vs us : List Value} (h : mfAt B n p l i = some (some d, f, vs, us)) (k : SL P B n Q p is ((d, .func f vs.toArray us.toArray) :: l) w) : SL P B n Q p (i :: is) l w := by
  unfold mfAt at h
  cases ho : opAt B n p l i with
  | none => rw [ho] at h; cases h
  | some o =>
    rw [ho] at h
    simp only at h
    cases hop : o.op with
    | makeFunc f' xs ys =>
      rw [hop] at h
      simp only at h
      split at h
      · rename_i vs' us' h1 h2
        simp only [Option.some.injEq, Prod.mk.injEq] at h
        obtain ⟨hd, rfl, rfl, rfl⟩ := h
        refine SL.op ho fun a ha => ?_
        have hx : (execOp a.eval o).run P w = .ok (.value (.func f' vs'.toArray us'.toArray)) w := by
          unfold execOp
          rw [hop]
          simp only [Sem.run_bind, Instr.makeFunc, evAll_of ha h1, evAll_of ha h2]
          rfl
        unfold Oper.wp
        rw [hx]
        have := k _ (ha.put (d := some d) (by rw [← hd]; exact (opAt_of ho).2.2.1) _)
        rw [← hd] at this
        exact this
      · cases h
    | _ => rw [hop] at h; cases h

/-! ### the function's beginning and end -/
def enumL : Nat → List Value → Slots
  | _, [] => []
  | j, v :: r => (j, v) :: enumL (j + 1) r
theorem enumL_look : ∀ (vs : List Value) (j t : Nat) (v : Value), look (enumL j vs) t = some v → j ≤ t ∧ vs[t - j]? = some v
  | [], j, t, v, h => by cases h
  | x :: r, j, t, v, h => by
    simp only [enumL, look] at h
    cases hb : Nat.beq j t with
    | true =>
      obtain rfl := Nat.eq_of_beq_eq_true hb
      rw [hb] at h
      simp only [cond_true, Option.some.injEq] at h
      subst h
      exact ⟨Nat.le_refl _, by simp⟩
    | false =>
      rw [hb] at h
      obtain ⟨h1, h2⟩ := enumL_look r (j + 1) t v h
      refine ⟨by omega, ?_⟩
      rw [show t - j = (t - (j + 1)) + 1 by omega]
      simpa using h2
theorem SC.enter {f : FuncId} {fn : Func} {vs : List Value} {l : Slots} {R : Ending → World → Prop} (hf : P.funcs[f]? = some fn) (hb : fn.body.isSome = true) (hn : fn.ntmps = n) (hl : enumL 0 vs = l) (hle : Nat.ble vs.length n = true)
    (k : SC P (Func.code fn) n (bodyPost P fn R) [] l w) : Calls P f vs.toArray w R := by
  obtain ⟨c, hc⟩ := Option.isSome_iff_exists.1 hb
  have hle := Nat.le_of_ble_eq_true hle
  refine calls_of_wp hf hc ?_
  have e : Func.code fn = c := by unfold Func.code; rw [hc]; rfl
  unfold SC at k
  rw [show sub (Func.code fn) [] = c from e] at k
  refine k _ ⟨rfl, by simp [hn]; omega, fun t v hv => ?_⟩
  rw [← hl] at hv
  obtain ⟨_, h2⟩ := enumL_look vs 0 t v hv
  rw [Nat.sub_zero] at h2
  have ht := (List.getElem?_eq_some_iff.1 h2).1
  rw [Array.getElem?_append_left (by simpa using ht)]
  simpa using h2
/-- what a function hands back. -/
theorem Fr.getD {a : Act} (ha : Fr n l a) {t : Nat} {v : Value} (h : look l t = some v) : a.tmps.getD t undef = v := by simp [ha.get t v h]
theorem SQ.ret0 {fn : Func} {e : Exit} {R : Ending → World → Prop} (he : e = .normal ∨ e = .ret) (h : fn.results = #[]) (k : R (.returned (.tuple #[])) w) : SQ n (bodyPost P fn R) e l w := fun a ha => by
  rcases he with rfl | rfl <;> exact ⟨ha.df, _, results_none h _ _ _, k⟩
theorem SQ.ret1 {fn : Func} {e : Exit} {R : Ending → World → Prop} {t : Nat} {v : Value} (he : e = .normal ∨ e = .ret) (h : fn.results = #[.tmp t]) (hv : look l t = some v) (k : R (.returned v) w) : SQ n (bodyPost P fn R) e l w := fun a ha => by
  rcases he with rfl | rfl <;> exact ⟨ha.df, _, results_tmp h _ _ _, by rw [ha.getD hv]; exact k⟩
theorem SQ.ret2 {fn : Func} {e : Exit} {R : Ending → World → Prop} {t u : Nat} {v x : Value} (he : e = .normal ∨ e = .ret) (h : fn.results = #[.tmp t, .tmp u]) (hv : look l t = some v) (hx : look l u = some x) (k : R (.returned (.tuple #[v, x])) w) : SQ n (bodyPost P fn R) e l w := fun a ha => by
  rcases he with rfl | rfl <;> exact ⟨ha.df, _, results_tmp2 h _ _ _, by rw [ha.getD hv, ha.getD hx]; exact k⟩
/-- results of whatever kind, by their run. -/
theorem SQ.retE {fn : Func} {e : Exit} {R : Ending → World → Prop} {v : Value} (he : e = .normal ∨ e = .ret) (h : ∀ a, Fr n l a → (results fn a.tmps).run P w = .ok v w) (k : R (.returned v) w) : SQ n (bodyPost P fn R) e l w := fun a ha => by
  rcases he with rfl | rfl <;> exact ⟨ha.df, v, h a ha, k⟩
end Go.Proofs.Ytfnibpkojhgflaa
