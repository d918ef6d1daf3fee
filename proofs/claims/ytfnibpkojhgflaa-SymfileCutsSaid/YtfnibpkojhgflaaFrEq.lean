/- '==' of structs of leaves; maps of marks as things of the call's own. Over whatever program. -/
import Derived.Test.YtfnibpkojhgflaaFrWalk
import Derived.Test.YtfnibpkojhgflaaLibC
import Derived.Laws.StructEq
namespace Go.Proofs.Ytfnibpkojhgflaa
set_option linter.unusedVariables false
set_option linter.unusedSimpArgs false
open Go.RowKit

variable {P : Program} {B : Code} {n : Nat} {Q : Exit → Act → World → Prop} {p : List Nat} {l : Slots} {w0 : Base} {w w' : World} {i : Nat} {is qs : List Nat} {L : List Res} {K : Act → Prop} {C : World → Prop}

def fieldAt (P : Program) (t : TypeId) (i : Nat) : Option (Bool × TypeId × Nat) := ((P.fieldsOf t).toList[i]?).map (fun f => (f.name != "_", f.type, f.offset))
theorem eqf_at {d t i ft off : Nat} {xs ys : Array Value} {a b : Value} {r r' : Bool} (h : fieldAt P t i = some (true, ft, off)) (ha : (part ft xs off).run P w = .ok a w) (hb : (part ft ys off).run P w = .ok b w) (hr : (Op.equalIn d ft a b).run P w = .ok r w)
    (hrest : (Op.eqFields d xs ys ((P.fieldsOf t).toList.drop (i + 1))).run P w = .ok r' w) : (Op.eqFields d xs ys ((P.fieldsOf t).toList.drop i)).run P w = .ok (r && r') w := by
  unfold fieldAt at h
  cases hf : (P.fieldsOf t).toList[i]? with
  | none => rw [hf] at h; cases h
  | some f =>
    rw [hf] at h
    simp only [Option.map_some, Option.some.injEq, Prod.mk.injEq] at h
    obtain ⟨h1, rfl, rfl⟩ := h
    obtain ⟨hl, he⟩ := List.getElem?_eq_some_iff.1 hf
    rw [List.drop_eq_getElem_cons hl, he]
    have h1 : f.name ≠ "_" := by simpa using h1
    simp only [Op.eqFields, h1, ne_eq, not_false_eq_true, if_true, Sem.run_bind, ha, hb, hr, Result.andThen_ok]
    cases r with
    | true => simpa using hrest
    | false => simp
theorem eqf_end {d t i : Nat} {xs ys : Array Value} (h : Nat.ble (P.fieldsOf t).toList.length i = true) : (Op.eqFields d xs ys ((P.fieldsOf t).toList.drop i)).run P w = .ok true w := by
  rw [List.drop_eq_nil_of_le (Nat.le_of_ble_eq_true h)]
  rfl
theorem eql_agg {t : TypeId} {xs ys : Array Value} {r : Bool} (ht : P.underlying t = some (.struct (P.fieldsOf t))) (hp : P.stoodInHeld t = false) (h : (Op.eqFields 9999 xs ys ((P.fieldsOf t).toList.drop 0)).run P w = .ok r w) :
    (Op.equalIn 10000 t (.agg xs) (.agg ys)).run P w = .ok r w := by
  rw [run_equalIn_struct w 9999 t xs ys ht hp]
  exact h
def bnAt (B : Code) (n : Nat) (p : List Nat) (l : Slots) (i : Nat) : Option (Option Nat × BinOp × TypeId × Value × Value) :=
  match opAt B n p l i with
  | some o => match o.op with
    | .binOp op t x y _ => bif knows l x && knows l y then some (o.dst, op, t, evL l x, evL l y) else none
    | _ => none
  | none => none
theorem bnAt_eql {d : Option Nat} {t : TypeId} {xs ys : Array Value} {r : Bool} (h : bnAt B n p l i = some (d, .eql, t, .agg xs, .agg ys)) (hm : P.eqGuardType P.depth t = false) (hr : (Op.equalIn 10000 t (.agg xs) (.agg ys)).run P w = .ok r w) :
    ∃ o, opAt B n p l i = some o ∧ o.dst = d ∧ ∀ a, Fr n l a → (execOp a.eval o).run P w = .ok (.value (.bool r)) w := by
  unfold bnAt at h
  cases ho : opAt B n p l i with
  | none => rw [ho] at h; cases h
  | some o =>
    rw [ho] at h
    simp only at h
    cases hop : o.op with
    | binOp op t' x y u =>
      rw [hop] at h
      simp only at h
      cases hk : (knows l x && knows l y) with
      | false => rw [hk] at h; cases h
      | true =>
        rw [hk] at h
        simp only [cond_true, Option.some.injEq, Prod.mk.injEq] at h
        rw [Bool.and_eq_true] at hk
        obtain ⟨hd, rfl, rfl, hx, hy⟩ := h
        refine ⟨o, rfl, hd, fun a ha => ?_⟩
        unfold execOp
        rw [hop]
        simp only [ha.eval hk.1, ha.eval hk.2, hx, hy, Sem.run_bind, run_eqGuard_agg w .eql t' x y xs ys hm, run_eql_struct, hr, Result.andThen_ok]
        rfl
    | _ => rw [hop] at h; cases h
theorem bnAt_neq {d : Option Nat} {t : TypeId} {xs ys : Array Value} {r : Bool} (h : bnAt B n p l i = some (d, .neq, t, .agg xs, .agg ys)) (hm : P.eqGuardType P.depth t = false) (hr : (Op.equalIn 10000 t (.agg xs) (.agg ys)).run P w = .ok r w) :
    ∃ o, opAt B n p l i = some o ∧ o.dst = d ∧ ∀ a, Fr n l a → (execOp a.eval o).run P w = .ok (.value (.bool (!r))) w := by
  unfold bnAt at h
  cases ho : opAt B n p l i with
  | none => rw [ho] at h; cases h
  | some o =>
    rw [ho] at h
    simp only at h
    cases hop : o.op with
    | binOp op t' x y u =>
      rw [hop] at h
      simp only at h
      cases hk : (knows l x && knows l y) with
      | false => rw [hk] at h; cases h
      | true =>
        rw [hk] at h
        simp only [cond_true, Option.some.injEq, Prod.mk.injEq] at h
        rw [Bool.and_eq_true] at hk
        obtain ⟨hd, rfl, rfl, hx, hy⟩ := h
        refine ⟨o, rfl, hd, fun a ha => ?_⟩
        unfold execOp
        rw [hop]
        simp only [ha.eval hk.1, ha.eval hk.2, hx, hy, Sem.run_bind, run_eqGuard_agg w .neq t' x y xs ys hm, run_neq_struct, hr, Result.andThen_ok]
        rfl
    | _ => rw [hop] at h; cases h
theorem SL.eqAgg {d : Nat} {t : TypeId} {xs ys : Array Value} {r z : Bool} (e : r = z) (h : bnAt B n p l i = some (some d, .eql, t, .agg xs, .agg ys)) (hm : P.eqGuardType P.depth t = false) (ht : P.underlying t = some (.struct (P.fieldsOf t))) (hp : P.stoodInHeld t = false)
    (hr : ∀ y, (Op.eqFields 9999 xs ys ((P.fieldsOf t).toList.drop 0)).run P y = .ok r y) (k : SL P B n Q p is ((d, .bool z) :: l) w) : SL P B n Q p (i :: is) l w := by subst e; exact SL.byRun (bnAt_eql h hm (eql_agg ht hp (hr w))) k
theorem SU.eqAgg [hne : Nonempty (Later C)] {d : Nat} {t : TypeId} {xs ys : Array Value} {r z : Bool} (e : r = z) (h : bnAt B n p l i = some (some d, .eql, t, .agg xs, .agg ys)) (hm : P.eqGuardType P.depth t = false) (ht : P.underlying t = some (.struct (P.fieldsOf t))) (hp : P.stoodInHeld t = false)
    (hr : ∀ y, (Op.eqFields 9999 xs ys ((P.fieldsOf t).toList.drop 0)).run P y = .ok r y) (k : SU P B n C K p qs ((d, .bool z) :: l)) : SU P B n C K p (i :: qs) l := by subst e; exact SU.byRun (fun y _ => bnAt_eql h hm (eql_agg ht hp (hr y))) k
theorem SL.neAgg {d : Nat} {t : TypeId} {xs ys : Array Value} {r z : Bool} (e : r = z) (h : bnAt B n p l i = some (some d, .neq, t, .agg xs, .agg ys)) (hm : P.eqGuardType P.depth t = false) (ht : P.underlying t = some (.struct (P.fieldsOf t))) (hp : P.stoodInHeld t = false)
    (hr : ∀ y, (Op.eqFields 9999 xs ys ((P.fieldsOf t).toList.drop 0)).run P y = .ok r y) (k : SL P B n Q p is ((d, .bool (!z)) :: l) w) : SL P B n Q p (i :: is) l w := by subst e; exact SL.byRun (bnAt_neq h hm (eql_agg ht hp (hr w))) k
theorem SU.neAgg [hne : Nonempty (Later C)] {d : Nat} {t : TypeId} {xs ys : Array Value} {r z : Bool} (e : r = z) (h : bnAt B n p l i = some (some d, .neq, t, .agg xs, .agg ys)) (hm : P.eqGuardType P.depth t = false) (ht : P.underlying t = some (.struct (P.fieldsOf t))) (hp : P.stoodInHeld t = false)
    (hr : ∀ y, (Op.eqFields 9999 xs ys ((P.fieldsOf t).toList.drop 0)).run P y = .ok r y) (k : SU P B n C K p qs ((d, .bool (!z)) :: l)) : SU P B n C K p (i :: qs) l := by subst e; exact SU.byRun (fun y _ => bnAt_neq h hm (eql_agg ht hp (hr y))) k

/-! ### maps of marks -/
/-- a map of marks, of the call's own. -/
def smR (P : Program) (k : TypeId) (b m : Nat) (S : Lit → Prop) : Res := ⟨fun x => x = b, fun w => SetMap w P k b m S, fun _ h ⟨D, ⟨es, clock, hb, F, hs, hD⟩, h2⟩ => ⟨D, ⟨es, clock, (h b rfl).trans hb, F, hs, hD⟩, h2⟩⟩
def mmAt (B : Code) (n : Nat) (p : List Nat) (l : Slots) (i : Nat) : Option (Option Nat × TypeId) :=
  match opAt B n p l i with
  | some o => match o.op with
    | .makeMap t none => some (o.dst, t)
    | _ => none
  | none => none
theorem SL.makeMapM {d : Nat} {t : TypeId} (kt : TypeId) (M : Mem w0 w L) (h : mmAt B n p l i = some (some d, t)) (hr : (Instr.makeMap t none).run P w = .ok (.map (some w.heap.size)) (w.alloc (.map #[] 0)))
    (k : ∀ g w', Below w.heap.size w w' → w.heap.size ≤ g ∧ g < w'.heap.size → Mem w0 w' (smR P kt g 0 (fun _ => False) :: L) → SL P B n Q p is ((d, .map (some g)) :: l) w') : SL P B n Q p (i :: is) l w := by
  unfold mmAt at h
  cases ho : opAt B n p l i with
  | none => rw [ho] at h; cases h
  | some o =>
    rw [ho] at h
    simp only at h
    cases hop : o.op with
    | makeMap t' r =>
      rw [hop] at h
      cases r with
      | some x => cases h
      | none =>
        simp only [Option.some.injEq, Prod.mk.injEq] at h
        obtain ⟨hd, rfl⟩ := h
        refine SL.byRun ⟨o, ho, hd, fun a ha => ?_⟩ (k _ _ (bel1 w (.map #[] 0)) ⟨Nat.le_refl _, by simp⟩ (M.add (bel1 w _) (SetMap.made w P kt) (fun b hb => by cases hb; simp)))
        unfold execOp
        rw [hop]
        simp only [Option.map_none, Sem.run_bind, hr, Result.andThen_ok]
        rfl
    | _ => rw [hop] at h; cases h
theorem Mem.only {w0 : World} (h : Below w0.heap.size w0 w) : Mem w0 w [] := ⟨Ke.below _ h, fun _ q => (by cases q), List.Pairwise.nil⟩
end Go.Proofs.Ytfnibpkojhgflaa
