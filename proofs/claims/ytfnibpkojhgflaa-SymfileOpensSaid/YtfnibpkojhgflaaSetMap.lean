/- A map of the call's own from keys to 'struct{ is bool }': a look-up, a store. Over whatever program. -/
import Derived.Maps.Own
import Derived.Maps.OwnSet
import Derived.Maps.Views
import Derived.Test.YtfnibpkojhgflaaSep
namespace Go.Proofs.Ytfnibpkojhgflaa
set_option linter.unusedVariables false
set_option linter.unusedSimpArgs false
open Go.RowKit
open Go.Maps (Keyed)

/-- how such an element reads. -/
def isElem : Value → Option (DataW Unit × List MemPlace)
  | .agg cs => match cs.toList with
    | [.bool b] => some (.agg [.lit (.bool b)], [])
    | _ => none
  | _ => none
theorem isElem_mk (b : Bool) : isElem (.agg #[.bool b]) = some (.agg [.lit (.bool b)], []) := rfl
theorem isElem_inv {v : Value} {z : DataW Unit × List MemPlace} (h : isElem v = some z) : ∃ b, v = .agg #[.bool b] ∧ z = (.agg [.lit (.bool b)], []) := by
  unfold isElem at h
  split at h
  · rename_i cs
    split at h
    · rename_i b hb
      refine ⟨b, ?_, (Option.some.inj h).symm⟩
      rw [show cs = #[Value.bool b] from Array.toList_inj.1 hb]
    · cases h
  · cases h

noncomputable def boolOf (p : Prop) : Bool := @decide p (Classical.propDecidable p)
theorem boolOf_iff {p : Prop} : boolOf p = true ↔ p := by unfold boolOf; exact @decide_eq_true_iff p (Classical.propDecidable p)
theorem boolOf_yes {p : Prop} (h : p) : boolOf p = true := boolOf_iff.2 h
theorem boolOf_no {p : Prop} (h : ¬ p) : boolOf p = false := by rw [Bool.eq_false_iff]; exact fun q => h (boolOf_iff.1 q)
theorem boolOf_congr {p q : Prop} (h : p ↔ q) : boolOf p = boolOf q := by rw [show p = q from propext h]
theorem boolOf_bool (b : Bool) : boolOf (b = true) = b := by cases b; exact boolOf_no (by decide); exact boolOf_yes rfl

/-- block b is a map of at most n keys; the keys of Q are told 'is'. -/
def SetMap (w : World) (P : Program) (k : TypeId) (b n : Nat) (Q : Lit → Prop) : Prop :=
  ∃ D : DataW Unit, w.ownsMap P k isElem b n D ∧ ∀ kl, D.atKey kl (.agg [.lit (.bool false)]) = .agg [.lit (.bool (boolOf (Q kl)))]

variable {P : Program} {w w' : World} {k t e : TypeId} {b n : Nat} {Q Q' : Lit → Prop}
theorem SetMap.made (w : World) (P : Program) (k : TypeId) : SetMap (w.alloc (.map #[] 0)) P k w.heap.size 0 (fun _ => False) :=
  ⟨.map [], World.ownsMap_made w P k isElem, fun kl => by rw [boolOf_no (fun h => h)]; rfl⟩
theorem SetMap.lt (h : SetMap w P k b n Q) : b < w.heap.size := by obtain ⟨D, h1, _⟩ := h; exact h1.lt
theorem SetMap.ke {G : Nat → Prop} (h : SetMap w P k b n Q) (kk : Ke G w w') (hG : ¬ G b) : SetMap w' P k b n Q := by
  obtain ⟨D, ⟨es, clock, hb, F, hs, hD⟩, h2⟩ := h
  exact ⟨D, ⟨es, clock, (kk.block b (Array.getElem?_eq_some_iff.1 hb).1 hG).trans hb, F, hs, hD⟩, h2⟩
theorem SetMap.bel (h : SetMap w P k b n Q) (kk : Below w.heap.size w w') : SetMap w' P k b n Q := h.ke (Ke.below (fun _ => False) kk) (fun h => h)
theorem SetMap.iff (h : SetMap w P k b n Q) (hq : ∀ z, Q z ↔ Q' z) : SetMap w P k b n Q' := by rwa [← show Q = Q' from funext fun z => propext (hq z)]
theorem SetMap.look (h : SetMap w P k b n Q) (K : Keyed P k) (ht : P.underlying t = some (.map k e)) (hz : (zeroValue e).run P w = .ok (.agg #[.bool false]) w) {key : Value} {kl : Lit} (hkey : keyOf P k key = some kl) :
    (Instr.lookup t (.map (some b)) key false).run P w = .ok (.agg #[.bool (boolOf (Q kl))]) w := by
  obtain ⟨D, h1, h2⟩ := h
  obtain ⟨v, ps, hrun, hv⟩ := h1.lookup K ht hz (isElem_mk false) hkey
  obtain ⟨x, rfl, hx⟩ := isElem_inv hv
  rw [h2 kl] at hx
  simp only [Prod.mk.injEq, DataW.agg.injEq, List.cons.injEq, DataW.lit.injEq, Lit.bool.injEq, and_true] at hx
  rw [hrun, ← hx.1]
theorem SetMap.put (h : SetMap w P k b n Q) (K : Keyed P k) (ht : P.underlying t = some (.map k e)) (hn : n < maxLen) {key : Value} {kl : Lit} (hkey : keyOf P k key = some kl) (v : Bool) (hs : Q' kl ↔ v = true) (ho : ∀ z, z ≠ kl → (Q' z ↔ Q z)) :
    ∃ w', (Instr.mapUpdate t (.map (some b)) key (.agg #[.bool v])).run P w = .ok () w' ∧ SetMap w' P k b (n + 1) Q' ∧ Ke (· = b) w w' := by
  obtain ⟨D, h1, h2⟩ := h
  have hM := h1.isMap
  obtain ⟨w', hrun, g1, g2⟩ := h1.update K ht hn hkey (isElem_mk v)
  refine ⟨w', hrun, ⟨_, g1, fun z => ?_⟩, ⟨g2.os, g2.tape, g2.output, g2.size, fun i hi hG => g2.block i hi (fun hh => hG (Option.some.inj hh))⟩⟩
  by_cases hz : z = kl
  · subst hz
    rw [Maps.atKey_put_same hM (K.key hkey), boolOf_congr hs, boolOf_bool]
  · rw [Maps.atKey_put_other hz, h2 z, boolOf_congr (ho z hz)]

/-- 'm[k] = struct{ is bool }{v}' at the operation. -/
theorem wpList_set {ops : Array Oper} {rest : List Oper} {o : Oper} {a : Act} {R : Exit → Act → World → Prop} (hg : o.guard = none) (m x v : Operand) (t : TypeId) (hop : o.op = Op.mapUpdate t m x v) (h : SetMap w P k b n Q) (K : Keyed P k) (ht : P.underlying t = some (.map k e)) (hn : n < maxLen)
    {key : Value} {kl : Lit} (hm : a.eval m = .map (some b)) (hx : a.eval x = key) (hkey : keyOf P k key = some kl) {bv : Bool} (hv : a.eval v = .agg #[.bool bv]) (Q' : Lit → Prop) (hs : Q' kl ↔ bv = true) (ho : ∀ z, z ≠ kl → (Q' z ↔ Q z))
    (hK : ∀ w', SetMap w' P k b (n + 1) Q' → Ke (· = b) w w' → wpList P ops R rest (a.put o.dst undef) w') : wpList P ops R (o :: rest) a w := by
  refine wpList_plain hg fun K' hK' => ?_
  obtain ⟨w', hrun, r1, r2⟩ := h.put K ht hn hkey bv hs ho
  unfold Oper.wp
  simp [execOp, hop, hm, hx, hv, hrun, Result.andThen]
  exact hK' _ _ (hK w' r1 r2)
end Go.Proofs.Ytfnibpkojhgflaa
