/- Plain: fields and objects, one by one. -/
import Derived.Test.YtfnibpkojhgflaaFaceClosed
namespace Go.Proofs.Ytfnibpkojhgflaa
set_option linter.unusedVariables false
set_option linter.unusedSimpArgs false
open Go.RowKit

/-- the loop over the fields stands at a place. -/
def FldTo (e : Env) (l : List Fld) (k : Nat) : Prop := fieldsOk e [] l = fieldsOk e ((l.take k).map Fld.name) (l.drop k)
theorem FldTo.start (e : Env) (l : List Fld) : FldTo e l 0 := rfl
theorem seenF_iff {l : List Fld} {k : Nat} {s : ByteArray} : ((l.take k).map Fld.name).any (fun x => decide (x = s)) = true ↔ ∃ j x, j < k ∧ l[j]? = some x ∧ x.name = s := by
  rw [List.any_map, List.any_eq_true]
  constructor
  · rintro ⟨x, hx, h⟩
    obtain ⟨j, hj⟩ := List.mem_iff_getElem?.1 hx
    rw [List.getElem?_take] at hj
    split at hj
    · exact ⟨j, x, by assumption, hj, by simpa using h⟩
    · cases hj
  · rintro ⟨j, x, hj, hx, rfl⟩
    refine ⟨x, List.mem_iff_getElem?.2 ⟨j, ?_⟩, by simp⟩
    rw [List.getElem?_take, if_pos hj]; exact hx
theorem FldTo.eq {e : Env} {l : List Fld} {k : Nat} (h : FldTo e l k) {x : Fld} (hx : l[k]? = some x) :
    fieldsOk e [] l = (fieldOk e x && !((l.take k).map Fld.name).any (fun s => decide (s = x.name)) && fieldsOk e ((l.take (k + 1)).map Fld.name) (l.drop (k + 1))) := by
  unfold FldTo at h
  rw [h, drop_get hx, take_get hx, List.map_append]; rfl
theorem FldTo.next {e : Env} {l : List Fld} {k : Nat} (h : FldTo e l k) {x : Fld} (hx : l[k]? = some x) (h1 : fieldOk e x = true) (h3 : ((l.take k).map Fld.name).any (fun s => decide (s = x.name)) = false) : FldTo e l (k + 1) := by
  unfold FldTo
  rw [h.eq hx, h1, h3]; rfl
theorem FldTo.bad {e : Env} {l : List Fld} {k : Nat} (h : FldTo e l k) {x : Fld} (hx : l[k]? = some x) (h1 : fieldOk e x = false) : fieldsOk e [] l = false := by rw [h.eq hx, h1]; rfl
theorem FldTo.twice {e : Env} {l : List Fld} {k : Nat} (h : FldTo e l k) {x : Fld} (hx : l[k]? = some x) (h1 : ((l.take k).map Fld.name).any (fun s => decide (s = x.name)) = true) : fieldsOk e [] l = false := by rw [h.eq hx, h1]; simp
theorem FldTo.done {e : Env} {l : List Fld} {k : Nat} (h : FldTo e l k) (hk : l.length ≤ k) : fieldsOk e [] l = true := by
  unfold FldTo at h
  rw [h, List.drop_of_length_le hk]; rfl
theorem fld_name {e : Env} {x : Fld} (h : mayName x.name = false) : fieldOk e x = false := by unfold fieldOk; rw [h]; rfl
theorem fld_off {e : Env} {x : Fld} (h : ¬ (0 ≤ x.off ∧ x.off ≤ 262144)) : fieldOk e x = false := by unfold fieldOk; rw [decide_eq_false h]; simp
theorem fld_base {e : Env} {x : Fld} (h : closedB e x.base = false) : fieldOk e x = false := by unfold fieldOk; rw [h]; simp
theorem fld_yes {e : Env} {x : Fld} (h1 : mayName x.name = true) (h2 : 0 ≤ x.off ∧ x.off ≤ 262144) (h3 : closedB e x.base = true) : fieldOk e x = true := by unfold fieldOk; rw [h1, decide_eq_true h2, h3]; rfl

/-! ### types, by their forms -/
def recEnd (t : TD) : Bool := decide (t.len = 0) && noRef t.base && sizeIn t.size && decide (t.fields.length ≤ 100)
theorem may_rec {e : Env} {t : TD} (h : t.form = 2) : mayTypeB e t = (fieldsOk e [] t.fields && recEnd t) := by unfold mayTypeB; rw [if_pos h]; rfl
def recHead (t : TD) : Prop := t.len = 0 ∧ t.base.mod = 0 ∧ t.base.idx = 0 ∧ 1 ≤ t.size ∧ t.size ≤ 262144
theorem recEnd_no {t : TD} (h : ¬ recHead t) : recEnd t = false := by
  unfold recEnd noRef sizeIn
  rw [← Bool.decide_and, ← Bool.decide_and, ← Bool.decide_and]
  exact decide_eq_false (fun q => h ⟨q.1.1.1, q.1.1.2.1, q.1.1.2.2, q.1.2.1, q.1.2.2⟩)
theorem recEnd_yes {t : TD} (h : recHead t) : recEnd t = decide ((t.fields.length : Int) ≤ 100) := by
  unfold recEnd noRef sizeIn
  rw [← Bool.decide_and, ← Bool.decide_and, ← Bool.decide_and]
  obtain ⟨a, b, c, d, e⟩ := h
  exact decide_eq_decide.2 ⟨fun q => by omega, fun q => ⟨⟨⟨a, b, c⟩, d, e⟩, by omega⟩⟩
def arrHead (t : TD) : Prop := 1 ≤ t.len ∧ t.len ≤ 65535 ∧ 1 ≤ t.size ∧ t.size ≤ 262144 ∧ t.fields.length = 0
instance (t : TD) : Decidable (arrHead t) := by unfold arrHead; infer_instance
theorem may_arr {e : Env} {t : TD} (h : t.form = 1) : mayTypeB e t = (decide (arrHead t) && closedB e t.base) := by
  unfold mayTypeB sizeIn arrHead
  rw [if_neg (by rw [h]; decide), if_pos h]
  congr 1
  rw [← Bool.decide_and, ← Bool.decide_and]
  exact decide_eq_decide.2 (by omega)
def bareT (t : TD) : Prop := t.len = 0 ∧ t.size = 0 ∧ t.fields.length = 0
instance (t : TD) : Decidable (bareT t) := by unfold bareT; infer_instance
theorem may_ptr {e : Env} {t : TD} (h : t.form = 3 ∨ t.form = 4) : mayTypeB e t = (decide (bareT t) && closedB e t.base) := by
  unfold mayTypeB
  rw [if_neg (by rcases h with h | h <;> rw [h] <;> decide), if_neg (by rcases h with h | h <;> rw [h] <;> decide), if_pos h]; rfl
theorem may_none {e : Env} {t : TD} (h1 : t.form ≠ 1) (h2 : t.form ≠ 2) (h3 : t.form ≠ 3) (h4 : t.form ≠ 4) : mayTypeB e t = false := by
  unfold mayTypeB
  rw [if_neg h2, if_neg h1, if_neg (by omega)]
end Go.Proofs.Ytfnibpkojhgflaa
