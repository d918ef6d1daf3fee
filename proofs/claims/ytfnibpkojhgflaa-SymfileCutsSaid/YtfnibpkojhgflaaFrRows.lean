/- Old rows, element by element. Over whatever program. -/
import Derived.Test.YtfnibpkojhgflaaFrWalk
import Derived.Test.YtfnibpkojhgflaaLibB
namespace Go.Proofs.Ytfnibpkojhgflaa
set_option linter.unusedVariables false
set_option linter.unusedSimpArgs false
open Go.RowKit
theorem Rows.elem {α : Type} {D : Dat α} {w : World} {a : Option Addr} {c : Nat} {l : List α} (h : Rows D w ⟨a, c, l⟩) {i : Nat} (hi : i < l.length) :
    ∃ b o x, a = some ⟨b, o, none⟩ ∧ b < w.heap.size ∧ l[i]? = some x ∧ D.ok w x ∧ ∀ (q : Nat) (v : Value), (D.cells x)[q]? = some v → w.cell? ⟨b, o + i * D.size + q, none⟩ = some v := by
  obtain ⟨b, o, h1, h2⟩ := h.at'
  obtain ⟨x, hx⟩ := get_lt hi
  obtain ⟨h3, h4⟩ := h1 (by show 0 < l.length; omega)
  exact ⟨b, o, x, h3, h4, hx, h.all x (List.mem_of_getElem? hx), h2 i x hx⟩
/-- where a row lies, if it holds anything. -/
theorem Rows.place {α : Type} {D : Dat α} {w : World} {a : Option Addr} {c : Nat} {l : List α} (h : Rows D w ⟨a, c, l⟩) (h0 : 0 < l.length) :
    ∃ b o, a = some ⟨b, o, none⟩ ∧ b < w.heap.size ∧ ∀ (i : Nat) (x : α), l[i]? = some x → D.ok w x ∧ ∀ (q : Nat) (v : Value), (D.cells x)[q]? = some v → w.cell? ⟨b, o + i * D.size + q, none⟩ = some v := by
  obtain ⟨b, o, h1, h2⟩ := h.at'
  obtain ⟨h3, h4⟩ := h1 h0
  exact ⟨b, o, h3, h4, fun i x hx => ⟨h.all x (List.mem_of_getElem? hx), h2 i x hx⟩⟩
theorem one_cell {w : World} {b o : Nat} {u : Value} (h : w.cell? ⟨b, o, none⟩ = some u) {j : Nat} {v : Value} (hv : [u][j]? = some v) : w.cell? ⟨b, o + j, none⟩ = some v := by
  cases j with
  | zero => simp only [List.getElem?_cons_zero, Option.some.injEq] at hv; subst hv; exact h
  | succ j => simp at hv
end Go.Proofs.Ytfnibpkojhgflaa
