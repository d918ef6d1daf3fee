/- Instructions side by side. -/
import Derived.Test.YtmnmbpenonodiaaDoorRiscPlain
import Derived.Test.YtmnmbpenonodiaaDoorSep
namespace Go.Proofs.YtmnmbpenonodiaaDoor
set_option linter.unusedVariables false
set_option linter.unusedSimpArgs false
open Go.RowKit

/-- instructions side by side. -/
def insRow (L : List Ins) : List Value := L.flatMap (fun i => i.cells.toList)
theorem insRow_len (L : List Ins) : (insRow L).length = 11 * L.length := by
  induction L with
  | nil => rfl
  | cons i L ih => unfold insRow at *; rw [List.flatMap_cons, List.length_append, ih]; simp [Ins.cells]; omega
theorem insRow_at : ∀ (L : List Ins) (k : Nat) (i : Ins) (j : Nat), L[k]? = some i → j < 11 → (insRow L)[11 * k + j]? = i.cells[j]?
  | [], k, i, j, h, _ => by simp at h
  | x :: L, 0, i, j, h, hj => by
    simp at h; subst h
    unfold insRow
    rw [List.flatMap_cons, List.getElem?_append_left (by simp [Ins.cells]; omega)]
    simp
  | x :: L, k + 1, i, j, h, hj => by
    have := insRow_at L k i j (by simpa using h) hj
    unfold insRow at *
    rw [List.flatMap_cons, List.getElem?_append_right (by simp [Ins.cells]; omega), ← this]
    congr 1
    simp [Ins.cells]; omega

/-- a new block was written. -/
theorem bel_ke {w w2 w3 : World} {g : Nat} (h : Below w.heap.size w w2) (k : Ke (· = g) w2 w3) (hg : w.heap.size ≤ g) : Below w.heap.size w w3 :=
  ⟨k.os.trans h.os, k.tape.trans h.tape, k.output.trans h.output, Nat.le_trans h.size k.size, fun i hi => (k.block i (Nat.lt_of_lt_of_le hi h.size) (by omega)).trans (h.block i hi)⟩

theorem Ins.May.ok {i : Ins} (h : i.May) : i.Ok := by
  have := h.reg
  have := h.imm
  have := h.mem
  have := h.jump
  have := h.to
  have := h.sys
  have := h.form
  obtain ⟨form, u, v, a, b, c, op, im, off, cond, n⟩ := i
  have := h.a; have := h.b; have := h.c; have := h.op; have := h.im; have := h.cond; have := h.n
  constructor <;> simp only at * <;> omega

end Go.Proofs.YtmnmbpenonodiaaDoor
