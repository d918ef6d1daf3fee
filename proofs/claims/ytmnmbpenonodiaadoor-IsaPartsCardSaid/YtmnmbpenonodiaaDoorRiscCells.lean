/- All cells of an instruction. -/
import Derived.Test.YtmnmbpenonodiaaDoorRiscData
namespace Go.Proofs.YtmnmbpenonodiaaDoor
set_option linter.unusedVariables false
set_option linter.unusedSimpArgs false
open Go.RowKit

/-- block b holds the instruction i. -/
def InsAt (w : World) (b : Nat) (i : Ins) : Prop := w.heap[b]? = some (.cells #[.int .i64 i.form, .bool i.u, .bool i.v, .int .i64 i.a, .int .i64 i.b, .int .i64 i.c, .int .i64 i.op, .int .i64 i.im, .int .i64 i.off, .int .i64 i.cond, .int .i64 i.n] 29 (0, 0))
theorem InsAt.cell {w : World} {b : Nat} {i : Ins} (h : InsAt w b i) (j : Nat) : w.cell? ⟨b, j, none⟩ = (#[.int .i64 i.form, .bool i.u, .bool i.v, .int .i64 i.a, .int .i64 i.b, .int .i64 i.c, .int .i64 i.op, .int .i64 i.im, .int .i64 i.off, .int .i64 i.cond, .int .i64 i.n] : Array Value)[j]? := by
  unfold World.cell?
  rw [h]; rfl
theorem InsAt.all {w : World} {b : Nat} {i : Ins} (h : InsAt w b i) :
    w.cell? ⟨b, 0, none⟩ = some (.int .i64 i.form) ∧
    w.cell? ⟨b, 1, none⟩ = some (.bool i.u) ∧
    w.cell? ⟨b, 2, none⟩ = some (.bool i.v) ∧
    w.cell? ⟨b, 3, none⟩ = some (.int .i64 i.a) ∧
    w.cell? ⟨b, 4, none⟩ = some (.int .i64 i.b) ∧
    w.cell? ⟨b, 5, none⟩ = some (.int .i64 i.c) ∧
    w.cell? ⟨b, 6, none⟩ = some (.int .i64 i.op) ∧
    w.cell? ⟨b, 7, none⟩ = some (.int .i64 i.im) ∧
    w.cell? ⟨b, 8, none⟩ = some (.int .i64 i.off) ∧
    w.cell? ⟨b, 9, none⟩ = some (.int .i64 i.cond) ∧
    w.cell? ⟨b, 10, none⟩ = some (.int .i64 i.n) :=
  ⟨h.cell _, h.cell _, h.cell _, h.cell _, h.cell _, h.cell _, h.cell _, h.cell _, h.cell _, h.cell _, h.cell _⟩
theorem InsAt.new (w : World) (i : Ins) : InsAt (w.alloc (.cells #[.int .i64 i.form, .bool i.u, .bool i.v, .int .i64 i.a, .int .i64 i.b, .int .i64 i.c, .int .i64 i.op, .int .i64 i.im, .int .i64 i.off, .int .i64 i.cond, .int .i64 i.n] 29)) w.heap.size i := heap_alloc_new w _
theorem InsAt.lt {w : World} {b : Nat} {i : Ins} (h : InsAt w b i) : b < w.heap.size := (Array.getElem?_eq_some_iff.1 h).1
theorem InsAt.below {w w' : World} {b B : Nat} {i : Ins} (h : InsAt w b i) (hb : Below B w w') (hB : b < B) : InsAt w' b i := (hb.block b hB).trans h

end Go.Proofs.YtmnmbpenonodiaaDoor
