/- All cells of a processor, of an instruction: for loads of a whole one. -/
import Derived.Test.YtkeaogphaifnmaaRiscSet
namespace Go.Proofs.Ytkeaogphaifnmaa
set_option linter.unusedVariables false
set_option linter.unusedSimpArgs false
open Go.RowKit

theorem Holds.all {w : World} {b : Nat} {c : Cpu} (h : Holds w b c) :
    w.cell? ⟨b, 0, none⟩ = some (.int .u32 (c.r 0)) ∧
    w.cell? ⟨b, 1, none⟩ = some (.int .u32 (c.r 1)) ∧
    w.cell? ⟨b, 2, none⟩ = some (.int .u32 (c.r 2)) ∧
    w.cell? ⟨b, 3, none⟩ = some (.int .u32 (c.r 3)) ∧
    w.cell? ⟨b, 4, none⟩ = some (.int .u32 (c.r 4)) ∧
    w.cell? ⟨b, 5, none⟩ = some (.int .u32 (c.r 5)) ∧
    w.cell? ⟨b, 6, none⟩ = some (.int .u32 (c.r 6)) ∧
    w.cell? ⟨b, 7, none⟩ = some (.int .u32 (c.r 7)) ∧
    w.cell? ⟨b, 8, none⟩ = some (.int .u32 (c.r 8)) ∧
    w.cell? ⟨b, 9, none⟩ = some (.int .u32 (c.r 9)) ∧
    w.cell? ⟨b, 10, none⟩ = some (.int .u32 (c.r 10)) ∧
    w.cell? ⟨b, 11, none⟩ = some (.int .u32 (c.r 11)) ∧
    w.cell? ⟨b, 12, none⟩ = some (.int .u32 (c.r 12)) ∧
    w.cell? ⟨b, 13, none⟩ = some (.int .u32 (c.r 13)) ∧
    w.cell? ⟨b, 14, none⟩ = some (.int .u32 (c.r 14)) ∧
    w.cell? ⟨b, 15, none⟩ = some (.int .u32 (c.r 15)) ∧
    w.cell? ⟨b, 16, none⟩ = some (.int .u32 c.h) ∧
    w.cell? ⟨b, 17, none⟩ = some (.bool c.n) ∧
    w.cell? ⟨b, 18, none⟩ = some (.bool c.z) ∧
    w.cell? ⟨b, 19, none⟩ = some (.bool c.c) ∧
    w.cell? ⟨b, 20, none⟩ = some (.bool c.v) ∧
    w.cell? ⟨b, 21, none⟩ = some (.int .u32 c.pc) :=
  ⟨h.cell _, h.cell _, h.cell _, h.cell _, h.cell _, h.cell _, h.cell _, h.cell _, h.cell _, h.cell _, h.cell _, h.cell _, h.cell _, h.cell _, h.cell _, h.cell _, h.cell _, h.cell _, h.cell _, h.cell _, h.cell _, h.cell _⟩

/-- block b holds the instruction i. -/
def InsAt (w : World) (b : Nat) (i : Ins) : Prop := w.heap[b]? = some (.cells #[.int .i64 i.form, .bool i.u, .bool i.v, .int .i64 i.a, .int .i64 i.b, .int .i64 i.c, .int .i64 i.op, .int .i64 i.im, .int .i64 i.off, .int .i64 i.cond, .int .i64 i.n] 35 (0, 0))
theorem InsAt.cell {w : World} {b : Nat} {i : Ins} (h : InsAt w b i) (j : Nat) : w.cell? ⟨b, j, none⟩ = (#[.int .i64 i.form, .bool i.u, .bool i.v, .int .i64 i.a, .int .i64 i.b, .int .i64 i.c, .int .i64 i.op, .int .i64 i.im, .int .i64 i.off, .int .i64 i.cond, .int .i64 i.n] : Array Value)[j]? := by
  unfold World.cell?
  rw [h]; rfl
theorem InsAt.all {w : World} {b : Nat} {i : Ins} (h : InsAt w b i) :
    w.cell? ⟨b, 0, none⟩ = some (.int .i64 i.form) ∧
    w.cell? ⟨b, 1, none⟩ = some (.bool i.u) ∧
    w.cell? ⟨b, 2, none⟩ = some (.bool i.v) ∧
    w.cell? ⟨b, 3, none⟩ = some (.int .i64 i.a) ∧
    w.cell? ⟨b, 4, none⟩ = some (.int .i64 i.b) ∧
    w.cell? ⟨b, 5, none⟩ = some (.int .i64 i.c) ∧
    w.cell? ⟨b, 6, none⟩ = some (.int .i64 i.op) ∧
    w.cell? ⟨b, 7, none⟩ = some (.int .i64 i.im) ∧
    w.cell? ⟨b, 8, none⟩ = some (.int .i64 i.off) ∧
    w.cell? ⟨b, 9, none⟩ = some (.int .i64 i.cond) ∧
    w.cell? ⟨b, 10, none⟩ = some (.int .i64 i.n) :=
  ⟨h.cell _, h.cell _, h.cell _, h.cell _, h.cell _, h.cell _, h.cell _, h.cell _, h.cell _, h.cell _, h.cell _⟩
theorem InsAt.new (w : World) (i : Ins) : InsAt (w.alloc (.cells #[.int .i64 i.form, .bool i.u, .bool i.v, .int .i64 i.a, .int .i64 i.b, .int .i64 i.c, .int .i64 i.op, .int .i64 i.im, .int .i64 i.off, .int .i64 i.cond, .int .i64 i.n] 35)) w.heap.size i := heap_alloc_new w _
theorem InsAt.lt {w : World} {b : Nat} {i : Ins} (h : InsAt w b i) : b < w.heap.size := (Array.getElem?_eq_some_iff.1 h).1
theorem InsAt.below {w w' : World} {b B : Nat} {i : Ins} (h : InsAt w b i) (hb : Below B w w') (hB : b < B) : InsAt w' b i := (hb.block b hB).trans h
theorem InsAt.aside {w w' : World} {b d : Nat} {i : Ins} (h : InsAt w b i) (hb : Aside d w w') (hd : b ≠ d) : InsAt w' b i := (hb.block b h.lt hd).trans h
theorem Holds.aside {w w' : World} {b d : Nat} {c : Cpu} (h : Holds w b c) (hb : Aside d w w') (hd : b ≠ d) : Holds w' b c := (hb.block b h.lt hd).trans h

end Go.Proofs.Ytkeaogphaifnmaa
