/- Processors, instructions, events as values; what a block that holds one gives a walk. -/
import Derived.Test.YtkeaogphaifnmaaWordRef2
namespace Go.Proofs.Ytkeaogphaifnmaa
set_option linter.unusedVariables false
set_option linter.unusedSimpArgs false
open Go.RowKit

structure Ins where
  form : Int
  u : Bool
  v : Bool
  a : Int
  b : Int
  c : Int
  op : Int
  im : Int
  off : Int
  cond : Int
  n : Int
  deriving DecidableEq
abbrev Ins.val (i : Ins) : Value := .agg #[.int .i64 i.form, .bool i.u, .bool i.v, .int .i64 i.a, .int .i64 i.b, .int .i64 i.c, .int .i64 i.op, .int .i64 i.im, .int .i64 i.off, .int .i64 i.cond, .int .i64 i.n]

structure Cpu where
  r : Nat → Int
  h : Int
  n : Bool
  z : Bool
  c : Bool
  v : Bool
  pc : Int
def Cpu.cells (c : Cpu) : Array Value := #[.int .u32 (c.r 0), .int .u32 (c.r 1), .int .u32 (c.r 2), .int .u32 (c.r 3), .int .u32 (c.r 4), .int .u32 (c.r 5), .int .u32 (c.r 6), .int .u32 (c.r 7), .int .u32 (c.r 8), .int .u32 (c.r 9), .int .u32 (c.r 10), .int .u32 (c.r 11), .int .u32 (c.r 12), .int .u32 (c.r 13), .int .u32 (c.r 14), .int .u32 (c.r 15), .int .u32 c.h, .bool c.n, .bool c.z, .bool c.c, .bool c.v, .int .u32 c.pc]
abbrev Cpu.val (c : Cpu) : Value := .agg c.cells

theorem cpu_box (c : Cpu) (w : World) : (Instr.box 25 c.val).run Try.prog w = .ok (.pointer (some ⟨w.heap.size, 0, none⟩)) (w.alloc (.cells c.cells 25)) := by
  simp [go_sem]

/-- block b holds the processor c. -/
def Holds (w : World) (b : Nat) (c : Cpu) : Prop := w.heap[b]? = some (.cells c.cells 25 (0, 0))

theorem Holds.cell {w : World} {b : Nat} {c : Cpu} (h : Holds w b c) (j : Nat) : w.cell? ⟨b, j, none⟩ = c.cells[j]? := by
  unfold World.cell?
  rw [h]; rfl
theorem Holds.reg {w : World} {b : Nat} {c : Cpu} (h : Holds w b c) (j : Nat) (hj : j < 16) : w.cell? ⟨b, j, none⟩ = some (.int .u32 (c.r j)) := by
  rw [h.cell]
  match j, hj with
  | 0, _ | 1, _ | 2, _ | 3, _ | 4, _ | 5, _ | 6, _ | 7, _ | 8, _ | 9, _ | 10, _ | 11, _ | 12, _ | 13, _ | 14, _ | 15, _ => rfl
  | k + 16, hk => exact absurd hk (by omega)
theorem Holds.h {w : World} {b : Nat} {c : Cpu} (h : Holds w b c) : w.cell? ⟨b, 16, none⟩ = some (.int .u32 c.h) := by rw [h.cell]; rfl
theorem Holds.n {w : World} {b : Nat} {c : Cpu} (h : Holds w b c) : w.cell? ⟨b, 17, none⟩ = some (.bool c.n) := by rw [h.cell]; rfl
theorem Holds.z {w : World} {b : Nat} {c : Cpu} (h : Holds w b c) : w.cell? ⟨b, 18, none⟩ = some (.bool c.z) := by rw [h.cell]; rfl
theorem Holds.c {w : World} {b : Nat} {c : Cpu} (h : Holds w b c) : w.cell? ⟨b, 19, none⟩ = some (.bool c.c) := by rw [h.cell]; rfl
theorem Holds.v {w : World} {b : Nat} {c : Cpu} (h : Holds w b c) : w.cell? ⟨b, 20, none⟩ = some (.bool c.v) := by rw [h.cell]; rfl
theorem Holds.pc {w : World} {b : Nat} {c : Cpu} (h : Holds w b c) : w.cell? ⟨b, 21, none⟩ = some (.int .u32 c.pc) := by rw [h.cell]; rfl
theorem Holds.free {w : World} {b : Nat} {c : Cpu} (h : Holds w b c) (j : Nat) : w.frozen? ⟨b, j, none⟩ = false := by
  unfold World.frozen?
  rw [h]; rfl
theorem Holds.new (w : World) (c : Cpu) : Holds (w.alloc (.cells c.cells 25)) w.heap.size c := heap_alloc_new w _
theorem Holds.lt {w : World} {b : Nat} {c : Cpu} (h : Holds w b c) : b < w.heap.size := (Array.getElem?_eq_some_iff.1 h).1
theorem Holds.below {w w' : World} {b B : Nat} {c : Cpu} (h : Holds w b c) (hb : Below B w w') (hB : b < B) : Holds w' b c := (hb.block b hB).trans h

theorem cpu_load {w : World} {b : Nat} {c : Cpu} (h : Holds w b c) : (Instr.loadAt 25 (.pointer (some ⟨b, 0, none⟩))).run Try.prog w = .ok c.val w := by
  have h1 := run_loadVar_row (P := Try.prog) w b 25 25 c.cells (0, 0) _ h Try.underlying25 rfl (by kernel_rfl)
  simpa [Instr.loadAt, go_sem] using h1

theorem cpu_store {w : World} {b : Nat} {c c' : Cpu} (h : Holds w b c) (j : Nat) (x : Value) (hx : c.cells.setIfInBounds j x = c'.cells) : Holds (w.setCell ⟨b, j, none⟩ x) b c' := by
  unfold Holds at *
  simp only [World.setCell, Array.getElem?_modify]
  simp [h, hx]

theorem set_reg (c : Cpu) (j : Nat) (hj : j < 16) (x : Int) : c.cells.setIfInBounds j (.int .u32 x) = ({ c with r := fun i => if i = j then x else c.r i } : Cpu).cells := by
  match j, hj with
  | 0, _ | 1, _ | 2, _ | 3, _ | 4, _ | 5, _ | 6, _ | 7, _ | 8, _ | 9, _ | 10, _ | 11, _ | 12, _ | 13, _ | 14, _ | 15, _ => rfl
  | k + 16, hk => exact absurd hk (by omega)

end Go.Proofs.Ytkeaogphaifnmaa
