/- A processor, an instruction, as arguments. -/
import Derived.Test.YtkeaogphaifnmaaLeaf
import Derived.Test.YtkeaogphaifnmaaRiscKnown2
namespace Go.Proofs.Ytkeaogphaifnmaa
set_option linter.unusedVariables false
set_option linter.unusedSimpArgs false
open Go.ChangeShapes Go.WideShapes Go.ChangeAt Go.RowKit

theorem cpu_leaves : leaves Try.prog 4 25 = some [22, 22, 22, 22, 22, 22, 22, 22, 22, 22, 22, 22, 22, 22, 22, 22, 22, 4, 4, 4, 4, 22] := by kernel_rfl
theorem ins_leaves : leaves Try.prog 4 35 = some [33, 4, 4, 3, 3, 3, 3, 3, 3, 3, 3] := by kernel_rfl

section
variable {H : Type} {enc : TypeId × Value → H} {w : World} {base : Nat} {spare : Nat → Bool} {held : Bool}

theorem open_cpu {r : Reach} {b0 : Nat} {v : Value} {d : DataW H} {p : List MemPlace} (hv : Value.okWide Try.prog w r b0 25 v) (h : DataW.Trod enc Try.prog w base spare held 25 v d p) : ∃ c : Cpu, v = c.val ∧ c.Ok := by
  obtain ⟨cs, rfl, hl⟩ := open_leaves cpu_leaves Try.underlying25 hv h
  have hlen : cs.length = 22 := hl.1
  have u := fun (i : Nat) (ht : _) => hl.int i (t := 22) ht Try.underlying22
  have bb := fun (i : Nat) (ht : _) => hl.bool i (t := 4) ht Try.underlying4
  obtain ⟨x0, e0, r0⟩ := u 0 rfl
  obtain ⟨x1, e1, r1⟩ := u 1 rfl
  obtain ⟨x2, e2, r2⟩ := u 2 rfl
  obtain ⟨x3, e3, r3⟩ := u 3 rfl
  obtain ⟨x4, e4, r4⟩ := u 4 rfl
  obtain ⟨x5, e5, r5⟩ := u 5 rfl
  obtain ⟨x6, e6, r6⟩ := u 6 rfl
  obtain ⟨x7, e7, r7⟩ := u 7 rfl
  obtain ⟨x8, e8, r8⟩ := u 8 rfl
  obtain ⟨x9, e9, r9⟩ := u 9 rfl
  obtain ⟨x10, e10, r10⟩ := u 10 rfl
  obtain ⟨x11, e11, r11⟩ := u 11 rfl
  obtain ⟨x12, e12, r12⟩ := u 12 rfl
  obtain ⟨x13, e13, r13⟩ := u 13 rfl
  obtain ⟨x14, e14, r14⟩ := u 14 rfl
  obtain ⟨x15, e15, r15⟩ := u 15 rfl
  obtain ⟨x16, e16, r16⟩ := u 16 rfl
  obtain ⟨b17, e17⟩ := bb 17 rfl
  obtain ⟨b18, e18⟩ := bb 18 rfl
  obtain ⟨b19, e19⟩ := bb 19 rfl
  obtain ⟨b20, e20⟩ := bb 20 rfl
  obtain ⟨x21, e21, r21⟩ := u 21 rfl
  clear u bb hl
  match cs, hlen with
  | [c0, c1, c2, c3, c4, c5, c6, c7, c8, c9, c10, c11, c12, c13, c14, c15, c16, c17, c18, c19, c20, c21], _ =>
    simp at e0 e1 e2 e3 e4 e5 e6 e7 e8 e9 e10 e11 e12 e13 e14 e15 e16 e17 e18 e19 e20 e21
    subst e0 e1 e2 e3 e4 e5 e6 e7 e8 e9 e10 e11 e12 e13 e14 e15 e16 e17 e18 e19 e20 e21
    refine ⟨⟨fun j => [x0, x1, x2, x3, x4, x5, x6, x7, x8, x9, x10, x11, x12, x13, x14, x15].getD j 0, x16, b17, b18, b19, b20, x21⟩, rfl, ⟨fun j => ?_, bd_u32 r16, bd_u32 r21⟩⟩
    match j with
    | 0 => exact bd_u32 r0
    | 1 => exact bd_u32 r1
    | 2 => exact bd_u32 r2
    | 3 => exact bd_u32 r3
    | 4 => exact bd_u32 r4
    | 5 => exact bd_u32 r5
    | 6 => exact bd_u32 r6
    | 7 => exact bd_u32 r7
    | 8 => exact bd_u32 r8
    | 9 => exact bd_u32 r9
    | 10 => exact bd_u32 r10
    | 11 => exact bd_u32 r11
    | 12 => exact bd_u32 r12
    | 13 => exact bd_u32 r13
    | 14 => exact bd_u32 r14
    | 15 => exact bd_u32 r15
    | k + 16 => exact (show (0 : Int) ≤ 0 ∧ (0 : Int) < 4294967296 from by decide)

end

end Go.Proofs.Ytkeaogphaifnmaa
