/- An instruction as an argument. -/
import Derived.Test.YtmnmbpenonodiaaDoorLeaf
import Derived.Test.YtmnmbpenonodiaaDoorRefWord
namespace Go.Proofs.YtmnmbpenonodiaaDoor
set_option linter.unusedVariables false
set_option linter.unusedSimpArgs false
open Go.ChangeShapes Go.WideShapes Go.ChangeAt Go.RowKit

theorem ins_leaves : leaves Tryd.prog 4 29 = some [27, 4, 4, 3, 3, 3, 3, 3, 3, 3, 3] := by kernel_rfl

section
variable {H : Type} {enc : TypeId × Value → H} {w : World} {base : Nat} {spare : Nat → Bool} {held : Bool}

theorem open_ins {r : Reach} {b0 : Nat} {v : Value} {d : DataW H} {p : List MemPlace} (hv : Value.okWide Tryd.prog w r b0 29 v) (h : DataW.Trod enc Tryd.prog w base spare held 29 v d p) : ∃ i : Ins, v = i.val ∧ i.Ok := by
  obtain ⟨cs, rfl, hl⟩ := open_leaves ins_leaves Tryd.underlying29 hv h
  have hlen : cs.length = 11 := hl.1
  have u := fun (i : Nat) (ht : _) => hl.int i (t := 3) ht Tryd.underlying3
  have bb := fun (i : Nat) (ht : _) => hl.bool i (t := 4) ht Tryd.underlying4
  obtain ⟨x0, e0, r0⟩ := hl.int 0 (t := 27) rfl Tryd.underlying27
  obtain ⟨b1, e1⟩ := bb 1 rfl
  obtain ⟨b2, e2⟩ := bb 2 rfl
  obtain ⟨x3, e3, r3⟩ := u 3 rfl
  obtain ⟨x4, e4, r4⟩ := u 4 rfl
  obtain ⟨x5, e5, r5⟩ := u 5 rfl
  obtain ⟨x6, e6, r6⟩ := u 6 rfl
  obtain ⟨x7, e7, r7⟩ := u 7 rfl
  obtain ⟨x8, e8, r8⟩ := u 8 rfl
  obtain ⟨x9, e9, r9⟩ := u 9 rfl
  obtain ⟨x10, e10, r10⟩ := u 10 rfl
  clear u bb hl
  match cs, hlen with
  | [c0, c1, c2, c3, c4, c5, c6, c7, c8, c9, c10], _ =>
    simp at e0 e1 e2 e3 e4 e5 e6 e7 e8 e9 e10
    subst e0 e1 e2 e3 e4 e5 e6 e7 e8 e9 e10
    exact ⟨⟨x0, b1, b2, x3, x4, x5, x6, x7, x8, x9, x10⟩, rfl, ⟨r0, r3, r4, r5, r6, r7, r8, r9, r10⟩⟩

end

end Go.Proofs.YtmnmbpenonodiaaDoor
