/- An object as an argument. -/
import Derived.Test.YteagpjcflcahoaaLeaf
import Derived.Test.YteagpjcflcahoaaObjData
namespace Go.Proofs.Yteagpjcflcahoaa
set_option linter.unusedVariables false
set_option linter.unusedSimpArgs false
open Go.ChangeShapes Go.WideShapes Go.ChangeAt Go.RowKit

theorem imp_leaves : leaves Try.prog 4 45 = some [9, 22] := by kernel_rfl
theorem fix_leaves : leaves Try.prog 4 51 = some [3, 3, 3] := by kernel_rfl
theorem obj_leaves : leaves Try.prog 4 29 = some [9, 22, 23, 3, 24, 25, 26, 27] := by kernel_rfl

section
variable {H : Type} {enc : TypeId × Value → H} {w : World} {base : Nat} {spare : Nat → Bool} {held : Bool}

theorem open_imp (cs : List Value) (hl : LeafAt enc Try.prog w base spare held cs [9, 22]) : ∃ x : Imp, cs = impD.cells x ∧ impD.ok w x := by
  have hlen : cs.length = 2 := hl.1
  obtain ⟨x0, e0, r0⟩ := hl.str 0 (t := 9) rfl Try.underlying9
  obtain ⟨x1, e1, r1⟩ := hl.int 1 (t := 22) rfl Try.underlying22
  clear hl
  match cs, hlen with
  | [c0, c1], _ =>
    simp at e0 e1
    subst e0 e1
    exact ⟨⟨x0, x1⟩, rfl, r0, (bd_u32 r1).1, (bd_u32 r1).2⟩
theorem open_fix (cs : List Value) (hl : LeafAt enc Try.prog w base spare held cs [3, 3, 3]) : ∃ x : Fix, cs = fixD.cells x ∧ fixD.ok w x := by
  have hlen : cs.length = 3 := hl.1
  obtain ⟨x0, e0, r0⟩ := hl.int 0 (t := 3) rfl Try.underlying3
  obtain ⟨x1, e1, r1⟩ := hl.int 1 (t := 3) rfl Try.underlying3
  obtain ⟨x2, e2, r2⟩ := hl.int 2 (t := 3) rfl Try.underlying3
  clear hl
  match cs, hlen with
  | [c0, c1, c2], _ =>
    simp at e0 e1 e2
    subst e0 e1 e2
    exact ⟨⟨x0, x1, x2⟩, rfl, r0, r1, r2⟩

theorem open_obj {r : Reach} {b0 : Nat} {v : Value} {d : DataW H} {p : List MemPlace} (hv : Value.okWide Try.prog w r b0 29 v) (h : DataW.Trod enc Try.prog w base spare held 29 v d p) : ∃ o : Obj, v = o.val ∧ o.Rd w := by
  obtain ⟨cs, rfl, hl⟩ := open_leaves obj_leaves Try.underlying29 hv h
  have hlen : cs.length = 8 := hl.1
  obtain ⟨x0, e0, r0⟩ := hl.str 0 (t := 9) rfl Try.underlying9
  obtain ⟨x1, e1, r1⟩ := hl.int 1 (t := 22) rfl Try.underlying22
  obtain ⟨x2, e2, r2⟩ := hl.sl 2 (t := 23) rfl (fun m v y hy => open_rows_leaves impD Try.underlying23 (by kernel_rfl) imp_leaves open_imp hy)
  obtain ⟨x3, e3, r3⟩ := hl.int 3 (t := 3) rfl Try.underlying3
  obtain ⟨x4, e4, r4⟩ := hl.sl 4 (t := 24) rfl (fun m v y hy => open_ints_rows Try.underlying24 (by kernel_rfl) Try.underlying5 hy)
  obtain ⟨x5, e5, r5⟩ := hl.sl 5 (t := 25) rfl (fun m v y hy => open_ints_rows Try.underlying25 (by kernel_rfl) Try.underlying22 hy)
  obtain ⟨x6, e6, r6⟩ := hl.sl 6 (t := 26) rfl (fun m v y hy => open_ints_rows Try.underlying26 (by kernel_rfl) Try.underlying3 hy)
  obtain ⟨x7, e7, r7⟩ := hl.sl 7 (t := 27) rfl (fun m v y hy => open_rows_leaves fixD Try.underlying27 (by kernel_rfl) fix_leaves open_fix hy)
  clear hl
  match cs, hlen with
  | [c0, c1, c2, c3, c4, c5, c6, c7], _ =>
    simp at e0 e1 e2 e3 e4 e5 e6 e7
    subst e0 e1 e2 e3 e4 e5 e6 e7
    exact ⟨⟨x0, x1, x2, x3, x4, x5, x6, x7⟩, rfl, ⟨r0, bd_u32 r1, r2, r3, r4, r5, r6, r7⟩⟩
end
end Go.Proofs.Yteagpjcflcahoaa
