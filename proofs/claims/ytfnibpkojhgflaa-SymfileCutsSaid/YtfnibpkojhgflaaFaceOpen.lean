/- A face as an argument. -/
import Derived.Test.YtfnibpkojhgflaaLibB
import Derived.Test.YtfnibpkojhgflaaFaceA
namespace Go.Proofs.Ytfnibpkojhgflaa
set_option linter.unusedVariables false
set_option linter.unusedSimpArgs false
open Go.ChangeShapes Go.WideShapes Go.ChangeAt Go.RowKit

theorem impF_leaves : leaves Try.prog 4 86 = some [9, 39] := by kernel_rfl
theorem fld_leaves : leaves Try.prog 4 37 = some [9, 3, 3, 3] := by kernel_rfl
theorem prm_leaves : leaves Try.prog 4 97 = some [4, 3, 3] := by kernel_rfl
theorem ft_leaves : leaves Try.prog 4 34 = some [31, 3, 3, 3, 3, 32] := by kernel_rfl
theorem fo_leaves : leaves Try.prog 4 42 = some [38, 9, 3, 3, 39, 40] := by kernel_rfl
theorem fc_leaves : leaves Try.prog 4 26 = some [9, 22, 23, 24] := by kernel_rfl

section
variable {H : Type} {enc : TypeId × Value → H} {w : World} {base : Nat} {spare : Nat → Bool} {held : Bool}

theorem openF_imp (cs : List Value) (hl : LeafAt enc Try.prog w base spare held cs [9, 39]) : ∃ x : Imp, cs = impD.cells x ∧ impD.ok w x := by
  have hlen : cs.length = 2 := hl.1
  obtain ⟨x0, e0, r0⟩ := hl.str 0 (t := 9) rfl Try.underlying9
  obtain ⟨x1, e1, r1⟩ := hl.int 1 (t := 39) rfl Try.underlying39
  clear hl
  match cs, hlen with
  | [c0, c1], _ =>
    simp at e0 e1
    subst e0 e1
    exact ⟨⟨x0, x1⟩, rfl, r0, (bd_u32 r1).1, (bd_u32 r1).2⟩
theorem open_fld (cs : List Value) (hl : LeafAt enc Try.prog w base spare held cs [9, 3, 3, 3]) : ∃ x : Fld, cs = fldD.cells x ∧ fldD.ok w x := by
  have hlen : cs.length = 4 := hl.1
  obtain ⟨x0, e0, r0⟩ := hl.str 0 (t := 9) rfl Try.underlying9
  obtain ⟨x1, e1, r1⟩ := hl.int 1 (t := 3) rfl Try.underlying3
  obtain ⟨x2, e2, r2⟩ := hl.int 2 (t := 3) rfl Try.underlying3
  obtain ⟨x3, e3, r3⟩ := hl.int 3 (t := 3) rfl Try.underlying3
  clear hl
  match cs, hlen with
  | [c0, c1, c2, c3], _ =>
    simp at e0 e1 e2 e3
    subst e0 e1 e2 e3
    exact ⟨⟨x0, x1, ⟨x2, x3⟩⟩, rfl, r0, bd_i64 r1, bd_i64 r2, bd_i64 r3⟩
theorem open_prm (cs : List Value) (hl : LeafAt enc Try.prog w base spare held cs [4, 3, 3]) : ∃ x : Prm, cs = prmD.cells x ∧ prmD.ok w x := by
  have hlen : cs.length = 3 := hl.1
  obtain ⟨x0, e0⟩ := hl.bool 0 (t := 4) rfl Try.underlying4
  obtain ⟨x1, e1, r1⟩ := hl.int 1 (t := 3) rfl Try.underlying3
  obtain ⟨x2, e2, r2⟩ := hl.int 2 (t := 3) rfl Try.underlying3
  clear hl
  match cs, hlen with
  | [c0, c1, c2], _ =>
    simp at e0 e1 e2
    subst e0 e1 e2
    exact ⟨⟨x0, ⟨x1, x2⟩⟩, rfl, bd_i64 r1, bd_i64 r2⟩
theorem open_ft (cs : List Value) (hl : LeafAt enc Try.prog w base spare held cs [31, 3, 3, 3, 3, 32]) : ∃ x : FT, cs = ftD.cells x ∧ ftD.ok w x := by
  have hlen : cs.length = 6 := hl.1
  obtain ⟨x0, e0, r0⟩ := hl.int 0 (t := 31) rfl Try.underlying31
  obtain ⟨x1, e1, r1⟩ := hl.int 1 (t := 3) rfl Try.underlying3
  obtain ⟨x2, e2, r2⟩ := hl.int 2 (t := 3) rfl Try.underlying3
  obtain ⟨x3, e3, r3⟩ := hl.int 3 (t := 3) rfl Try.underlying3
  obtain ⟨x4, e4, r4⟩ := hl.int 4 (t := 3) rfl Try.underlying3
  obtain ⟨x5, e5, r5⟩ := hl.sl 5 (t := 32) rfl (fun m v y hy => open_rows_leaves fldD Try.underlying32 (by kernel_rfl) fld_leaves open_fld hy)
  clear hl
  match cs, hlen with
  | [c0, c1, c2, c3, c4, c5], _ =>
    simp at e0 e1 e2 e3 e4 e5
    subst e0 e1 e2 e3 e4 e5
    exact ⟨⟨x0, x1, x2, ⟨x3, x4⟩, x5⟩, rfl, bd_i64 r0, bd_i64 r1, bd_i64 r2, ⟨bd_i64 r3, bd_i64 r4⟩, r5⟩
theorem open_fo (cs : List Value) (hl : LeafAt enc Try.prog w base spare held cs [38, 9, 3, 3, 39, 40]) : ∃ x : FO, cs = foD.cells x ∧ foD.ok w x := by
  have hlen : cs.length = 6 := hl.1
  obtain ⟨x0, e0, r0⟩ := hl.int 0 (t := 38) rfl Try.underlying38
  obtain ⟨x1, e1, r1⟩ := hl.str 1 (t := 9) rfl Try.underlying9
  obtain ⟨x2, e2, r2⟩ := hl.int 2 (t := 3) rfl Try.underlying3
  obtain ⟨x3, e3, r3⟩ := hl.int 3 (t := 3) rfl Try.underlying3
  obtain ⟨x4, e4, r4⟩ := hl.int 4 (t := 39) rfl Try.underlying39
  obtain ⟨x5, e5, r5⟩ := hl.sl 5 (t := 40) rfl (fun m v y hy => open_rows_leaves prmD Try.underlying40 (by kernel_rfl) prm_leaves open_prm hy)
  clear hl
  match cs, hlen with
  | [c0, c1, c2, c3, c4, c5], _ =>
    simp at e0 e1 e2 e3 e4 e5
    subst e0 e1 e2 e3 e4 e5
    exact ⟨⟨x0, x1, ⟨x2, x3⟩, x4, x5⟩, rfl, bd_i64 r0, r1, ⟨bd_i64 r2, bd_i64 r3⟩, bd_u32 r4, r5⟩

set_option maxRecDepth 100000 in
theorem open_face {r : Reach} {b0 : Nat} {v : Value} {d : DataW H} {p : List MemPlace} (hv : Value.okWide Try.prog w r b0 26 v) (h : DataW.Trod enc Try.prog w base spare held 26 v d p) : ∃ o : Fc, v = o.val ∧ o.Rd w := by
  obtain ⟨cs, rfl, hl⟩ := open_leaves fc_leaves Try.underlying26 hv h
  have hlen : cs.length = 4 := hl.1
  obtain ⟨x0, e0, r0⟩ := hl.str 0 (t := 9) rfl Try.underlying9
  obtain ⟨x1, e1, r1⟩ := hl.sl 1 (t := 22) rfl (fun m v y hy => open_rows_leaves impD Try.underlying22 (by kernel_rfl) impF_leaves openF_imp hy)
  obtain ⟨x2, e2, r2⟩ := hl.sl 2 (t := 23) rfl (fun m v y hy => open_rows_leaves ftD Try.underlying23 (by kernel_rfl) ft_leaves open_ft hy)
  obtain ⟨x3, e3, r3⟩ := hl.sl 3 (t := 24) rfl (fun m v y hy => open_rows_leaves foD Try.underlying24 (by kernel_rfl) fo_leaves open_fo hy)
  clear hl
  match cs, hlen with
  | [c0, c1, c2, c3], _ =>
    simp at e0 e1 e2 e3
    subst e0 e1 e2 e3
    exact ⟨⟨x0, x1, x2, x3⟩, rfl, ⟨r0, r1, r2, r3⟩⟩
end
end Go.Proofs.Ytfnibpkojhgflaa
