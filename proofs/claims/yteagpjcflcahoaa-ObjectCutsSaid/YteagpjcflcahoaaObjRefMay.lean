/- Contracts: the reference's Much, May. -/
import Derived.Test.YteagpjcflcahoaaObjImps
import Derived.Test.YteagpjcflcahoaaObjMay0
import Derived.Test.YteagpjcflcahoaaSep
import Derived.StillTailTactics
namespace Go.Proofs.Yteagpjcflcahoaa
set_option linter.unusedVariables false
set_option linter.unusedSimpArgs false
open Go.RowKit

theorem refMayImports_bel (s : ByteArray) (l : Sl Imp) (w : World) (hs : s.size ≤ maxLen) (hl : Rows impD w l) :
    Calls Try.prog 21 #[.string s, .slice l.a l.l.length l.c] w fun e w' => e = .returned (.bool (mayImps s l.l)) ∧ Below w.heap.size w w' :=
  (refMayImports_any s l w hs hl).mono fun e w' ⟨he, n, hn⟩ => ⟨he, by rw [hn]; exact ⟨rfl, rfl, rfl, Nat.le_refl _, fun _ _ => rfl⟩⟩

theorem much_of {o : OD} {b : Bool} (h : b = decide (40 < o.imps.length ∨ 20000 < o.text.length ∨ 20000 < o.code.length ∨ 400 < o.entries.length ∨ 10000 < o.fixups.length)) : b = muchB o := h

set_option maxHeartbeats 4000000 in
theorem much_walk (o : Obj) (w : World) (h : o.Rd w) :
    Calls Try.prog 5 #[o.val] w fun e w' => e = .returned (.bool (muchB o.d)) ∧ Below w.heap.size w w' := by
  have i2 := h.imps.len
  have i4 := h.text.len
  have i5 := h.code.len
  have i6 := h.entries.len
  have i7 := h.fixups.len
  clear h
  obtain ⟨nm, ky, ⟨a2, c2, l2⟩, vs, ⟨a4, c4, l4⟩, ⟨a5, c5, l5⟩, ⟨a6, c6, l6⟩, ⟨a7, c7, l7⟩⟩ := o
  show Calls _ _ #[.agg #[.string nm, .int .u32 ky, .slice a2 l2.length c2, .int .i64 vs, .slice a4 l4.length c4, .slice a5 l5.length c5, .slice a6 l6.length c6, .slice a7 l7.length c7]] w _
  dsimp only at i2 i4 i5 i6 i7
  by_cases h1 : (40 : Int) < l2.length
  · have hm : true = muchB ⟨nm, ky, l2, vs, l4, l5, l6, l7⟩ := (decide_eq_true (by dsimp only; omega)).symm
    have HM := Lib.hid hm
    clear hm
    go_enter Try.func5, Try.ntmps5
    go_wp2
    go_ret
    exact ⟨ret_bool HM.out, bel1 _ _⟩
  by_cases h2 : (20000 : Int) < l4.length
  · have HM : Hid (true = muchB ⟨nm, ky, l2, vs, l4, l5, l6, l7⟩) := Lib.hid (decide_eq_true (by dsimp only; omega)).symm
    go_enter Try.func5, Try.ntmps5
    go_wp2
    go_ret
    exact ⟨ret_bool HM.out, bel1 _ _⟩
  by_cases h3 : (20000 : Int) < l5.length
  · have HM : Hid (true = muchB ⟨nm, ky, l2, vs, l4, l5, l6, l7⟩) := Lib.hid (decide_eq_true (by dsimp only; omega)).symm
    go_enter Try.func5, Try.ntmps5
    go_wp2
    go_ret
    exact ⟨ret_bool HM.out, bel1 _ _⟩
  by_cases h4 : (400 : Int) < l6.length
  · have HM : Hid (true = muchB ⟨nm, ky, l2, vs, l4, l5, l6, l7⟩) := Lib.hid (decide_eq_true (by dsimp only; omega)).symm
    go_enter Try.func5, Try.ntmps5
    go_wp2
    go_ret
    exact ⟨ret_bool HM.out, bel1 _ _⟩
  have HM : Hid (decide ((10000 : Int) < l7.length) = muchB ⟨nm, ky, l2, vs, l4, l5, l6, l7⟩) := Lib.hid (decide_eq_decide.2 (by dsimp only; omega))
  go_enter Try.func5, Try.ntmps5
  go_wp2
  go_ret
  exact ⟨ret_bool HM.out, bel1 _ _⟩

end Go.Proofs.Yteagpjcflcahoaa
