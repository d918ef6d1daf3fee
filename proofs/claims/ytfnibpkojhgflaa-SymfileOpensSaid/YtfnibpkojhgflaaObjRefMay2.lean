/- Contract: the reference's May of an object. Printed by bin/gen_objrefmay.py. -/
import Derived.Test.YtfnibpkojhgflaaObjRefMay
import Derived.Test.YtfnibpkojhgflaaSepMore
import Derived.IntWalk
namespace Go.Proofs.Ytfnibpkojhgflaa
set_option linter.unusedVariables false
set_option linter.unusedSimpArgs false
open Go.RowKit

theorem int_cell {k : IntKind} {w : World} {b o : Nat} {l : List Int} (h : RowAt (intD k) w b o l) {i : Nat} {x : Int} (hx : l[i]? = some x) : w.cell? ⟨b, o + i, none⟩ = some (.int k x) := by
  have := h i x hx 0 (.int k x) rfl
  rwa [show o + i * (intD k).size + 0 = o + i from by show o + i * 1 + 0 = _; omega] at this
theorem _root_.Go.RowKit.Below.drewN' {B : Nat} {w w' : World} (h : Below B w w') (n : Nat) : Below B w (w'.drewN n) := h.trans ⟨rfl, rfl, rfl, Nat.le_refl _, fun _ _ => rfl⟩
theorem before_zero {l : List Fix} {x : Int} : before (prevF l 0) x = true := rfl
theorem before_succ {l : List Fix} {i : Nat} (hi : 0 < i) {f : Fix} (hf : l[i - 1]? = some f) (x : Int) : before (prevF l i) x = decide (f.place < x) := by
  unfold prevF
  rw [if_neg (by omega), hf]; rfl

end Go.Proofs.Ytfnibpkojhgflaa
