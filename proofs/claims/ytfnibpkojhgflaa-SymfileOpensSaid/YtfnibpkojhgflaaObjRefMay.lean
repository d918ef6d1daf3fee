/- Contracts: the reference's Much, May. -/
import Derived.Test.YtfnibpkojhgflaaObjImps
import Derived.Test.YtfnibpkojhgflaaObjMay0
import Derived.Test.YtfnibpkojhgflaaSep
import Derived.StillTailTactics
namespace Go.Proofs.Ytfnibpkojhgflaa
set_option linter.unusedVariables false
set_option linter.unusedSimpArgs false
open Go.RowKit

theorem refMayImports_bel (s : ByteArray) (l : Sl Imp) (w : World) (hs : s.size ≤ maxLen) (hl : Rows impD w l) :
    Calls Try.prog 28 #[.string s, .slice l.a l.l.length l.c] w fun e w' => e = .returned (.bool (mayImps s l.l)) ∧ Below w.heap.size w w' :=
  (refMayImports_any s l w hs hl).mono fun e w' ⟨he, n, hn⟩ => ⟨he, by rw [hn]; exact ⟨rfl, rfl, rfl, Nat.le_refl _, fun _ _ => rfl⟩⟩

end Go.Proofs.Ytfnibpkojhgflaa
