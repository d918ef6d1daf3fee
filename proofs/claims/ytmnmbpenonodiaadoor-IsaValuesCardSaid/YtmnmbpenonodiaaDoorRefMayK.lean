/- What the walks of the reference's 'May' share. -/
import Derived.Test.YtmnmbpenonodiaaDoorRefIsa
import Derived.Test.YtmnmbpenonodiaaDoorAnd
import Derived.Test.YtmnmbpenonodiaaDoorRiscPlain
import Derived.Test.YtmnmbpenonodiaaDoorRd
namespace Go.Proofs.YtmnmbpenonodiaaDoor
set_option linter.unusedVariables false
set_option linter.unusedSimpArgs false
open Go.RowKit

theorem hasL (s : ByteArray) (c : Int) (b : Bool) (h : hasB s c = b) (hs : s.size ≤ maxLen) (w : World) : Calls Tryd.prog 24 #[.string s, .int .u8 c] w fun e w' => e = .returned (.bool b) ∧ w = w' := h ▸ has_walk s c w hs

def MayIs (i : Ins) (X : Prop) (w : World) : Prop := Calls Tryd.prog 13 #[i.val] w fun e w' => ∃ r, e = .returned (.bool r) ∧ (r = true ↔ X) ∧ Below w.heap.size w w'

end Go.Proofs.YtmnmbpenonodiaaDoor
