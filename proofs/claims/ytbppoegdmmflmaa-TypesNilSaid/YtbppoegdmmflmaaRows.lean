/-
  No cell of these rows narrows 'for every input' (looked for: loops, veiled, ifaces, maps, wideKeys, modest, calm, conditions, laid).
  DERIVED. THE GIVEN ROWS OF THIS SEAT. 4 by the template 'for every input the law returns true; each argument reads behind the call as it read before'; 0 by the template 'total and deterministic' (their statements: YtbppoegdmmflmaaTotals.lean).
  GIVEN WITH THE SEED: the statements are not yours to turn. If you find one false, say at which input.
  Laid BY PROGRAM, IN A SANDBOX (cutbox-rows.mjs): the forced cells as the released guide's own fill.sh prints them over the translation 33237a92cab6231b… (all of the seat's roots in one cut). By AI agents, Wed Nov 11 2026. No macro, syntax, notation, axiom, sorry.
-/
import Derived.Test.YtbppoegdmmflmaaChecked
import GoSem.Claim
import GoSem.ClaimJoined
import GoSem.ClaimMapViews
import Derived.JoinedTies
import Derived.KernelRfl
namespace Go.Proofs.Ytbppoegdmmflmaa
/- THE CELL 'sum', in the pinned program and in every row, IS THE sha256 OF THE DUMP (.gsa) THAT YtbppoegdmmflmaaProg.lean LOADS. Nothing in Lean hashes anything: it is a label: what it is worth is what the hold of that sum in a sandbox is worth. -/
noncomputable def Try.pinned : Pinned := { name := "ytbppoegdmmflmaa", sum := "33237a92cab6231b642e9c13bfd95d416f609b54aa371f9539d8bd26f531606d", checked := Try.checked }
namespace Rows
def none {H : Type} : Left H := { results := [], args := [] }

/-- 'selfsamelaw12.TypesArrays': WHATEVER THE INPUT: true; the input reads as it did. -/
def typesArraysSpec : ChangeSpec := { name := "typesArrays", fn := fun _ => fun
  | [d1, d2] => { results := [.lit (.bool true)], args := [d1, d2] }
  | _ => none }
def typesArraysRow : OpenClaim := { program := "ytbppoegdmmflmaa", sum := "33237a92cab6231b642e9c13bfd95d416f609b54aa371f9539d8bd26f531606d", func := "selfsame/selfsamelaw12.TypesArrays", spec := "typesArrays", unfollowed := true, recurses := true, apart := false }
def TypesArraysSaid : Prop := typesArraysRow.holds Try.pinned (OpenSpec.ofChange typesArraysSpec)

/-- ITS FALSE NEIGHBOUR: 'it returns false'. Refute it at one input. -/
def typesArraysWrong : ChangeSpec := { name := "typesArrays", fn := fun _ => fun
  | [d1, d2] => { results := [.lit (.bool false)], args := [d1, d2] }
  | _ => none }
def TypesArraysWrongFalsely : Prop := typesArraysRow.holds Try.pinned (OpenSpec.ofChange typesArraysWrong)

/-- 'selfsamelaw12.TypesFull': WHATEVER THE INPUT: true; the input reads as it did. -/
def typesFullSpec : ChangeSpec := { name := "typesFull", fn := fun _ => fun
  | [d] => { results := [.lit (.bool true)], args := [d] }
  | _ => none }
def typesFullRow : OpenClaim := { program := "ytbppoegdmmflmaa", sum := "33237a92cab6231b642e9c13bfd95d416f609b54aa371f9539d8bd26f531606d", func := "selfsame/selfsamelaw12.TypesFull", spec := "typesFull", unfollowed := true, recurses := true, apart := false }
def TypesFullSaid : Prop := typesFullRow.holds Try.pinned (OpenSpec.ofChange typesFullSpec)

/-- ITS FALSE NEIGHBOUR: 'it returns false'. Refute it at one input. -/
def typesFullWrong : ChangeSpec := { name := "typesFull", fn := fun _ => fun
  | [d] => { results := [.lit (.bool false)], args := [d] }
  | _ => none }
def TypesFullWrongFalsely : Prop := typesFullRow.holds Try.pinned (OpenSpec.ofChange typesFullWrong)

/-- 'selfsamelaw12.TypesNil': WHATEVER THE INPUT: true; the input reads as it did. -/
def typesNilSpec : ChangeSpec := { name := "typesNil", fn := fun _ => fun
  | [] => { results := [.lit (.bool true)], args := [] }
  | _ => none }
def typesNilRow : OpenClaim := { program := "ytbppoegdmmflmaa", sum := "33237a92cab6231b642e9c13bfd95d416f609b54aa371f9539d8bd26f531606d", func := "selfsame/selfsamelaw12.TypesNil", spec := "typesNil", unfollowed := true, recurses := true, apart := false }
def TypesNilSaid : Prop := typesNilRow.holds Try.pinned (OpenSpec.ofChange typesNilSpec)

/-- ITS FALSE NEIGHBOUR: 'it returns false'. Refute it at one input. -/
def typesNilWrong : ChangeSpec := { name := "typesNil", fn := fun _ => fun
  | [] => { results := [.lit (.bool false)], args := [] }
  | _ => none }
def TypesNilWrongFalsely : Prop := typesNilRow.holds Try.pinned (OpenSpec.ofChange typesNilWrong)

/-- 'selfsamelaw12.TypesFits': WHATEVER THE INPUT: true; the input reads as it did. -/
def typesFitsSpec : ChangeSpec := { name := "typesFits", fn := fun _ => fun
  | [d1, d2, d3, d4] => { results := [.lit (.bool true)], args := [d1, d2, d3, d4] }
  | _ => none }
def typesFitsRow : OpenClaim := { program := "ytbppoegdmmflmaa", sum := "33237a92cab6231b642e9c13bfd95d416f609b54aa371f9539d8bd26f531606d", func := "selfsame/selfsamelaw12.TypesFits", spec := "typesFits", unfollowed := true, recurses := true, apart := false }
def TypesFitsSaid : Prop := typesFitsRow.holds Try.pinned (OpenSpec.ofChange typesFitsSpec)

/-- ITS FALSE NEIGHBOUR: 'it returns false'. Refute it at one input. -/
def typesFitsWrong : ChangeSpec := { name := "typesFits", fn := fun _ => fun
  | [d1, d2, d3, d4] => { results := [.lit (.bool false)], args := [d1, d2, d3, d4] }
  | _ => none }
def TypesFitsWrongFalsely : Prop := typesFitsRow.holds Try.pinned (OpenSpec.ofChange typesFitsWrong)

/- THE SECOND FORM. 'bulk': how many values and letters a reading holds, each counted each time it is reached (what is shared counts as often as it is met; a slice's spare places count too). A statement '..UptoSaid' is the law's where the arguments, and the package variables that the reading takes, are together of bulk at most 1048576: NARROWER than '..Said'. Prove '..Said' where nothing that the law and all that it calls make is longer than what came in: it says more and counts as full. Else prove '..UptoSaid'. A law counts once. -/
mutual
def uptoBulk {H : Type} : DataW H → Nat
  | .lit (.string bytes) => bytes.length + 1
  | .lit _ => 1
  | .nil => 1
  | .ptr d => uptoBulk d + 1
  | .slice elems spare => uptoBulkAll elems + uptoBulkAll spare + 1
  | .agg parts => uptoBulkAll parts + 1
  | .iface _ d => uptoBulk d + 1
  | .map entries => uptoBulkEntries entries + 1
  | .held _ => 1
def uptoBulkAll {H : Type} : List (DataW H) → Nat
  | [] => 0
  | d :: r => uptoBulk d + uptoBulkAll r
def uptoBulkEntries {H : Type} : List (Lit × DataW H) → Nat
  | [] => 0
  | x :: r => uptoBulkEntry x + uptoBulkEntries r
def uptoBulkEntry {H : Type} : Lit × DataW H → Nat
  | (.string bytes, d) => bytes.length + uptoBulk d + 1
  | (_, d) => uptoBulk d + 1
 end
def uptoSmall : (H : Type) → List (DataW H) → Bool := fun _ ds => decide (uptoBulkAll ds ≤ 1048576)
def OpenSpec.upto (s : _root_.Go.ChangeSpec) : _root_.Go.OpenSpec := { _root_.Go.OpenSpec.ofChange s with cond := some uptoSmall }

/-- 'selfsamelaw12.TypesArrays', WHERE WHAT IT READS IS OF BULK AT MOST 1048576: true; the input reads as it did. -/
def typesArraysUptoRow : OpenClaim := { program := "ytbppoegdmmflmaa", sum := "33237a92cab6231b642e9c13bfd95d416f609b54aa371f9539d8bd26f531606d", func := "selfsame/selfsamelaw12.TypesArrays", spec := "typesArrays", unfollowed := true, recurses := true, apart := false, narrowed := true }
def TypesArraysUptoSaid : Prop := typesArraysUptoRow.holds Try.pinned (OpenSpec.upto typesArraysSpec)

/-- 'selfsamelaw12.TypesFull', WHERE WHAT IT READS IS OF BULK AT MOST 1048576: true; the input reads as it did. -/
def typesFullUptoRow : OpenClaim := { program := "ytbppoegdmmflmaa", sum := "33237a92cab6231b642e9c13bfd95d416f609b54aa371f9539d8bd26f531606d", func := "selfsame/selfsamelaw12.TypesFull", spec := "typesFull", unfollowed := true, recurses := true, apart := false, narrowed := true }
def TypesFullUptoSaid : Prop := typesFullUptoRow.holds Try.pinned (OpenSpec.upto typesFullSpec)

/-- 'selfsamelaw12.TypesNil', WHERE WHAT IT READS IS OF BULK AT MOST 1048576: true; the input reads as it did. -/
def typesNilUptoRow : OpenClaim := { program := "ytbppoegdmmflmaa", sum := "33237a92cab6231b642e9c13bfd95d416f609b54aa371f9539d8bd26f531606d", func := "selfsame/selfsamelaw12.TypesNil", spec := "typesNil", unfollowed := true, recurses := true, apart := false, narrowed := true }
def TypesNilUptoSaid : Prop := typesNilUptoRow.holds Try.pinned (OpenSpec.upto typesNilSpec)

/-- 'selfsamelaw12.TypesFits', WHERE WHAT IT READS IS OF BULK AT MOST 1048576: true; the input reads as it did. -/
def typesFitsUptoRow : OpenClaim := { program := "ytbppoegdmmflmaa", sum := "33237a92cab6231b642e9c13bfd95d416f609b54aa371f9539d8bd26f531606d", func := "selfsame/selfsamelaw12.TypesFits", spec := "typesFits", unfollowed := true, recurses := true, apart := false, narrowed := true }
def TypesFitsUptoSaid : Prop := typesFitsUptoRow.holds Try.pinned (OpenSpec.upto typesFitsSpec)

end Rows
end Go.Proofs.Ytbppoegdmmflmaa
