/-
  No cell of these rows narrows 'for every input' (looked for: loops, veiled, ifaces, maps, wideKeys, modest, calm, conditions, laid).
  DERIVED. THE GIVEN ROWS OF THIS SEAT. 2 by the template 'for every input the law returns true; each argument reads behind the call as it read before'; 0 by the template 'total and deterministic' (their statements: YteagpjcflcahoaaTotals.lean).
  GIVEN WITH THE SEED: the statements are not yours to turn. If you find one false, say at which input.
  Laid BY PROGRAM, IN A SANDBOX (cutbox-rows.mjs): the forced cells as the released guide's own fill.sh prints them over the translation c25575796fa48ea9… (all of the seat's roots in one cut). By AI agents, Wed Nov 11 2026. No macro, syntax, notation, axiom, sorry.
-/
import Derived.Test.YteagpjcflcahoaaChecked
import GoSem.Claim
import GoSem.ClaimJoined
import GoSem.ClaimMapViews
import Derived.JoinedTies
import Derived.KernelRfl
namespace Go.Proofs.Yteagpjcflcahoaa
/- THE CELL 'sum', in the pinned program and in every row, IS THE sha256 OF THE DUMP (.gsa) THAT YteagpjcflcahoaaProg.lean LOADS. Nothing in Lean hashes anything: it is a label: what it is worth is what the hold of that sum in a sandbox is worth. -/
noncomputable def Try.pinned : Pinned := { name := "yteagpjcflcahoaa", sum := "c25575796fa48ea91a4bdb514239d0252ca82fa95b9f66bb536d8b54d84adcd4", checked := Try.checked }
namespace Rows
def none {H : Type} : Left H := { results := [], args := [] }

/-- 'selfsamelaw07.ObjectSame': WHATEVER THE INPUT: true; the input reads as it did. -/
def objectSameSpec : ChangeSpec := { name := "objectSame", fn := fun _ => fun
  | [d1, d2, d3] => { results := [.lit (.bool true)], args := [d1, d2, d3] }
  | _ => none }
def objectSameRow : OpenClaim := { program := "yteagpjcflcahoaa", sum := "c25575796fa48ea91a4bdb514239d0252ca82fa95b9f66bb536d8b54d84adcd4", func := "selfsame/selfsamelaw07.ObjectSame", spec := "objectSame", unfollowed := true, recurses := true, apart := false }
def ObjectSameSaid : Prop := objectSameRow.holds Try.pinned (OpenSpec.ofChange objectSameSpec)

/-- ITS FALSE NEIGHBOUR: 'it returns false'. Refute it at one input. -/
def objectSameWrong : ChangeSpec := { name := "objectSame", fn := fun _ => fun
  | [d1, d2, d3] => { results := [.lit (.bool false)], args := [d1, d2, d3] }
  | _ => none }
def ObjectSameWrongFalsely : Prop := objectSameRow.holds Try.pinned (OpenSpec.ofChange objectSameWrong)

/-- 'selfsamelaw07.ObjectCuts': WHATEVER THE INPUT: true; the input reads as it did. -/
def objectCutsSpec : ChangeSpec := { name := "objectCuts", fn := fun _ => fun
  | [d1, d2, d3, d4, d5] => { results := [.lit (.bool true)], args := [d1, d2, d3, d4, d5] }
  | _ => none }
def objectCutsRow : OpenClaim := { program := "yteagpjcflcahoaa", sum := "c25575796fa48ea91a4bdb514239d0252ca82fa95b9f66bb536d8b54d84adcd4", func := "selfsame/selfsamelaw07.ObjectCuts", spec := "objectCuts", unfollowed := true, recurses := true, apart := false }
def ObjectCutsSaid : Prop := objectCutsRow.holds Try.pinned (OpenSpec.ofChange objectCutsSpec)

/-- ITS FALSE NEIGHBOUR: 'it returns false'. Refute it at one input. -/
def objectCutsWrong : ChangeSpec := { name := "objectCuts", fn := fun _ => fun
  | [d1, d2, d3, d4, d5] => { results := [.lit (.bool false)], args := [d1, d2, d3, d4, d5] }
  | _ => none }
def ObjectCutsWrongFalsely : Prop := objectCutsRow.holds Try.pinned (OpenSpec.ofChange objectCutsWrong)

/- THE SECOND FORM. 'bulk': how many values and letters a reading holds, each counted each time it is reached (what is shared counts as often as it is met; a slice's spare places count too). A statement '..UptoSaid' is the law's where the arguments, and the package variables that the reading takes, are together of bulk at most 1048576: NARROWER than '..Said'. Prove '..Said' where nothing that the law and all that it calls make is longer than what came in: it says more and counts as full. Else prove '..UptoSaid'. A law counts once. -/
mutual
def uptoBulk {H : Type} : DataW H → Nat
  | .lit (.string bytes) => bytes.length + 1
  | .lit _ => 1
  | .nil => 1
  | .ptr d => uptoBulk d + 1
  | .slice elems spare => uptoBulkAll elems + uptoBulkAll spare + 1
  | .agg parts => uptoBulkAll parts + 1
  | .iface _ d => uptoBulk d + 1
  | .map entries => uptoBulkEntries entries + 1
  | .held _ => 1
def uptoBulkAll {H : Type} : List (DataW H) → Nat
  | [] => 0
  | d :: r => uptoBulk d + uptoBulkAll r
def uptoBulkEntries {H : Type} : List (Lit × DataW H) → Nat
  | [] => 0
  | x :: r => uptoBulkEntry x + uptoBulkEntries r
def uptoBulkEntry {H : Type} : Lit × DataW H → Nat
  | (.string bytes, d) => bytes.length + uptoBulk d + 1
  | (_, d) => uptoBulk d + 1
 end
def uptoSmall : (H : Type) → List (DataW H) → Bool := fun _ ds => decide (uptoBulkAll ds ≤ 1048576)
def OpenSpec.upto (s : _root_.Go.ChangeSpec) : _root_.Go.OpenSpec := { _root_.Go.OpenSpec.ofChange s with cond := some uptoSmall }

/-- 'selfsamelaw07.ObjectSame', WHERE WHAT IT READS IS OF BULK AT MOST 1048576: true; the input reads as it did. -/
def objectSameUptoRow : OpenClaim := { program := "yteagpjcflcahoaa", sum := "c25575796fa48ea91a4bdb514239d0252ca82fa95b9f66bb536d8b54d84adcd4", func := "selfsame/selfsamelaw07.ObjectSame", spec := "objectSame", unfollowed := true, recurses := true, apart := false, narrowed := true }
def ObjectSameUptoSaid : Prop := objectSameUptoRow.holds Try.pinned (OpenSpec.upto objectSameSpec)

/-- 'selfsamelaw07.ObjectCuts', WHERE WHAT IT READS IS OF BULK AT MOST 1048576: true; the input reads as it did. -/
def objectCutsUptoRow : OpenClaim := { program := "yteagpjcflcahoaa", sum := "c25575796fa48ea91a4bdb514239d0252ca82fa95b9f66bb536d8b54d84adcd4", func := "selfsame/selfsamelaw07.ObjectCuts", spec := "objectCuts", unfollowed := true, recurses := true, apart := false, narrowed := true }
def ObjectCutsUptoSaid : Prop := objectCutsUptoRow.holds Try.pinned (OpenSpec.upto objectCutsSpec)

end Rows
end Go.Proofs.Yteagpjcflcahoaa
