/-
  No cell of these rows narrows 'for every input' (looked for: loops, veiled, ifaces, maps, wideKeys, modest, calm, conditions, laid).
  DERIVED. THE GIVEN ROWS OF THIS SEAT. 4 by the template 'for every input the law returns true; each argument reads behind the call as it read before'; 0 by the template 'total and deterministic' (their statements: YtflmapokljiljaaTotals.lean).
  GIVEN WITH THE SEED: the statements are not yours to turn. If you find one false, say at which input.
  Laid BY PROGRAM, IN A SANDBOX (cutbox-rows.mjs): the forced cells as the released guide's own fill.sh prints them over the translation 6215ed56c328ccf6… (all of the seat's roots in one cut). By AI agents, Wed Nov 11 2026. No macro, syntax, notation, axiom, sorry.
-/
import Derived.Test.YtflmapokljiljaaChecked
import GoSem.Claim
import GoSem.ClaimJoined
import GoSem.ClaimMapViews
import Derived.JoinedTies
import Derived.KernelRfl
namespace Go.Proofs.Ytflmapokljiljaa
/- THE CELL 'sum', in the pinned program and in every row, IS THE sha256 OF THE DUMP (.gsa) THAT YtflmapokljiljaaProg.lean LOADS. Nothing in Lean hashes anything: it is a label: what it is worth is what the hold of that sum in a sandbox is worth. -/
noncomputable def Try.pinned : Pinned := { name := "ytflmapokljiljaa", sum := "6215ed56c328ccf6c9aea660f57d0162a4ebe7d3cf3126c1fac070414b6b4347", checked := Try.checked }
namespace Rows
def none {H : Type} : Left H := { results := [], args := [] }

/-- 'selfsamelaw06.KeyOf': WHATEVER THE INPUT: true; the input reads as it did. -/
def keyOfSpec : ChangeSpec := { name := "keyOf", fn := fun _ => fun
  | [d] => { results := [.lit (.bool true)], args := [d] }
  | _ => none }
def keyOfRow : OpenClaim := { program := "ytflmapokljiljaa", sum := "6215ed56c328ccf6c9aea660f57d0162a4ebe7d3cf3126c1fac070414b6b4347", func := "selfsame/selfsamelaw06.KeyOf", spec := "keyOf", unfollowed := true, recurses := true, apart := false }
def KeyOfSaid : Prop := keyOfRow.holds Try.pinned (OpenSpec.ofChange keyOfSpec)

/-- ITS FALSE NEIGHBOUR: 'it returns false'. Refute it at one input. -/
def keyOfWrong : ChangeSpec := { name := "keyOf", fn := fun _ => fun
  | [d] => { results := [.lit (.bool false)], args := [d] }
  | _ => none }
def KeyOfWrongFalsely : Prop := keyOfRow.holds Try.pinned (OpenSpec.ofChange keyOfWrong)

/-- 'selfsamelaw06.KeySteps': WHATEVER THE INPUT: true; the input reads as it did. -/
def keyStepsSpec : ChangeSpec := { name := "keySteps", fn := fun _ => fun
  | [d1, d2, d3] => { results := [.lit (.bool true)], args := [d1, d2, d3] }
  | _ => none }
def keyStepsRow : OpenClaim := { program := "ytflmapokljiljaa", sum := "6215ed56c328ccf6c9aea660f57d0162a4ebe7d3cf3126c1fac070414b6b4347", func := "selfsame/selfsamelaw06.KeySteps", spec := "keySteps", unfollowed := true, recurses := true, apart := false }
def KeyStepsSaid : Prop := keyStepsRow.holds Try.pinned (OpenSpec.ofChange keyStepsSpec)

/-- ITS FALSE NEIGHBOUR: 'it returns false'. Refute it at one input. -/
def keyStepsWrong : ChangeSpec := { name := "keySteps", fn := fun _ => fun
  | [d1, d2, d3] => { results := [.lit (.bool false)], args := [d1, d2, d3] }
  | _ => none }
def KeyStepsWrongFalsely : Prop := keyStepsRow.holds Try.pinned (OpenSpec.ofChange keyStepsWrong)

/-- 'selfsamelaw06.KeyMeans': WHATEVER THE INPUT: true; the input reads as it did. -/
def keyMeansSpec : ChangeSpec := { name := "keyMeans", fn := fun _ => fun
  | [d1, d2, d3, d4] => { results := [.lit (.bool true)], args := [d1, d2, d3, d4] }
  | _ => none }
def keyMeansRow : OpenClaim := { program := "ytflmapokljiljaa", sum := "6215ed56c328ccf6c9aea660f57d0162a4ebe7d3cf3126c1fac070414b6b4347", func := "selfsame/selfsamelaw06.KeyMeans", spec := "keyMeans", unfollowed := true, recurses := true, apart := false }
def KeyMeansSaid : Prop := keyMeansRow.holds Try.pinned (OpenSpec.ofChange keyMeansSpec)

/-- ITS FALSE NEIGHBOUR: 'it returns false'. Refute it at one input. -/
def keyMeansWrong : ChangeSpec := { name := "keyMeans", fn := fun _ => fun
  | [d1, d2, d3, d4] => { results := [.lit (.bool false)], args := [d1, d2, d3, d4] }
  | _ => none }
def KeyMeansWrongFalsely : Prop := keyMeansRow.holds Try.pinned (OpenSpec.ofChange keyMeansWrong)

/-- 'selfsamelaw06.KeyBacks': WHATEVER THE INPUT: true; the input reads as it did. -/
def keyBacksSpec : ChangeSpec := { name := "keyBacks", fn := fun _ => fun
  | [d1, d2, d3, d4, d5, d6] => { results := [.lit (.bool true)], args := [d1, d2, d3, d4, d5, d6] }
  | _ => none }
def keyBacksRow : OpenClaim := { program := "ytflmapokljiljaa", sum := "6215ed56c328ccf6c9aea660f57d0162a4ebe7d3cf3126c1fac070414b6b4347", func := "selfsame/selfsamelaw06.KeyBacks", spec := "keyBacks", unfollowed := true, recurses := true, apart := false }
def KeyBacksSaid : Prop := keyBacksRow.holds Try.pinned (OpenSpec.ofChange keyBacksSpec)

/-- ITS FALSE NEIGHBOUR: 'it returns false'. Refute it at one input. -/
def keyBacksWrong : ChangeSpec := { name := "keyBacks", fn := fun _ => fun
  | [d1, d2, d3, d4, d5, d6] => { results := [.lit (.bool false)], args := [d1, d2, d3, d4, d5, d6] }
  | _ => none }
def KeyBacksWrongFalsely : Prop := keyBacksRow.holds Try.pinned (OpenSpec.ofChange keyBacksWrong)

/- THE SECOND FORM. 'bulk': how many values and letters a reading holds, each counted each time it is reached (what is shared counts as often as it is met; a slice's spare places count too). A statement '..UptoSaid' is the law's where the arguments, and the package variables that the reading takes, are together of bulk at most 1048576: NARROWER than '..Said'. Prove '..Said' where nothing that the law and all that it calls make is longer than what came in: it says more and counts as full. Else prove '..UptoSaid'. A law counts once. -/
mutual
def uptoBulk {H : Type} : DataW H → Nat
  | .lit (.string bytes) => bytes.length + 1
  | .lit _ => 1
  | .nil => 1
  | .ptr d => uptoBulk d + 1
  | .slice elems spare => uptoBulkAll elems + uptoBulkAll spare + 1
  | .agg parts => uptoBulkAll parts + 1
  | .iface _ d => uptoBulk d + 1
  | .map entries => uptoBulkEntries entries + 1
  | .held _ => 1
def uptoBulkAll {H : Type} : List (DataW H) → Nat
  | [] => 0
  | d :: r => uptoBulk d + uptoBulkAll r
def uptoBulkEntries {H : Type} : List (Lit × DataW H) → Nat
  | [] => 0
  | x :: r => uptoBulkEntry x + uptoBulkEntries r
def uptoBulkEntry {H : Type} : Lit × DataW H → Nat
  | (.string bytes, d) => bytes.length + uptoBulk d + 1
  | (_, d) => uptoBulk d + 1
 end
def uptoSmall : (H : Type) → List (DataW H) → Bool := fun _ ds => decide (uptoBulkAll ds ≤ 1048576)
def OpenSpec.upto (s : _root_.Go.ChangeSpec) : _root_.Go.OpenSpec := { _root_.Go.OpenSpec.ofChange s with cond := some uptoSmall }

/-- 'selfsamelaw06.KeyOf', WHERE WHAT IT READS IS OF BULK AT MOST 1048576: true; the input reads as it did. -/
def keyOfUptoRow : OpenClaim := { program := "ytflmapokljiljaa", sum := "6215ed56c328ccf6c9aea660f57d0162a4ebe7d3cf3126c1fac070414b6b4347", func := "selfsame/selfsamelaw06.KeyOf", spec := "keyOf", unfollowed := true, recurses := true, apart := false, narrowed := true }
def KeyOfUptoSaid : Prop := keyOfUptoRow.holds Try.pinned (OpenSpec.upto keyOfSpec)

/-- 'selfsamelaw06.KeySteps', WHERE WHAT IT READS IS OF BULK AT MOST 1048576: true; the input reads as it did. -/
def keyStepsUptoRow : OpenClaim := { program := "ytflmapokljiljaa", sum := "6215ed56c328ccf6c9aea660f57d0162a4ebe7d3cf3126c1fac070414b6b4347", func := "selfsame/selfsamelaw06.KeySteps", spec := "keySteps", unfollowed := true, recurses := true, apart := false, narrowed := true }
def KeyStepsUptoSaid : Prop := keyStepsUptoRow.holds Try.pinned (OpenSpec.upto keyStepsSpec)

/-- 'selfsamelaw06.KeyMeans', WHERE WHAT IT READS IS OF BULK AT MOST 1048576: true; the input reads as it did. -/
def keyMeansUptoRow : OpenClaim := { program := "ytflmapokljiljaa", sum := "6215ed56c328ccf6c9aea660f57d0162a4ebe7d3cf3126c1fac070414b6b4347", func := "selfsame/selfsamelaw06.KeyMeans", spec := "keyMeans", unfollowed := true, recurses := true, apart := false, narrowed := true }
def KeyMeansUptoSaid : Prop := keyMeansUptoRow.holds Try.pinned (OpenSpec.upto keyMeansSpec)

/-- 'selfsamelaw06.KeyBacks', WHERE WHAT IT READS IS OF BULK AT MOST 1048576: true; the input reads as it did. -/
def keyBacksUptoRow : OpenClaim := { program := "ytflmapokljiljaa", sum := "6215ed56c328ccf6c9aea660f57d0162a4ebe7d3cf3126c1fac070414b6b4347", func := "selfsame/selfsamelaw06.KeyBacks", spec := "keyBacks", unfollowed := true, recurses := true, apart := false, narrowed := true }
def KeyBacksUptoSaid : Prop := keyBacksUptoRow.holds Try.pinned (OpenSpec.upto keyBacksSpec)

end Rows
end Go.Proofs.Ytflmapokljiljaa
