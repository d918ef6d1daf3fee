/-
  No cell of these rows narrows 'for every input' (looked for: loops, veiled, ifaces, maps, wideKeys, modest, calm, conditions, laid).
  DERIVED. THE GIVEN ROWS OF THIS SEAT. 4 by the template 'for every input the law returns true; each argument reads behind the call as it read before'; 0 by the template 'total and deterministic' (their statements: YtgcjdkgeiopllaaTotals.lean).
  GIVEN WITH THE SEED: the statements are not yours to turn. If you find one false, say at which input.
  Laid BY PROGRAM, IN A SANDBOX (cutbox-rows.mjs): the forced cells as the released guide's own fill.sh prints them over the translation 38c0a7534d2fea3a… (all of the seat's roots in one cut). By AI agents, Wed Nov 11 2026. No macro, syntax, notation, axiom, sorry.
-/
import Derived.Test.YtgcjdkgeiopllaaChecked
import GoSem.Claim
import GoSem.ClaimJoined
import GoSem.ClaimMapViews
import Derived.JoinedTies
import Derived.KernelRfl
namespace Go.Proofs.Ytgcjdkgeiopllaa
/- THE CELL 'sum', in the pinned program and in every row, IS THE sha256 OF THE DUMP (.gsa) THAT YtgcjdkgeiopllaaProg.lean LOADS. Nothing in Lean hashes anything: it is a label: what it is worth is what the hold of that sum in a sandbox is worth. -/
noncomputable def Try.pinned : Pinned := { name := "ytgcjdkgeiopllaa", sum := "38c0a7534d2fea3ab0a144ee37aada3865c0d7e0b174d94fe93357ba2e5a594c", checked := Try.checked }
namespace Rows
def none {H : Type} : Left H := { results := [], args := [] }

/-- 'selfsamelaw20.FaceThree': WHATEVER THE INPUT: true; the input reads as it did. -/
def faceThreeSpec : ChangeSpec := { name := "faceThree", fn := fun _ => fun
  | [d1, d2, d3] => { results := [.lit (.bool true)], args := [d1, d2, d3] }
  | _ => none }
def faceThreeRow : OpenClaim := { program := "ytgcjdkgeiopllaa", sum := "38c0a7534d2fea3ab0a144ee37aada3865c0d7e0b174d94fe93357ba2e5a594c", func := "selfsame/selfsamelaw20.FaceThree", spec := "faceThree", unfollowed := true, recurses := true, plainKeys := false, apart := false }
def FaceThreeSaid : Prop := faceThreeRow.holds Try.pinned (OpenSpec.ofChange faceThreeSpec)

/-- ITS FALSE NEIGHBOUR: 'it returns false'. Refute it at one input. -/
def faceThreeWrong : ChangeSpec := { name := "faceThree", fn := fun _ => fun
  | [d1, d2, d3] => { results := [.lit (.bool false)], args := [d1, d2, d3] }
  | _ => none }
def FaceThreeWrongFalsely : Prop := faceThreeRow.holds Try.pinned (OpenSpec.ofChange faceThreeWrong)

/-- 'selfsamelaw20.FaceChanges': WHATEVER THE INPUT: true; the input reads as it did. -/
def faceChangesSpec : ChangeSpec := { name := "faceChanges", fn := fun _ => fun
  | [d1, d2, d3] => { results := [.lit (.bool true)], args := [d1, d2, d3] }
  | _ => none }
def faceChangesRow : OpenClaim := { program := "ytgcjdkgeiopllaa", sum := "38c0a7534d2fea3ab0a144ee37aada3865c0d7e0b174d94fe93357ba2e5a594c", func := "selfsame/selfsamelaw20.FaceChanges", spec := "faceChanges", unfollowed := true, recurses := true, plainKeys := false, apart := false }
def FaceChangesSaid : Prop := faceChangesRow.holds Try.pinned (OpenSpec.ofChange faceChangesSpec)

/-- ITS FALSE NEIGHBOUR: 'it returns false'. Refute it at one input. -/
def faceChangesWrong : ChangeSpec := { name := "faceChanges", fn := fun _ => fun
  | [d1, d2, d3] => { results := [.lit (.bool false)], args := [d1, d2, d3] }
  | _ => none }
def FaceChangesWrongFalsely : Prop := faceChangesRow.holds Try.pinned (OpenSpec.ofChange faceChangesWrong)

/-- 'selfsamelaw20.FaceShows': WHATEVER THE INPUT: true; the input reads as it did. -/
def faceShowsSpec : ChangeSpec := { name := "faceShows", fn := fun _ => fun
  | [d1, d2, d3, d4] => { results := [.lit (.bool true)], args := [d1, d2, d3, d4] }
  | _ => none }
def faceShowsRow : OpenClaim := { program := "ytgcjdkgeiopllaa", sum := "38c0a7534d2fea3ab0a144ee37aada3865c0d7e0b174d94fe93357ba2e5a594c", func := "selfsame/selfsamelaw20.FaceShows", spec := "faceShows", unfollowed := true, recurses := true, plainKeys := false, apart := false }
def FaceShowsSaid : Prop := faceShowsRow.holds Try.pinned (OpenSpec.ofChange faceShowsSpec)

/-- ITS FALSE NEIGHBOUR: 'it returns false'. Refute it at one input. -/
def faceShowsWrong : ChangeSpec := { name := "faceShows", fn := fun _ => fun
  | [d1, d2, d3, d4] => { results := [.lit (.bool false)], args := [d1, d2, d3, d4] }
  | _ => none }
def FaceShowsWrongFalsely : Prop := faceShowsRow.holds Try.pinned (OpenSpec.ofChange faceShowsWrong)

/-- 'selfsamelaw20.FaceMeans': WHATEVER THE INPUT: true; the input reads as it did. -/
def faceMeansSpec : ChangeSpec := { name := "faceMeans", fn := fun _ => fun
  | [d1, d2] => { results := [.lit (.bool true)], args := [d1, d2] }
  | _ => none }
def faceMeansRow : OpenClaim := { program := "ytgcjdkgeiopllaa", sum := "38c0a7534d2fea3ab0a144ee37aada3865c0d7e0b174d94fe93357ba2e5a594c", func := "selfsame/selfsamelaw20.FaceMeans", spec := "faceMeans", unfollowed := true, recurses := true, plainKeys := false, apart := false }
def FaceMeansSaid : Prop := faceMeansRow.holds Try.pinned (OpenSpec.ofChange faceMeansSpec)

/-- ITS FALSE NEIGHBOUR: 'it returns false'. Refute it at one input. -/
def faceMeansWrong : ChangeSpec := { name := "faceMeans", fn := fun _ => fun
  | [d1, d2] => { results := [.lit (.bool false)], args := [d1, d2] }
  | _ => none }
def FaceMeansWrongFalsely : Prop := faceMeansRow.holds Try.pinned (OpenSpec.ofChange faceMeansWrong)

/- THE SECOND FORM. 'bulk': how many values and letters a reading holds, each counted each time it is reached (what is shared counts as often as it is met; a slice's spare places count too). A statement '..UptoSaid' is the law's where the arguments, and the package variables that the reading takes, are together of bulk at most 1048576: NARROWER than '..Said'. Prove '..Said' where nothing that the law and all that it calls make is longer than what came in: it says more and counts as full. Else prove '..UptoSaid'. A law counts once. -/
mutual
def uptoBulk {H : Type} : DataW H → Nat
  | .lit (.string bytes) => bytes.length + 1
  | .lit _ => 1
  | .nil => 1
  | .ptr d => uptoBulk d + 1
  | .slice elems spare => uptoBulkAll elems + uptoBulkAll spare + 1
  | .agg parts => uptoBulkAll parts + 1
  | .iface _ d => uptoBulk d + 1
  | .map entries => uptoBulkEntries entries + 1
  | .held _ => 1
def uptoBulkAll {H : Type} : List (DataW H) → Nat
  | [] => 0
  | d :: r => uptoBulk d + uptoBulkAll r
def uptoBulkEntries {H : Type} : List (Lit × DataW H) → Nat
  | [] => 0
  | x :: r => uptoBulkEntry x + uptoBulkEntries r
def uptoBulkEntry {H : Type} : Lit × DataW H → Nat
  | (.string bytes, d) => bytes.length + uptoBulk d + 1
  | (_, d) => uptoBulk d + 1
 end
def uptoSmall : (H : Type) → List (DataW H) → Bool := fun _ ds => decide (uptoBulkAll ds ≤ 1048576)
def OpenSpec.upto (s : _root_.Go.ChangeSpec) : _root_.Go.OpenSpec := { _root_.Go.OpenSpec.ofChange s with cond := some uptoSmall }

/-- 'selfsamelaw20.FaceThree', WHERE WHAT IT READS IS OF BULK AT MOST 1048576: true; the input reads as it did. -/
def faceThreeUptoRow : OpenClaim := { program := "ytgcjdkgeiopllaa", sum := "38c0a7534d2fea3ab0a144ee37aada3865c0d7e0b174d94fe93357ba2e5a594c", func := "selfsame/selfsamelaw20.FaceThree", spec := "faceThree", unfollowed := true, recurses := true, plainKeys := false, apart := false, narrowed := true }
def FaceThreeUptoSaid : Prop := faceThreeUptoRow.holds Try.pinned (OpenSpec.upto faceThreeSpec)

/-- 'selfsamelaw20.FaceChanges', WHERE WHAT IT READS IS OF BULK AT MOST 1048576: true; the input reads as it did. -/
def faceChangesUptoRow : OpenClaim := { program := "ytgcjdkgeiopllaa", sum := "38c0a7534d2fea3ab0a144ee37aada3865c0d7e0b174d94fe93357ba2e5a594c", func := "selfsame/selfsamelaw20.FaceChanges", spec := "faceChanges", unfollowed := true, recurses := true, plainKeys := false, apart := false, narrowed := true }
def FaceChangesUptoSaid : Prop := faceChangesUptoRow.holds Try.pinned (OpenSpec.upto faceChangesSpec)

/-- 'selfsamelaw20.FaceShows', WHERE WHAT IT READS IS OF BULK AT MOST 1048576: true; the input reads as it did. -/
def faceShowsUptoRow : OpenClaim := { program := "ytgcjdkgeiopllaa", sum := "38c0a7534d2fea3ab0a144ee37aada3865c0d7e0b174d94fe93357ba2e5a594c", func := "selfsame/selfsamelaw20.FaceShows", spec := "faceShows", unfollowed := true, recurses := true, plainKeys := false, apart := false, narrowed := true }
def FaceShowsUptoSaid : Prop := faceShowsUptoRow.holds Try.pinned (OpenSpec.upto faceShowsSpec)

/-- 'selfsamelaw20.FaceMeans', WHERE WHAT IT READS IS OF BULK AT MOST 1048576: true; the input reads as it did. -/
def faceMeansUptoRow : OpenClaim := { program := "ytgcjdkgeiopllaa", sum := "38c0a7534d2fea3ab0a144ee37aada3865c0d7e0b174d94fe93357ba2e5a594c", func := "selfsame/selfsamelaw20.FaceMeans", spec := "faceMeans", unfollowed := true, recurses := true, plainKeys := false, apart := false, narrowed := true }
def FaceMeansUptoSaid : Prop := faceMeansUptoRow.holds Try.pinned (OpenSpec.upto faceMeansSpec)

end Rows
end Go.Proofs.Ytgcjdkgeiopllaa
