/-
  No cell of these rows narrows 'for every input' (looked for: loops, veiled, ifaces, maps, wideKeys, modest, calm, conditions, laid).
  DERIVED. THE GIVEN ROWS OF THIS SEAT. 7 by the template 'for every input the law returns true; each argument reads behind the call as it read before'; 0 by the template 'total and deterministic' (their statements: YtdgiijidgjagbaaTotals.lean).
  GIVEN WITH THE SEED: the statements are not yours to turn. If you find one false, say at which input.
  Laid BY PROGRAM, IN A SANDBOX (cutbox-rows.mjs): the forced cells as the released guide's own fill.sh prints them over the translation 7bf4033676ff7c71… (all of the seat's roots in one cut). By AI agents, Wed Nov 11 2026. No macro, syntax, notation, axiom, sorry.
-/
import Derived.Test.YtdgiijidgjagbaaChecked
import GoSem.Claim
import GoSem.ClaimJoined
import GoSem.ClaimMapViews
import Derived.JoinedTies
import Derived.KernelRfl
namespace Go.Proofs.Ytdgiijidgjagbaa
/- THE CELL 'sum', in the pinned program and in every row, IS THE sha256 OF THE DUMP (.gsa) THAT YtdgiijidgjagbaaProg.lean LOADS. Nothing in Lean hashes anything: it is a label: what it is worth is what the hold of that sum in a sandbox is worth. -/
noncomputable def Try.pinned : Pinned := { name := "ytdgiijidgjagbaa", sum := "7bf4033676ff7c714857834f18e3a48b564c8b99ee4b7af340a0d698d08e02f5", checked := Try.checked }
namespace Rows
def none {H : Type} : Left H := { results := [], args := [] }

/-- 'selfsamelaw11.ScanNumbers': WHATEVER THE INPUT: true; the input reads as it did. -/
def scanNumbersSpec : ChangeSpec := { name := "scanNumbers", fn := fun _ => fun
  | [d1, d2] => { results := [.lit (.bool true)], args := [d1, d2] }
  | _ => none }
def scanNumbersRow : OpenClaim := { program := "ytdgiijidgjagbaa", sum := "7bf4033676ff7c714857834f18e3a48b564c8b99ee4b7af340a0d698d08e02f5", func := "selfsame/selfsamelaw11.ScanNumbers", spec := "scanNumbers", inPlace := ["internal/bytealg.IndexByte"], unfollowed := true, recurses := true, apart := false }
def ScanNumbersSaid : Prop := scanNumbersRow.holds Try.pinned (OpenSpec.ofChange scanNumbersSpec)

/-- ITS FALSE NEIGHBOUR: 'it returns false'. Refute it at one input. -/
def scanNumbersWrong : ChangeSpec := { name := "scanNumbers", fn := fun _ => fun
  | [d1, d2] => { results := [.lit (.bool false)], args := [d1, d2] }
  | _ => none }
def ScanNumbersWrongFalsely : Prop := scanNumbersRow.holds Try.pinned (OpenSpec.ofChange scanNumbersWrong)

/-- 'selfsamelaw11.ScanMarks': WHATEVER THE INPUT: true; the input reads as it did. -/
def scanMarksSpec : ChangeSpec := { name := "scanMarks", fn := fun _ => fun
  | [d1, d2, d3, d4, d5, d6] => { results := [.lit (.bool true)], args := [d1, d2, d3, d4, d5, d6] }
  | _ => none }
def scanMarksRow : OpenClaim := { program := "ytdgiijidgjagbaa", sum := "7bf4033676ff7c714857834f18e3a48b564c8b99ee4b7af340a0d698d08e02f5", func := "selfsame/selfsamelaw11.ScanMarks", spec := "scanMarks", inPlace := ["internal/bytealg.IndexByte"], apart := false }
def ScanMarksSaid : Prop := scanMarksRow.holds Try.pinned (OpenSpec.ofChange scanMarksSpec)

/-- ITS FALSE NEIGHBOUR: 'it returns false'. Refute it at one input. -/
def scanMarksWrong : ChangeSpec := { name := "scanMarks", fn := fun _ => fun
  | [d1, d2, d3, d4, d5, d6] => { results := [.lit (.bool false)], args := [d1, d2, d3, d4, d5, d6] }
  | _ => none }
def ScanMarksWrongFalsely : Prop := scanMarksRow.holds Try.pinned (OpenSpec.ofChange scanMarksWrong)

/-- 'selfsamelaw11.ScanEnds': WHATEVER THE INPUT: true; the input reads as it did. -/
def scanEndsSpec : ChangeSpec := { name := "scanEnds", fn := fun _ => fun
  | [d] => { results := [.lit (.bool true)], args := [d] }
  | _ => none }
def scanEndsRow : OpenClaim := { program := "ytdgiijidgjagbaa", sum := "7bf4033676ff7c714857834f18e3a48b564c8b99ee4b7af340a0d698d08e02f5", func := "selfsame/selfsamelaw11.ScanEnds", spec := "scanEnds", inPlace := ["internal/bytealg.IndexByte"], apart := false }
def ScanEndsSaid : Prop := scanEndsRow.holds Try.pinned (OpenSpec.ofChange scanEndsSpec)

/-- ITS FALSE NEIGHBOUR: 'it returns false'. Refute it at one input. -/
def scanEndsWrong : ChangeSpec := { name := "scanEnds", fn := fun _ => fun
  | [d] => { results := [.lit (.bool false)], args := [d] }
  | _ => none }
def ScanEndsWrongFalsely : Prop := scanEndsRow.holds Try.pinned (OpenSpec.ofChange scanEndsWrong)

/-- 'selfsamelaw11.ScanJoins': WHATEVER THE INPUT: true; the input reads as it did. -/
def scanJoinsSpec : ChangeSpec := { name := "scanJoins", fn := fun _ => fun
  | [d1, d2] => { results := [.lit (.bool true)], args := [d1, d2] }
  | _ => none }
def scanJoinsRow : OpenClaim := { program := "ytdgiijidgjagbaa", sum := "7bf4033676ff7c714857834f18e3a48b564c8b99ee4b7af340a0d698d08e02f5", func := "selfsame/selfsamelaw11.ScanJoins", spec := "scanJoins", inPlace := ["internal/bytealg.IndexByte"], apart := false }
def ScanJoinsSaid : Prop := scanJoinsRow.holds Try.pinned (OpenSpec.ofChange scanJoinsSpec)

/-- ITS FALSE NEIGHBOUR: 'it returns false'. Refute it at one input. -/
def scanJoinsWrong : ChangeSpec := { name := "scanJoins", fn := fun _ => fun
  | [d1, d2] => { results := [.lit (.bool false)], args := [d1, d2] }
  | _ => none }
def ScanJoinsWrongFalsely : Prop := scanJoinsRow.holds Try.pinned (OpenSpec.ofChange scanJoinsWrong)

/-- 'selfsamelaw11.ScanReads': WHATEVER THE INPUT: true; the input reads as it did. -/
def scanReadsSpec : ChangeSpec := { name := "scanReads", fn := fun _ => fun
  | [d] => { results := [.lit (.bool true)], args := [d] }
  | _ => none }
def scanReadsRow : OpenClaim := { program := "ytdgiijidgjagbaa", sum := "7bf4033676ff7c714857834f18e3a48b564c8b99ee4b7af340a0d698d08e02f5", func := "selfsame/selfsamelaw11.ScanReads", spec := "scanReads", inPlace := ["internal/bytealg.IndexByte"], apart := false }
def ScanReadsSaid : Prop := scanReadsRow.holds Try.pinned (OpenSpec.ofChange scanReadsSpec)

/-- ITS FALSE NEIGHBOUR: 'it returns false'. Refute it at one input. -/
def scanReadsWrong : ChangeSpec := { name := "scanReads", fn := fun _ => fun
  | [d] => { results := [.lit (.bool false)], args := [d] }
  | _ => none }
def ScanReadsWrongFalsely : Prop := scanReadsRow.holds Try.pinned (OpenSpec.ofChange scanReadsWrong)

/-- 'selfsamelaw11.ScanInterns': WHATEVER THE INPUT: true; the input reads as it did. -/
def scanInternsSpec : ChangeSpec := { name := "scanInterns", fn := fun _ => fun
  | [d] => { results := [.lit (.bool true)], args := [d] }
  | _ => none }
def scanInternsRow : OpenClaim := { program := "ytdgiijidgjagbaa", sum := "7bf4033676ff7c714857834f18e3a48b564c8b99ee4b7af340a0d698d08e02f5", func := "selfsame/selfsamelaw11.ScanInterns", spec := "scanInterns", inPlace := ["internal/bytealg.IndexByte"], apart := false }
def ScanInternsSaid : Prop := scanInternsRow.holds Try.pinned (OpenSpec.ofChange scanInternsSpec)

/-- ITS FALSE NEIGHBOUR: 'it returns false'. Refute it at one input. -/
def scanInternsWrong : ChangeSpec := { name := "scanInterns", fn := fun _ => fun
  | [d] => { results := [.lit (.bool false)], args := [d] }
  | _ => none }
def ScanInternsWrongFalsely : Prop := scanInternsRow.holds Try.pinned (OpenSpec.ofChange scanInternsWrong)

/-- 'selfsamelaw11.ScanNil': WHATEVER THE INPUT: true; the input reads as it did. -/
def scanNilSpec : ChangeSpec := { name := "scanNil", fn := fun _ => fun
  | [] => { results := [.lit (.bool true)], args := [] }
  | _ => none }
def scanNilRow : OpenClaim := { program := "ytdgiijidgjagbaa", sum := "7bf4033676ff7c714857834f18e3a48b564c8b99ee4b7af340a0d698d08e02f5", func := "selfsame/selfsamelaw11.ScanNil", spec := "scanNil", inPlace := ["internal/bytealg.IndexByte"], apart := false }
def ScanNilSaid : Prop := scanNilRow.holds Try.pinned (OpenSpec.ofChange scanNilSpec)

/-- ITS FALSE NEIGHBOUR: 'it returns false'. Refute it at one input. -/
def scanNilWrong : ChangeSpec := { name := "scanNil", fn := fun _ => fun
  | [] => { results := [.lit (.bool false)], args := [] }
  | _ => none }
def ScanNilWrongFalsely : Prop := scanNilRow.holds Try.pinned (OpenSpec.ofChange scanNilWrong)

/- THE SECOND FORM. 'bulk': how many values and letters a reading holds, each counted each time it is reached (what is shared counts as often as it is met; a slice's spare places count too). A statement '..UptoSaid' is the law's where the arguments, and the package variables that the reading takes, are together of bulk at most 1048576: NARROWER than '..Said'. Prove '..Said' where nothing that the law and all that it calls make is longer than what came in: it says more and counts as full. Else prove '..UptoSaid'. A law counts once. -/
mutual
def uptoBulk {H : Type} : DataW H → Nat
  | .lit (.string bytes) => bytes.length + 1
  | .lit _ => 1
  | .nil => 1
  | .ptr d => uptoBulk d + 1
  | .slice elems spare => uptoBulkAll elems + uptoBulkAll spare + 1
  | .agg parts => uptoBulkAll parts + 1
  | .iface _ d => uptoBulk d + 1
  | .map entries => uptoBulkEntries entries + 1
  | .held _ => 1
def uptoBulkAll {H : Type} : List (DataW H) → Nat
  | [] => 0
  | d :: r => uptoBulk d + uptoBulkAll r
def uptoBulkEntries {H : Type} : List (Lit × DataW H) → Nat
  | [] => 0
  | x :: r => uptoBulkEntry x + uptoBulkEntries r
def uptoBulkEntry {H : Type} : Lit × DataW H → Nat
  | (.string bytes, d) => bytes.length + uptoBulk d + 1
  | (_, d) => uptoBulk d + 1
 end
def uptoSmall : (H : Type) → List (DataW H) → Bool := fun _ ds => decide (uptoBulkAll ds ≤ 1048576)
def OpenSpec.upto (s : _root_.Go.ChangeSpec) : _root_.Go.OpenSpec := { _root_.Go.OpenSpec.ofChange s with cond := some uptoSmall }

/-- 'selfsamelaw11.ScanNumbers', WHERE WHAT IT READS IS OF BULK AT MOST 1048576: true; the input reads as it did. -/
def scanNumbersUptoRow : OpenClaim := { program := "ytdgiijidgjagbaa", sum := "7bf4033676ff7c714857834f18e3a48b564c8b99ee4b7af340a0d698d08e02f5", func := "selfsame/selfsamelaw11.ScanNumbers", spec := "scanNumbers", inPlace := ["internal/bytealg.IndexByte"], unfollowed := true, recurses := true, apart := false, narrowed := true }
def ScanNumbersUptoSaid : Prop := scanNumbersUptoRow.holds Try.pinned (OpenSpec.upto scanNumbersSpec)

/-- 'selfsamelaw11.ScanMarks', WHERE WHAT IT READS IS OF BULK AT MOST 1048576: true; the input reads as it did. -/
def scanMarksUptoRow : OpenClaim := { program := "ytdgiijidgjagbaa", sum := "7bf4033676ff7c714857834f18e3a48b564c8b99ee4b7af340a0d698d08e02f5", func := "selfsame/selfsamelaw11.ScanMarks", spec := "scanMarks", inPlace := ["internal/bytealg.IndexByte"], apart := false, narrowed := true }
def ScanMarksUptoSaid : Prop := scanMarksUptoRow.holds Try.pinned (OpenSpec.upto scanMarksSpec)

/-- 'selfsamelaw11.ScanEnds', WHERE WHAT IT READS IS OF BULK AT MOST 1048576: true; the input reads as it did. -/
def scanEndsUptoRow : OpenClaim := { program := "ytdgiijidgjagbaa", sum := "7bf4033676ff7c714857834f18e3a48b564c8b99ee4b7af340a0d698d08e02f5", func := "selfsame/selfsamelaw11.ScanEnds", spec := "scanEnds", inPlace := ["internal/bytealg.IndexByte"], apart := false, narrowed := true }
def ScanEndsUptoSaid : Prop := scanEndsUptoRow.holds Try.pinned (OpenSpec.upto scanEndsSpec)

/-- 'selfsamelaw11.ScanJoins', WHERE WHAT IT READS IS OF BULK AT MOST 1048576: true; the input reads as it did. -/
def scanJoinsUptoRow : OpenClaim := { program := "ytdgiijidgjagbaa", sum := "7bf4033676ff7c714857834f18e3a48b564c8b99ee4b7af340a0d698d08e02f5", func := "selfsame/selfsamelaw11.ScanJoins", spec := "scanJoins", inPlace := ["internal/bytealg.IndexByte"], apart := false, narrowed := true }
def ScanJoinsUptoSaid : Prop := scanJoinsUptoRow.holds Try.pinned (OpenSpec.upto scanJoinsSpec)

/-- 'selfsamelaw11.ScanReads', WHERE WHAT IT READS IS OF BULK AT MOST 1048576: true; the input reads as it did. -/
def scanReadsUptoRow : OpenClaim := { program := "ytdgiijidgjagbaa", sum := "7bf4033676ff7c714857834f18e3a48b564c8b99ee4b7af340a0d698d08e02f5", func := "selfsame/selfsamelaw11.ScanReads", spec := "scanReads", inPlace := ["internal/bytealg.IndexByte"], apart := false, narrowed := true }
def ScanReadsUptoSaid : Prop := scanReadsUptoRow.holds Try.pinned (OpenSpec.upto scanReadsSpec)

/-- 'selfsamelaw11.ScanInterns', WHERE WHAT IT READS IS OF BULK AT MOST 1048576: true; the input reads as it did. -/
def scanInternsUptoRow : OpenClaim := { program := "ytdgiijidgjagbaa", sum := "7bf4033676ff7c714857834f18e3a48b564c8b99ee4b7af340a0d698d08e02f5", func := "selfsame/selfsamelaw11.ScanInterns", spec := "scanInterns", inPlace := ["internal/bytealg.IndexByte"], apart := false, narrowed := true }
def ScanInternsUptoSaid : Prop := scanInternsUptoRow.holds Try.pinned (OpenSpec.upto scanInternsSpec)

/-- 'selfsamelaw11.ScanNil', WHERE WHAT IT READS IS OF BULK AT MOST 1048576: true; the input reads as it did. -/
def scanNilUptoRow : OpenClaim := { program := "ytdgiijidgjagbaa", sum := "7bf4033676ff7c714857834f18e3a48b564c8b99ee4b7af340a0d698d08e02f5", func := "selfsame/selfsamelaw11.ScanNil", spec := "scanNil", inPlace := ["internal/bytealg.IndexByte"], apart := false, narrowed := true }
def ScanNilUptoSaid : Prop := scanNilUptoRow.holds Try.pinned (OpenSpec.upto scanNilSpec)

end Rows
end Go.Proofs.Ytdgiijidgjagbaa
