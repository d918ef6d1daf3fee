/-
  No cell of these rows narrows 'for every input' (looked for: loops, veiled, ifaces, maps, wideKeys, modest, calm, conditions, laid).
  DERIVED. THE GIVEN ROWS OF THIS SEAT. 6 by the template 'for every input the law returns true; each argument reads behind the call as it read before'; 0 by the template 'total and deterministic' (their statements: YtfnibpkojhgflaaTotals.lean).
  GIVEN WITH THE SEED: the statements are not yours to turn. If you find one false, say at which input.
  Laid BY PROGRAM, IN A SANDBOX (cutbox-rows.mjs): the forced cells as the released guide's own fill.sh prints them over the translation 0135721df3414b60… (all of the seat's roots in one cut). By AI agents, Wed Nov 11 2026. No macro, syntax, notation, axiom, sorry.
-/
import Derived.Test.YtfnibpkojhgflaaChecked
import GoSem.Claim
import GoSem.ClaimJoined
import GoSem.ClaimMapViews
import Derived.JoinedTies
import Derived.KernelRfl
namespace Go.Proofs.Ytfnibpkojhgflaa
/- THE CELL 'sum', in the pinned program and in every row, IS THE sha256 OF THE DUMP (.gsa) THAT YtfnibpkojhgflaaProg.lean LOADS. Nothing in Lean hashes anything: it is a label: what it is worth is what the hold of that sum in a sandbox is worth. -/
noncomputable def Try.pinned : Pinned := { name := "ytfnibpkojhgflaa", sum := "0135721df3414b60b85d7062e00153eab826cc5e74f8f4448b0bb2189a0a02d9", checked := Try.checked }
namespace Rows
def none {H : Type} : Left H := { results := [], args := [] }

/-- 'selfsamelaw08.SymfileOpens': WHATEVER THE INPUT: true; the input reads as it did. -/
def symfileOpensSpec : ChangeSpec := { name := "symfileOpens", fn := fun _ => fun
  | [d] => { results := [.lit (.bool true)], args := [d] }
  | _ => none }
def symfileOpensRow : OpenClaim := { program := "ytfnibpkojhgflaa", sum := "0135721df3414b60b85d7062e00153eab826cc5e74f8f4448b0bb2189a0a02d9", func := "selfsame/selfsamelaw08.SymfileOpens", spec := "symfileOpens", unfollowed := true, recurses := true, apart := false }
def SymfileOpensSaid : Prop := symfileOpensRow.holds Try.pinned (OpenSpec.ofChange symfileOpensSpec)

/-- ITS FALSE NEIGHBOUR: 'it returns false'. Refute it at one input. -/
def symfileOpensWrong : ChangeSpec := { name := "symfileOpens", fn := fun _ => fun
  | [d] => { results := [.lit (.bool false)], args := [d] }
  | _ => none }
def SymfileOpensWrongFalsely : Prop := symfileOpensRow.holds Try.pinned (OpenSpec.ofChange symfileOpensWrong)

/-- 'selfsamelaw08.SymfileSame': WHATEVER THE INPUT: true; the input reads as it did. -/
def symfileSameSpec : ChangeSpec := { name := "symfileSame", fn := fun _ => fun
  | [d1, d2, d3] => { results := [.lit (.bool true)], args := [d1, d2, d3] }
  | _ => none }
def symfileSameRow : OpenClaim := { program := "ytfnibpkojhgflaa", sum := "0135721df3414b60b85d7062e00153eab826cc5e74f8f4448b0bb2189a0a02d9", func := "selfsame/selfsamelaw08.SymfileSame", spec := "symfileSame", unfollowed := true, recurses := true, apart := false }
def SymfileSameSaid : Prop := symfileSameRow.holds Try.pinned (OpenSpec.ofChange symfileSameSpec)

/-- ITS FALSE NEIGHBOUR: 'it returns false'. Refute it at one input. -/
def symfileSameWrong : ChangeSpec := { name := "symfileSame", fn := fun _ => fun
  | [d1, d2, d3] => { results := [.lit (.bool false)], args := [d1, d2, d3] }
  | _ => none }
def SymfileSameWrongFalsely : Prop := symfileSameRow.holds Try.pinned (OpenSpec.ofChange symfileSameWrong)

/-- 'selfsamelaw08.SymfileReads': WHATEVER THE INPUT: true; the input reads as it did. -/
def symfileReadsSpec : ChangeSpec := { name := "symfileReads", fn := fun _ => fun
  | [d] => { results := [.lit (.bool true)], args := [d] }
  | _ => none }
def symfileReadsRow : OpenClaim := { program := "ytfnibpkojhgflaa", sum := "0135721df3414b60b85d7062e00153eab826cc5e74f8f4448b0bb2189a0a02d9", func := "selfsame/selfsamelaw08.SymfileReads", spec := "symfileReads", unfollowed := true, recurses := true, apart := false }
def SymfileReadsSaid : Prop := symfileReadsRow.holds Try.pinned (OpenSpec.ofChange symfileReadsSpec)

/-- ITS FALSE NEIGHBOUR: 'it returns false'. Refute it at one input. -/
def symfileReadsWrong : ChangeSpec := { name := "symfileReads", fn := fun _ => fun
  | [d] => { results := [.lit (.bool false)], args := [d] }
  | _ => none }
def SymfileReadsWrongFalsely : Prop := symfileReadsRow.holds Try.pinned (OpenSpec.ofChange symfileReadsWrong)

/-- 'selfsamelaw08.SymfileKeys': WHATEVER THE INPUT: true; the input reads as it did. -/
def symfileKeysSpec : ChangeSpec := { name := "symfileKeys", fn := fun _ => fun
  | [d1, d2] => { results := [.lit (.bool true)], args := [d1, d2] }
  | _ => none }
def symfileKeysRow : OpenClaim := { program := "ytfnibpkojhgflaa", sum := "0135721df3414b60b85d7062e00153eab826cc5e74f8f4448b0bb2189a0a02d9", func := "selfsame/selfsamelaw08.SymfileKeys", spec := "symfileKeys", unfollowed := true, recurses := true, apart := false }
def SymfileKeysSaid : Prop := symfileKeysRow.holds Try.pinned (OpenSpec.ofChange symfileKeysSpec)

/-- ITS FALSE NEIGHBOUR: 'it returns false'. Refute it at one input. -/
def symfileKeysWrong : ChangeSpec := { name := "symfileKeys", fn := fun _ => fun
  | [d1, d2] => { results := [.lit (.bool false)], args := [d1, d2] }
  | _ => none }
def SymfileKeysWrongFalsely : Prop := symfileKeysRow.holds Try.pinned (OpenSpec.ofChange symfileKeysWrong)

/-- 'selfsamelaw08.SymfileCuts': WHATEVER THE INPUT: true; the input reads as it did. -/
def symfileCutsSpec : ChangeSpec := { name := "symfileCuts", fn := fun _ => fun
  | [d1, d2, d3] => { results := [.lit (.bool true)], args := [d1, d2, d3] }
  | _ => none }
def symfileCutsRow : OpenClaim := { program := "ytfnibpkojhgflaa", sum := "0135721df3414b60b85d7062e00153eab826cc5e74f8f4448b0bb2189a0a02d9", func := "selfsame/selfsamelaw08.SymfileCuts", spec := "symfileCuts", unfollowed := true, recurses := true, apart := false }
def SymfileCutsSaid : Prop := symfileCutsRow.holds Try.pinned (OpenSpec.ofChange symfileCutsSpec)

/-- ITS FALSE NEIGHBOUR: 'it returns false'. Refute it at one input. -/
def symfileCutsWrong : ChangeSpec := { name := "symfileCuts", fn := fun _ => fun
  | [d1, d2, d3] => { results := [.lit (.bool false)], args := [d1, d2, d3] }
  | _ => none }
def SymfileCutsWrongFalsely : Prop := symfileCutsRow.holds Try.pinned (OpenSpec.ofChange symfileCutsWrong)

/-- 'selfsamelaw08.SymfileBytes': WHATEVER THE INPUT: true; the input reads as it did. -/
def symfileBytesSpec : ChangeSpec := { name := "symfileBytes", fn := fun _ => fun
  | [d] => { results := [.lit (.bool true)], args := [d] }
  | _ => none }
def symfileBytesRow : OpenClaim := { program := "ytfnibpkojhgflaa", sum := "0135721df3414b60b85d7062e00153eab826cc5e74f8f4448b0bb2189a0a02d9", func := "selfsame/selfsamelaw08.SymfileBytes", spec := "symfileBytes", unfollowed := true, recurses := true, apart := false }
def SymfileBytesSaid : Prop := symfileBytesRow.holds Try.pinned (OpenSpec.ofChange symfileBytesSpec)

/-- ITS FALSE NEIGHBOUR: 'it returns false'. Refute it at one input. -/
def symfileBytesWrong : ChangeSpec := { name := "symfileBytes", fn := fun _ => fun
  | [d] => { results := [.lit (.bool false)], args := [d] }
  | _ => none }
def SymfileBytesWrongFalsely : Prop := symfileBytesRow.holds Try.pinned (OpenSpec.ofChange symfileBytesWrong)

/- THE SECOND FORM. 'bulk': how many values and letters a reading holds, each counted each time it is reached (what is shared counts as often as it is met; a slice's spare places count too). A statement '..UptoSaid' is the law's where the arguments, and the package variables that the reading takes, are together of bulk at most 1048576: NARROWER than '..Said'. Prove '..Said' where nothing that the law and all that it calls make is longer than what came in: it says more and counts as full. Else prove '..UptoSaid'. A law counts once. -/
mutual
def uptoBulk {H : Type} : DataW H → Nat
  | .lit (.string bytes) => bytes.length + 1
  | .lit _ => 1
  | .nil => 1
  | .ptr d => uptoBulk d + 1
  | .slice elems spare => uptoBulkAll elems + uptoBulkAll spare + 1
  | .agg parts => uptoBulkAll parts + 1
  | .iface _ d => uptoBulk d + 1
  | .map entries => uptoBulkEntries entries + 1
  | .held _ => 1
def uptoBulkAll {H : Type} : List (DataW H) → Nat
  | [] => 0
  | d :: r => uptoBulk d + uptoBulkAll r
def uptoBulkEntries {H : Type} : List (Lit × DataW H) → Nat
  | [] => 0
  | x :: r => uptoBulkEntry x + uptoBulkEntries r
def uptoBulkEntry {H : Type} : Lit × DataW H → Nat
  | (.string bytes, d) => bytes.length + uptoBulk d + 1
  | (_, d) => uptoBulk d + 1
 end
def uptoSmall : (H : Type) → List (DataW H) → Bool := fun _ ds => decide (uptoBulkAll ds ≤ 1048576)
def OpenSpec.upto (s : _root_.Go.ChangeSpec) : _root_.Go.OpenSpec := { _root_.Go.OpenSpec.ofChange s with cond := some uptoSmall }

/-- 'selfsamelaw08.SymfileOpens', WHERE WHAT IT READS IS OF BULK AT MOST 1048576: true; the input reads as it did. -/
def symfileOpensUptoRow : OpenClaim := { program := "ytfnibpkojhgflaa", sum := "0135721df3414b60b85d7062e00153eab826cc5e74f8f4448b0bb2189a0a02d9", func := "selfsame/selfsamelaw08.SymfileOpens", spec := "symfileOpens", unfollowed := true, recurses := true, apart := false, narrowed := true }
def SymfileOpensUptoSaid : Prop := symfileOpensUptoRow.holds Try.pinned (OpenSpec.upto symfileOpensSpec)

/-- 'selfsamelaw08.SymfileSame', WHERE WHAT IT READS IS OF BULK AT MOST 1048576: true; the input reads as it did. -/
def symfileSameUptoRow : OpenClaim := { program := "ytfnibpkojhgflaa", sum := "0135721df3414b60b85d7062e00153eab826cc5e74f8f4448b0bb2189a0a02d9", func := "selfsame/selfsamelaw08.SymfileSame", spec := "symfileSame", unfollowed := true, recurses := true, apart := false, narrowed := true }
def SymfileSameUptoSaid : Prop := symfileSameUptoRow.holds Try.pinned (OpenSpec.upto symfileSameSpec)

/-- 'selfsamelaw08.SymfileReads', WHERE WHAT IT READS IS OF BULK AT MOST 1048576: true; the input reads as it did. -/
def symfileReadsUptoRow : OpenClaim := { program := "ytfnibpkojhgflaa", sum := "0135721df3414b60b85d7062e00153eab826cc5e74f8f4448b0bb2189a0a02d9", func := "selfsame/selfsamelaw08.SymfileReads", spec := "symfileReads", unfollowed := true, recurses := true, apart := false, narrowed := true }
def SymfileReadsUptoSaid : Prop := symfileReadsUptoRow.holds Try.pinned (OpenSpec.upto symfileReadsSpec)

/-- 'selfsamelaw08.SymfileKeys', WHERE WHAT IT READS IS OF BULK AT MOST 1048576: true; the input reads as it did. -/
def symfileKeysUptoRow : OpenClaim := { program := "ytfnibpkojhgflaa", sum := "0135721df3414b60b85d7062e00153eab826cc5e74f8f4448b0bb2189a0a02d9", func := "selfsame/selfsamelaw08.SymfileKeys", spec := "symfileKeys", unfollowed := true, recurses := true, apart := false, narrowed := true }
def SymfileKeysUptoSaid : Prop := symfileKeysUptoRow.holds Try.pinned (OpenSpec.upto symfileKeysSpec)

/-- 'selfsamelaw08.SymfileCuts', WHERE WHAT IT READS IS OF BULK AT MOST 1048576: true; the input reads as it did. -/
def symfileCutsUptoRow : OpenClaim := { program := "ytfnibpkojhgflaa", sum := "0135721df3414b60b85d7062e00153eab826cc5e74f8f4448b0bb2189a0a02d9", func := "selfsame/selfsamelaw08.SymfileCuts", spec := "symfileCuts", unfollowed := true, recurses := true, apart := false, narrowed := true }
def SymfileCutsUptoSaid : Prop := symfileCutsUptoRow.holds Try.pinned (OpenSpec.upto symfileCutsSpec)

/-- 'selfsamelaw08.SymfileBytes', WHERE WHAT IT READS IS OF BULK AT MOST 1048576: true; the input reads as it did. -/
def symfileBytesUptoRow : OpenClaim := { program := "ytfnibpkojhgflaa", sum := "0135721df3414b60b85d7062e00153eab826cc5e74f8f4448b0bb2189a0a02d9", func := "selfsame/selfsamelaw08.SymfileBytes", spec := "symfileBytes", unfollowed := true, recurses := true, apart := false, narrowed := true }
def SymfileBytesUptoSaid : Prop := symfileBytesUptoRow.holds Try.pinned (OpenSpec.upto symfileBytesSpec)

end Rows
end Go.Proofs.Ytfnibpkojhgflaa
