/-
  No cell of these rows narrows 'for every input' (looked for: loops, veiled, ifaces, maps, wideKeys, modest, calm, conditions, laid).
  DERIVED. THE GIVEN ROWS OF THIS SEAT. 7 by the template 'for every input the law returns true; each argument reads behind the call as it read before'; 0 by the template 'total and deterministic' (their statements: YtkeaogphaifnmaaTotals.lean).
  GIVEN WITH THE SEED: the statements are not yours to turn. If you find one false, say at which input.
  Laid BY PROGRAM, IN A SANDBOX (cutbox-rows.mjs): the forced cells as the released guide's own fill.sh prints them over the translation e6afe6fb35aca569… (all of the seat's roots in one cut). By AI agents, Wed Nov 11 2026. No macro, syntax, notation, axiom, sorry.
-/
import Derived.Test.YtkeaogphaifnmaaChecked
import GoSem.Claim
import GoSem.ClaimJoined
import GoSem.ClaimMapViews
import Derived.JoinedTies
import Derived.KernelRfl
namespace Go.Proofs.Ytkeaogphaifnmaa
/- THE CELL 'sum', in the pinned program and in every row, IS THE sha256 OF THE DUMP (.gsa) THAT YtkeaogphaifnmaaProg.lean LOADS. Nothing in Lean hashes anything: it is a label: what it is worth is what the hold of that sum in a sandbox is worth. -/
noncomputable def Try.pinned : Pinned := { name := "ytkeaogphaifnmaa", sum := "e6afe6fb35aca5691132b5c478a04e65f3871cb4ae7888c78d03ce14cbb9dff2", checked := Try.checked }
namespace Rows
def none {H : Type} : Left H := { results := [], args := [] }

/-- 'selfsamelaw04.RiscSteps': WHATEVER THE INPUT: true; the input reads as it did. -/
def riscStepsSpec : ChangeSpec := { name := "riscSteps", fn := fun _ => fun
  | [d1, d2] => { results := [.lit (.bool true)], args := [d1, d2] }
  | _ => none }
def riscStepsRow : OpenClaim := { program := "ytkeaogphaifnmaa", sum := "e6afe6fb35aca5691132b5c478a04e65f3871cb4ae7888c78d03ce14cbb9dff2", func := "selfsame/selfsamelaw04.RiscSteps", spec := "riscSteps", apart := false }
def RiscStepsSaid : Prop := riscStepsRow.holds Try.pinned (OpenSpec.ofChange riscStepsSpec)

/-- ITS FALSE NEIGHBOUR: 'it returns false'. Refute it at one input. -/
def riscStepsWrong : ChangeSpec := { name := "riscSteps", fn := fun _ => fun
  | [d1, d2] => { results := [.lit (.bool false)], args := [d1, d2] }
  | _ => none }
def RiscStepsWrongFalsely : Prop := riscStepsRow.holds Try.pinned (OpenSpec.ofChange riscStepsWrong)

/-- 'selfsamelaw04.RiscMeans': WHATEVER THE INPUT: true; the input reads as it did. -/
def riscMeansSpec : ChangeSpec := { name := "riscMeans", fn := fun _ => fun
  | [d1, d2] => { results := [.lit (.bool true)], args := [d1, d2] }
  | _ => none }
def riscMeansRow : OpenClaim := { program := "ytkeaogphaifnmaa", sum := "e6afe6fb35aca5691132b5c478a04e65f3871cb4ae7888c78d03ce14cbb9dff2", func := "selfsame/selfsamelaw04.RiscMeans", spec := "riscMeans", apart := false }
def RiscMeansSaid : Prop := riscMeansRow.holds Try.pinned (OpenSpec.ofChange riscMeansSpec)

/-- ITS FALSE NEIGHBOUR: 'it returns false'. Refute it at one input. -/
def riscMeansWrong : ChangeSpec := { name := "riscMeans", fn := fun _ => fun
  | [d1, d2] => { results := [.lit (.bool false)], args := [d1, d2] }
  | _ => none }
def RiscMeansWrongFalsely : Prop := riscMeansRow.holds Try.pinned (OpenSpec.ofChange riscMeansWrong)

/-- 'selfsamelaw04.RiscOrders': WHATEVER THE INPUT: true; the input reads as it did. -/
def riscOrdersSpec : ChangeSpec := { name := "riscOrders", fn := fun _ => fun
  | [d1, d2, d3] => { results := [.lit (.bool true)], args := [d1, d2, d3] }
  | _ => none }
def riscOrdersRow : OpenClaim := { program := "ytkeaogphaifnmaa", sum := "e6afe6fb35aca5691132b5c478a04e65f3871cb4ae7888c78d03ce14cbb9dff2", func := "selfsame/selfsamelaw04.RiscOrders", spec := "riscOrders", apart := false }
def RiscOrdersSaid : Prop := riscOrdersRow.holds Try.pinned (OpenSpec.ofChange riscOrdersSpec)

/-- ITS FALSE NEIGHBOUR: 'it returns false'. Refute it at one input. -/
def riscOrdersWrong : ChangeSpec := { name := "riscOrders", fn := fun _ => fun
  | [d1, d2, d3] => { results := [.lit (.bool false)], args := [d1, d2, d3] }
  | _ => none }
def RiscOrdersWrongFalsely : Prop := riscOrdersRow.holds Try.pinned (OpenSpec.ofChange riscOrdersWrong)

/-- 'selfsamelaw04.RiscReturns': WHATEVER THE INPUT: true; the input reads as it did. -/
def riscReturnsSpec : ChangeSpec := { name := "riscReturns", fn := fun _ => fun
  | [d1, d2] => { results := [.lit (.bool true)], args := [d1, d2] }
  | _ => none }
def riscReturnsRow : OpenClaim := { program := "ytkeaogphaifnmaa", sum := "e6afe6fb35aca5691132b5c478a04e65f3871cb4ae7888c78d03ce14cbb9dff2", func := "selfsame/selfsamelaw04.RiscReturns", spec := "riscReturns", apart := false }
def RiscReturnsSaid : Prop := riscReturnsRow.holds Try.pinned (OpenSpec.ofChange riscReturnsSpec)

/-- ITS FALSE NEIGHBOUR: 'it returns false'. Refute it at one input. -/
def riscReturnsWrong : ChangeSpec := { name := "riscReturns", fn := fun _ => fun
  | [d1, d2] => { results := [.lit (.bool false)], args := [d1, d2] }
  | _ => none }
def RiscReturnsWrongFalsely : Prop := riscReturnsRow.holds Try.pinned (OpenSpec.ofChange riscReturnsWrong)

/-- 'selfsamelaw04.RiscWide': WHATEVER THE INPUT: true; the input reads as it did. -/
def riscWideSpec : ChangeSpec := { name := "riscWide", fn := fun _ => fun
  | [d1, d2, d3] => { results := [.lit (.bool true)], args := [d1, d2, d3] }
  | _ => none }
def riscWideRow : OpenClaim := { program := "ytkeaogphaifnmaa", sum := "e6afe6fb35aca5691132b5c478a04e65f3871cb4ae7888c78d03ce14cbb9dff2", func := "selfsame/selfsamelaw04.RiscWide", spec := "riscWide", apart := false }
def RiscWideSaid : Prop := riscWideRow.holds Try.pinned (OpenSpec.ofChange riscWideSpec)

/-- ITS FALSE NEIGHBOUR: 'it returns false'. Refute it at one input. -/
def riscWideWrong : ChangeSpec := { name := "riscWide", fn := fun _ => fun
  | [d1, d2, d3] => { results := [.lit (.bool false)], args := [d1, d2, d3] }
  | _ => none }
def RiscWideWrongFalsely : Prop := riscWideRow.holds Try.pinned (OpenSpec.ofChange riscWideWrong)

/-- 'selfsamelaw04.RiscNumbers': WHATEVER THE INPUT: true; the input reads as it did. -/
def riscNumbersSpec : ChangeSpec := { name := "riscNumbers", fn := fun _ => fun
  | [d1, d2, d3] => { results := [.lit (.bool true)], args := [d1, d2, d3] }
  | _ => none }
def riscNumbersRow : OpenClaim := { program := "ytkeaogphaifnmaa", sum := "e6afe6fb35aca5691132b5c478a04e65f3871cb4ae7888c78d03ce14cbb9dff2", func := "selfsame/selfsamelaw04.RiscNumbers", spec := "riscNumbers", apart := false }
def RiscNumbersSaid : Prop := riscNumbersRow.holds Try.pinned (OpenSpec.ofChange riscNumbersSpec)

/-- ITS FALSE NEIGHBOUR: 'it returns false'. Refute it at one input. -/
def riscNumbersWrong : ChangeSpec := { name := "riscNumbers", fn := fun _ => fun
  | [d1, d2, d3] => { results := [.lit (.bool false)], args := [d1, d2, d3] }
  | _ => none }
def RiscNumbersWrongFalsely : Prop := riscNumbersRow.holds Try.pinned (OpenSpec.ofChange riscNumbersWrong)

/-- 'selfsamelaw04.RiscLooks': WHATEVER THE INPUT: true; the input reads as it did. -/
def riscLooksSpec : ChangeSpec := { name := "riscLooks", fn := fun _ => fun
  | [d1, d2, d3, d4] => { results := [.lit (.bool true)], args := [d1, d2, d3, d4] }
  | _ => none }
def riscLooksRow : OpenClaim := { program := "ytkeaogphaifnmaa", sum := "e6afe6fb35aca5691132b5c478a04e65f3871cb4ae7888c78d03ce14cbb9dff2", func := "selfsame/selfsamelaw04.RiscLooks", spec := "riscLooks", apart := false }
def RiscLooksSaid : Prop := riscLooksRow.holds Try.pinned (OpenSpec.ofChange riscLooksSpec)

/-- ITS FALSE NEIGHBOUR: 'it returns false'. Refute it at one input. -/
def riscLooksWrong : ChangeSpec := { name := "riscLooks", fn := fun _ => fun
  | [d1, d2, d3, d4] => { results := [.lit (.bool false)], args := [d1, d2, d3, d4] }
  | _ => none }
def RiscLooksWrongFalsely : Prop := riscLooksRow.holds Try.pinned (OpenSpec.ofChange riscLooksWrong)

/- THE SECOND FORM. 'bulk': how many values and letters a reading holds, each counted each time it is reached (what is shared counts as often as it is met; a slice's spare places count too). A statement '..UptoSaid' is the law's where the arguments, and the package variables that the reading takes, are together of bulk at most 1048576: NARROWER than '..Said'. Prove '..Said' where nothing that the law and all that it calls make is longer than what came in: it says more and counts as full. Else prove '..UptoSaid'. A law counts once. -/
mutual
def uptoBulk {H : Type} : DataW H → Nat
  | .lit (.string bytes) => bytes.length + 1
  | .lit _ => 1
  | .nil => 1
  | .ptr d => uptoBulk d + 1
  | .slice elems spare => uptoBulkAll elems + uptoBulkAll spare + 1
  | .agg parts => uptoBulkAll parts + 1
  | .iface _ d => uptoBulk d + 1
  | .map entries => uptoBulkEntries entries + 1
  | .held _ => 1
def uptoBulkAll {H : Type} : List (DataW H) → Nat
  | [] => 0
  | d :: r => uptoBulk d + uptoBulkAll r
def uptoBulkEntries {H : Type} : List (Lit × DataW H) → Nat
  | [] => 0
  | x :: r => uptoBulkEntry x + uptoBulkEntries r
def uptoBulkEntry {H : Type} : Lit × DataW H → Nat
  | (.string bytes, d) => bytes.length + uptoBulk d + 1
  | (_, d) => uptoBulk d + 1
 end
def uptoSmall : (H : Type) → List (DataW H) → Bool := fun _ ds => decide (uptoBulkAll ds ≤ 1048576)
def OpenSpec.upto (s : _root_.Go.ChangeSpec) : _root_.Go.OpenSpec := { _root_.Go.OpenSpec.ofChange s with cond := some uptoSmall }

/-- 'selfsamelaw04.RiscSteps', WHERE WHAT IT READS IS OF BULK AT MOST 1048576: true; the input reads as it did. -/
def riscStepsUptoRow : OpenClaim := { program := "ytkeaogphaifnmaa", sum := "e6afe6fb35aca5691132b5c478a04e65f3871cb4ae7888c78d03ce14cbb9dff2", func := "selfsame/selfsamelaw04.RiscSteps", spec := "riscSteps", apart := false, narrowed := true }
def RiscStepsUptoSaid : Prop := riscStepsUptoRow.holds Try.pinned (OpenSpec.upto riscStepsSpec)

/-- 'selfsamelaw04.RiscMeans', WHERE WHAT IT READS IS OF BULK AT MOST 1048576: true; the input reads as it did. -/
def riscMeansUptoRow : OpenClaim := { program := "ytkeaogphaifnmaa", sum := "e6afe6fb35aca5691132b5c478a04e65f3871cb4ae7888c78d03ce14cbb9dff2", func := "selfsame/selfsamelaw04.RiscMeans", spec := "riscMeans", apart := false, narrowed := true }
def RiscMeansUptoSaid : Prop := riscMeansUptoRow.holds Try.pinned (OpenSpec.upto riscMeansSpec)

/-- 'selfsamelaw04.RiscOrders', WHERE WHAT IT READS IS OF BULK AT MOST 1048576: true; the input reads as it did. -/
def riscOrdersUptoRow : OpenClaim := { program := "ytkeaogphaifnmaa", sum := "e6afe6fb35aca5691132b5c478a04e65f3871cb4ae7888c78d03ce14cbb9dff2", func := "selfsame/selfsamelaw04.RiscOrders", spec := "riscOrders", apart := false, narrowed := true }
def RiscOrdersUptoSaid : Prop := riscOrdersUptoRow.holds Try.pinned (OpenSpec.upto riscOrdersSpec)

/-- 'selfsamelaw04.RiscReturns', WHERE WHAT IT READS IS OF BULK AT MOST 1048576: true; the input reads as it did. -/
def riscReturnsUptoRow : OpenClaim := { program := "ytkeaogphaifnmaa", sum := "e6afe6fb35aca5691132b5c478a04e65f3871cb4ae7888c78d03ce14cbb9dff2", func := "selfsame/selfsamelaw04.RiscReturns", spec := "riscReturns", apart := false, narrowed := true }
def RiscReturnsUptoSaid : Prop := riscReturnsUptoRow.holds Try.pinned (OpenSpec.upto riscReturnsSpec)

/-- 'selfsamelaw04.RiscWide', WHERE WHAT IT READS IS OF BULK AT MOST 1048576: true; the input reads as it did. -/
def riscWideUptoRow : OpenClaim := { program := "ytkeaogphaifnmaa", sum := "e6afe6fb35aca5691132b5c478a04e65f3871cb4ae7888c78d03ce14cbb9dff2", func := "selfsame/selfsamelaw04.RiscWide", spec := "riscWide", apart := false, narrowed := true }
def RiscWideUptoSaid : Prop := riscWideUptoRow.holds Try.pinned (OpenSpec.upto riscWideSpec)

/-- 'selfsamelaw04.RiscNumbers', WHERE WHAT IT READS IS OF BULK AT MOST 1048576: true; the input reads as it did. -/
def riscNumbersUptoRow : OpenClaim := { program := "ytkeaogphaifnmaa", sum := "e6afe6fb35aca5691132b5c478a04e65f3871cb4ae7888c78d03ce14cbb9dff2", func := "selfsame/selfsamelaw04.RiscNumbers", spec := "riscNumbers", apart := false, narrowed := true }
def RiscNumbersUptoSaid : Prop := riscNumbersUptoRow.holds Try.pinned (OpenSpec.upto riscNumbersSpec)

/-- 'selfsamelaw04.RiscLooks', WHERE WHAT IT READS IS OF BULK AT MOST 1048576: true; the input reads as it did. -/
def riscLooksUptoRow : OpenClaim := { program := "ytkeaogphaifnmaa", sum := "e6afe6fb35aca5691132b5c478a04e65f3871cb4ae7888c78d03ce14cbb9dff2", func := "selfsame/selfsamelaw04.RiscLooks", spec := "riscLooks", apart := false, narrowed := true }
def RiscLooksUptoSaid : Prop := riscLooksUptoRow.holds Try.pinned (OpenSpec.upto riscLooksSpec)

end Rows
end Go.Proofs.Ytkeaogphaifnmaa
