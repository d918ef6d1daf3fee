/-
  DERIVED. GIVEN WITH THE SEED: THE CARDS: each row of YtmnmbpenonodiaaDoorRows.lean that lists a variable, with what it lists TIED to the program's text (the seventh form; the later family's looks); each row that meets fmt, with fmt's text TOLD by the authors' own Lean function (tested against real Go, not proved from fmt's source: count such statements apart). THE CARD IS WHAT COUNTS. Prove the row's statement (the work); the ties are given (YtmnmbpenonodiaaDoorTie.lean); close each card by the builder's one call (the guide's Derived/Test/ToyasCard.lean, 'card_holds'). Laid BY PROGRAM, IN A SANDBOX (cutbox-door.mjs). By AI agents, Wed Nov 11 2026. No macro, syntax, notation, axiom, sorry.
-/
import Derived.Test.YtmnmbpenonodiaaDoorRows
import GoSem.ClaimSeven
namespace Go.Proofs.YtmnmbpenonodiaaDoor
namespace Rows

/-- THE TIED CARD OF 'selfsamelaw03.IsaNames'. -/
def isaNamesCard : Claim7 := { stood := { row := isaNamesRow, standIns := [], harness := (true, "fc2dbf3b184a677be6627017990879322cdf911fb83ed51adadb82f1bc7e4c53"), looks := false }, kinds := [], alts := [], laidByText := true, laidKinds := [.data, .data, .data], laidTests := true, laidLooks := .later }
def IsaNamesCardSaid : Prop := Claim7.holds Tryd.pinned (.plain (OpenSpec.ofChange isaNamesSpec)) isaNamesCard

/-- THE TIED CARD OF 'selfsamelaw03.IsaValues'. -/
def isaValuesCard : Claim7 := { stood := { row := isaValuesRow, standIns := [], harness := (true, "fc2dbf3b184a677be6627017990879322cdf911fb83ed51adadb82f1bc7e4c53"), looks := false }, kinds := [], alts := [], laidByText := true, laidKinds := [.data, .data, .data], laidTests := true, laidLooks := .later }
def IsaValuesCardSaid : Prop := Claim7.holds Tryd.pinned (.plain (OpenSpec.ofChange isaValuesSpec)) isaValuesCard

/-- THE TIED CARD OF 'selfsamelaw03.IsaReads'. -/
def isaReadsCard : Claim7 := { stood := { row := isaReadsRow, standIns := [], harness := (true, "fc2dbf3b184a677be6627017990879322cdf911fb83ed51adadb82f1bc7e4c53"), looks := false }, kinds := [], alts := [], laidByText := true, laidKinds := [.data, .data, .data], laidTests := true, laidLooks := .later }
def IsaReadsCardSaid : Prop := Claim7.holds Tryd.pinned (.plain (OpenSpec.ofChange isaReadsSpec)) isaReadsCard

/-- THE TIED CARD OF 'selfsamelaw03.IsaMeans'. -/
def isaMeansCard : Claim7 := { stood := { row := isaMeansRow, standIns := [], harness := (true, "fc2dbf3b184a677be6627017990879322cdf911fb83ed51adadb82f1bc7e4c53"), looks := false }, kinds := [], alts := [], laidByText := true, laidKinds := [.data, .data, .data], laidTests := true, laidLooks := .later }
def IsaMeansCardSaid : Prop := Claim7.holds Tryd.pinned (.plain (OpenSpec.ofChange isaMeansSpec)) isaMeansCard

/-- THE TIED CARD OF 'selfsamelaw03.IsaParts'. -/
def isaPartsCard : Claim7 := { stood := { row := isaPartsRow, standIns := [], harness := (true, "fc2dbf3b184a677be6627017990879322cdf911fb83ed51adadb82f1bc7e4c53"), looks := false }, kinds := [], alts := [], laidByText := true, laidKinds := [.data, .data, .data], laidTests := true, laidLooks := .later }
def IsaPartsCardSaid : Prop := Claim7.holds Tryd.pinned (.plain (OpenSpec.ofChange isaPartsSpec)) isaPartsCard

/-- THE SECOND FORM's CARD OF 'selfsamelaw03.IsaNames'. -/
def isaNamesUptoCard : Claim7 := { stood := { row := isaNamesUptoRow, standIns := [], harness := (true, "fc2dbf3b184a677be6627017990879322cdf911fb83ed51adadb82f1bc7e4c53"), looks := false }, kinds := [], alts := [], laidByText := true, laidKinds := [.data, .data, .data], laidTests := true, laidLooks := .later }
def IsaNamesUptoCardSaid : Prop := Claim7.holds Tryd.pinned (.plain (OpenSpec.upto isaNamesSpec)) isaNamesUptoCard

/-- THE SECOND FORM's CARD OF 'selfsamelaw03.IsaValues'. -/
def isaValuesUptoCard : Claim7 := { stood := { row := isaValuesUptoRow, standIns := [], harness := (true, "fc2dbf3b184a677be6627017990879322cdf911fb83ed51adadb82f1bc7e4c53"), looks := false }, kinds := [], alts := [], laidByText := true, laidKinds := [.data, .data, .data], laidTests := true, laidLooks := .later }
def IsaValuesUptoCardSaid : Prop := Claim7.holds Tryd.pinned (.plain (OpenSpec.upto isaValuesSpec)) isaValuesUptoCard

/-- THE SECOND FORM's CARD OF 'selfsamelaw03.IsaReads'. -/
def isaReadsUptoCard : Claim7 := { stood := { row := isaReadsUptoRow, standIns := [], harness := (true, "fc2dbf3b184a677be6627017990879322cdf911fb83ed51adadb82f1bc7e4c53"), looks := false }, kinds := [], alts := [], laidByText := true, laidKinds := [.data, .data, .data], laidTests := true, laidLooks := .later }
def IsaReadsUptoCardSaid : Prop := Claim7.holds Tryd.pinned (.plain (OpenSpec.upto isaReadsSpec)) isaReadsUptoCard

/-- THE SECOND FORM's CARD OF 'selfsamelaw03.IsaMeans'. -/
def isaMeansUptoCard : Claim7 := { stood := { row := isaMeansUptoRow, standIns := [], harness := (true, "fc2dbf3b184a677be6627017990879322cdf911fb83ed51adadb82f1bc7e4c53"), looks := false }, kinds := [], alts := [], laidByText := true, laidKinds := [.data, .data, .data], laidTests := true, laidLooks := .later }
def IsaMeansUptoCardSaid : Prop := Claim7.holds Tryd.pinned (.plain (OpenSpec.upto isaMeansSpec)) isaMeansUptoCard

/-- THE SECOND FORM's CARD OF 'selfsamelaw03.IsaParts'. -/
def isaPartsUptoCard : Claim7 := { stood := { row := isaPartsUptoRow, standIns := [], harness := (true, "fc2dbf3b184a677be6627017990879322cdf911fb83ed51adadb82f1bc7e4c53"), looks := false }, kinds := [], alts := [], laidByText := true, laidKinds := [.data, .data, .data], laidTests := true, laidLooks := .later }
def IsaPartsUptoCardSaid : Prop := Claim7.holds Tryd.pinned (.plain (OpenSpec.upto isaPartsSpec)) isaPartsUptoCard
end Rows
end Go.Proofs.YtmnmbpenonodiaaDoor
