/-
  DERIVED. GIVEN WITH THE SEED: THE CARDS: each row of YtomenhpdkghlgaaDoorRows.lean that lists a variable, with what it lists TIED to the program's text (the seventh form; the later family's looks); each row that meets fmt, with fmt's text TOLD by the authors' own Lean function (tested against real Go, not proved from fmt's source: count such statements apart). THE CARD IS WHAT COUNTS. Prove the row's statement (the work); the ties are given (YtomenhpdkghlgaaDoorTie.lean); close each card by the builder's one call (the guide's Derived/Test/ToyasCard.lean, 'card_holds'). Laid BY PROGRAM, IN A SANDBOX (cutbox-door.mjs). By AI agents, Wed Nov 11 2026. No macro, syntax, notation, axiom, sorry.
-/
import Derived.Test.YtomenhpdkghlgaaDoorRows
import GoSem.ClaimSeven
namespace Go.Proofs.YtomenhpdkghlgaaDoor
namespace Rows

/-- THE TIED CARD OF 'selfsamelaw01.WordSums'. -/
def wordSumsCard : Claim7 := { stood := { row := wordSumsRow, standIns := [], harness := (true, "99f454efa25ad69081c578c558d4785a3b4bf5dc9dd7d22b021741b9ac05b3cf"), looks := true }, kinds := [], alts := [], laidByText := true, laidKinds := [.data, .data, .data, .sentinel, .sentinel], laidTests := true, laidLooks := .later }
def WordSumsCardSaid : Prop := Claim7.holds Tryd.pinned (.plain (OpenSpec.ofChange wordSumsSpec)) wordSumsCard

/-- THE TIED CARD OF 'selfsamelaw01.WordWide'. -/
def wordWideCard : Claim7 := { stood := { row := wordWideRow, standIns := [], harness := (true, "99f454efa25ad69081c578c558d4785a3b4bf5dc9dd7d22b021741b9ac05b3cf"), looks := true }, kinds := [], alts := [], laidByText := true, laidKinds := [.data, .data, .data, .sentinel, .sentinel], laidTests := true, laidLooks := .later }
def WordWideCardSaid : Prop := Claim7.holds Tryd.pinned (.plain (OpenSpec.ofChange wordWideSpec)) wordWideCard

/-- THE TIED CARD OF 'selfsamelaw01.WordDivides'. -/
def wordDividesCard : Claim7 := { stood := { row := wordDividesRow, standIns := [], harness := (true, "99f454efa25ad69081c578c558d4785a3b4bf5dc9dd7d22b021741b9ac05b3cf"), looks := true }, kinds := [], alts := [], laidByText := true, laidKinds := [.data, .data, .data, .sentinel, .sentinel], laidTests := true, laidLooks := .later }
def WordDividesCardSaid : Prop := Claim7.holds Tryd.pinned (.plain (OpenSpec.ofChange wordDividesSpec)) wordDividesCard

/-- THE TIED CARD OF 'selfsamelaw01.WordProducts'. -/
def wordProductsCard : Claim7 := { stood := { row := wordProductsRow, standIns := [], harness := (true, "99f454efa25ad69081c578c558d4785a3b4bf5dc9dd7d22b021741b9ac05b3cf"), looks := true }, kinds := [], alts := [], laidByText := true, laidKinds := [.data, .data, .data, .sentinel, .sentinel], laidTests := true, laidLooks := .later }
def WordProductsCardSaid : Prop := Claim7.holds Tryd.pinned (.plain (OpenSpec.ofChange wordProductsSpec)) wordProductsCard

/-- THE TIED CARD OF 'selfsamelaw01.WordShifts'. -/
def wordShiftsCard : Claim7 := { stood := { row := wordShiftsRow, standIns := [], harness := (true, "99f454efa25ad69081c578c558d4785a3b4bf5dc9dd7d22b021741b9ac05b3cf"), looks := true }, kinds := [], alts := [], laidByText := true, laidKinds := [.data, .data, .data, .sentinel, .sentinel], laidTests := true, laidLooks := .later }
def WordShiftsCardSaid : Prop := Claim7.holds Tryd.pinned (.plain (OpenSpec.ofChange wordShiftsSpec)) wordShiftsCard

/-- THE TIED CARD OF 'selfsamelaw01.WordTurns'. -/
def wordTurnsCard : Claim7 := { stood := { row := wordTurnsRow, standIns := [], harness := (true, "99f454efa25ad69081c578c558d4785a3b4bf5dc9dd7d22b021741b9ac05b3cf"), looks := true }, kinds := [], alts := [], laidByText := true, laidKinds := [.data, .data, .data, .sentinel, .sentinel], laidTests := true, laidLooks := .later }
def WordTurnsCardSaid : Prop := Claim7.holds Tryd.pinned (.plain (OpenSpec.ofChange wordTurnsSpec)) wordTurnsCard

/-- THE TIED CARD OF 'selfsamelaw01.WordBytes'. -/
def wordBytesCard : Claim7 := { stood := { row := wordBytesRow, standIns := [], harness := (true, "99f454efa25ad69081c578c558d4785a3b4bf5dc9dd7d22b021741b9ac05b3cf"), looks := true }, kinds := [], alts := [], laidByText := true, laidKinds := [.data, .data, .data, .sentinel, .sentinel], laidTests := true, laidLooks := .later }
def WordBytesCardSaid : Prop := Claim7.holds Tryd.pinned (.plain (OpenSpec.ofChange wordBytesSpec)) wordBytesCard

/-- THE TIED CARD OF 'selfsamelaw01.WordTexts'. -/
def wordTextsCard : Claim7 := { stood := { row := wordTextsRow, standIns := [], harness := (true, "99f454efa25ad69081c578c558d4785a3b4bf5dc9dd7d22b021741b9ac05b3cf"), looks := true }, kinds := [], alts := [], laidByText := true, laidKinds := [.data, .data, .data, .sentinel, .sentinel], laidTests := true, laidLooks := .later }
def WordTextsCardSaid : Prop := Claim7.holds Tryd.pinned (.plain (OpenSpec.ofChange wordTextsSpec)) wordTextsCard

/-- THE TIED CARD OF 'selfsamelaw01.WordMeans'. -/
def wordMeansCard : Claim7 := { stood := { row := wordMeansRow, standIns := [], harness := (true, "99f454efa25ad69081c578c558d4785a3b4bf5dc9dd7d22b021741b9ac05b3cf"), looks := true }, kinds := [], alts := [], laidByText := true, laidKinds := [.data, .data, .data, .sentinel, .sentinel], laidTests := true, laidLooks := .later }
def WordMeansCardSaid : Prop := Claim7.holds Tryd.pinned (.plain (OpenSpec.ofChange wordMeansSpec)) wordMeansCard

/-- THE SECOND FORM's CARD OF 'selfsamelaw01.WordSums'. -/
def wordSumsUptoCard : Claim7 := { stood := { row := wordSumsUptoRow, standIns := [], harness := (true, "99f454efa25ad69081c578c558d4785a3b4bf5dc9dd7d22b021741b9ac05b3cf"), looks := true }, kinds := [], alts := [], laidByText := true, laidKinds := [.data, .data, .data, .sentinel, .sentinel], laidTests := true, laidLooks := .later }
def WordSumsUptoCardSaid : Prop := Claim7.holds Tryd.pinned (.plain (OpenSpec.upto wordSumsSpec)) wordSumsUptoCard

/-- THE SECOND FORM's CARD OF 'selfsamelaw01.WordWide'. -/
def wordWideUptoCard : Claim7 := { stood := { row := wordWideUptoRow, standIns := [], harness := (true, "99f454efa25ad69081c578c558d4785a3b4bf5dc9dd7d22b021741b9ac05b3cf"), looks := true }, kinds := [], alts := [], laidByText := true, laidKinds := [.data, .data, .data, .sentinel, .sentinel], laidTests := true, laidLooks := .later }
def WordWideUptoCardSaid : Prop := Claim7.holds Tryd.pinned (.plain (OpenSpec.upto wordWideSpec)) wordWideUptoCard

/-- THE SECOND FORM's CARD OF 'selfsamelaw01.WordDivides'. -/
def wordDividesUptoCard : Claim7 := { stood := { row := wordDividesUptoRow, standIns := [], harness := (true, "99f454efa25ad69081c578c558d4785a3b4bf5dc9dd7d22b021741b9ac05b3cf"), looks := true }, kinds := [], alts := [], laidByText := true, laidKinds := [.data, .data, .data, .sentinel, .sentinel], laidTests := true, laidLooks := .later }
def WordDividesUptoCardSaid : Prop := Claim7.holds Tryd.pinned (.plain (OpenSpec.upto wordDividesSpec)) wordDividesUptoCard

/-- THE SECOND FORM's CARD OF 'selfsamelaw01.WordProducts'. -/
def wordProductsUptoCard : Claim7 := { stood := { row := wordProductsUptoRow, standIns := [], harness := (true, "99f454efa25ad69081c578c558d4785a3b4bf5dc9dd7d22b021741b9ac05b3cf"), looks := true }, kinds := [], alts := [], laidByText := true, laidKinds := [.data, .data, .data, .sentinel, .sentinel], laidTests := true, laidLooks := .later }
def WordProductsUptoCardSaid : Prop := Claim7.holds Tryd.pinned (.plain (OpenSpec.upto wordProductsSpec)) wordProductsUptoCard

/-- THE SECOND FORM's CARD OF 'selfsamelaw01.WordShifts'. -/
def wordShiftsUptoCard : Claim7 := { stood := { row := wordShiftsUptoRow, standIns := [], harness := (true, "99f454efa25ad69081c578c558d4785a3b4bf5dc9dd7d22b021741b9ac05b3cf"), looks := true }, kinds := [], alts := [], laidByText := true, laidKinds := [.data, .data, .data, .sentinel, .sentinel], laidTests := true, laidLooks := .later }
def WordShiftsUptoCardSaid : Prop := Claim7.holds Tryd.pinned (.plain (OpenSpec.upto wordShiftsSpec)) wordShiftsUptoCard

/-- THE SECOND FORM's CARD OF 'selfsamelaw01.WordTurns'. -/
def wordTurnsUptoCard : Claim7 := { stood := { row := wordTurnsUptoRow, standIns := [], harness := (true, "99f454efa25ad69081c578c558d4785a3b4bf5dc9dd7d22b021741b9ac05b3cf"), looks := true }, kinds := [], alts := [], laidByText := true, laidKinds := [.data, .data, .data, .sentinel, .sentinel], laidTests := true, laidLooks := .later }
def WordTurnsUptoCardSaid : Prop := Claim7.holds Tryd.pinned (.plain (OpenSpec.upto wordTurnsSpec)) wordTurnsUptoCard

/-- THE SECOND FORM's CARD OF 'selfsamelaw01.WordBytes'. -/
def wordBytesUptoCard : Claim7 := { stood := { row := wordBytesUptoRow, standIns := [], harness := (true, "99f454efa25ad69081c578c558d4785a3b4bf5dc9dd7d22b021741b9ac05b3cf"), looks := true }, kinds := [], alts := [], laidByText := true, laidKinds := [.data, .data, .data, .sentinel, .sentinel], laidTests := true, laidLooks := .later }
def WordBytesUptoCardSaid : Prop := Claim7.holds Tryd.pinned (.plain (OpenSpec.upto wordBytesSpec)) wordBytesUptoCard

/-- THE SECOND FORM's CARD OF 'selfsamelaw01.WordTexts'. -/
def wordTextsUptoCard : Claim7 := { stood := { row := wordTextsUptoRow, standIns := [], harness := (true, "99f454efa25ad69081c578c558d4785a3b4bf5dc9dd7d22b021741b9ac05b3cf"), looks := true }, kinds := [], alts := [], laidByText := true, laidKinds := [.data, .data, .data, .sentinel, .sentinel], laidTests := true, laidLooks := .later }
def WordTextsUptoCardSaid : Prop := Claim7.holds Tryd.pinned (.plain (OpenSpec.upto wordTextsSpec)) wordTextsUptoCard

/-- THE SECOND FORM's CARD OF 'selfsamelaw01.WordMeans'. -/
def wordMeansUptoCard : Claim7 := { stood := { row := wordMeansUptoRow, standIns := [], harness := (true, "99f454efa25ad69081c578c558d4785a3b4bf5dc9dd7d22b021741b9ac05b3cf"), looks := true }, kinds := [], alts := [], laidByText := true, laidKinds := [.data, .data, .data, .sentinel, .sentinel], laidTests := true, laidLooks := .later }
def WordMeansUptoCardSaid : Prop := Claim7.holds Tryd.pinned (.plain (OpenSpec.upto wordMeansSpec)) wordMeansUptoCard
end Rows
end Go.Proofs.YtomenhpdkghlgaaDoor
