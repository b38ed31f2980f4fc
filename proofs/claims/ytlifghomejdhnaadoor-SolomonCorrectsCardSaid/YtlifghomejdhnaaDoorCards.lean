/-
  DERIVED. GIVEN WITH THE SEED: THE CARDS: each row of YtlifghomejdhnaaDoorRows.lean that lists a variable, with what it lists TIED to the program's text (the seventh form; the later family's looks); each row that meets fmt, with fmt's text TOLD by the authors' own Lean function (tested against real Go, not proved from fmt's source: count such statements apart). THE CARD IS WHAT COUNTS. Prove the row's statement (the work); the ties are given (YtlifghomejdhnaaDoorTie.lean); close each card by the builder's one call (the guide's Derived/Test/ToyasCard.lean, 'card_holds'). Laid BY PROGRAM, IN A SANDBOX (cutbox-door.mjs). By AI agents, Wed Nov 11 2026. No macro, syntax, notation, axiom, sorry.
-/
import Derived.Test.YtlifghomejdhnaaDoorRows
import GoSem.ClaimSeven
namespace Go.Proofs.YtlifghomejdhnaaDoor
namespace Rows

/-- THE TIED CARD OF 'letterbaglaw19.SolomonApart'. -/
def solomonApartCard : Claim7 := { stood := { row := solomonApartRow, standIns := [], harness := (true, "2e93b3e33662c35d7e5c602c0156a14caaef17ef4239b05fc63134fd35ca95f9"), looks := false }, kinds := [], alts := [], laidByText := true, laidKinds := [.widerDeep], laidTests := true, laidLooks := .later }
def SolomonApartCardSaid : Prop := Claim7.holds Tryd.pinned (.plain (OpenSpec.ofChange solomonApartSpec)) solomonApartCard

/-- THE TIED CARD OF 'letterbaglaw19.SolomonTells'. -/
def solomonTellsCard : Claim7 := { stood := { row := solomonTellsRow, standIns := [], harness := (true, "2e93b3e33662c35d7e5c602c0156a14caaef17ef4239b05fc63134fd35ca95f9"), looks := false }, kinds := [], alts := [], laidByText := true, laidKinds := [.widerDeep], laidTests := true, laidLooks := .later }
def SolomonTellsCardSaid : Prop := Claim7.holds Tryd.pinned (.plain (OpenSpec.ofChange solomonTellsSpec)) solomonTellsCard

/-- THE TIED CARD OF 'letterbaglaw19.SolomonCorrects'. -/
def solomonCorrectsCard : Claim7 := { stood := { row := solomonCorrectsRow, standIns := [], harness := (true, "2e93b3e33662c35d7e5c602c0156a14caaef17ef4239b05fc63134fd35ca95f9"), looks := false }, kinds := [], alts := [], laidByText := true, laidKinds := [.widerDeep], laidTests := true, laidLooks := .later }
def SolomonCorrectsCardSaid : Prop := Claim7.holds Tryd.pinned (.plain (OpenSpec.ofChange solomonCorrectsSpec)) solomonCorrectsCard

/-- THE TIED CARD OF 'letterbaglaw19.SolomonWithin'. -/
def solomonWithinCard : Claim7 := { stood := { row := solomonWithinRow, standIns := [], harness := (true, "2e93b3e33662c35d7e5c602c0156a14caaef17ef4239b05fc63134fd35ca95f9"), looks := false }, kinds := [], alts := [], laidByText := true, laidKinds := [.widerDeep], laidTests := true, laidLooks := .later }
def SolomonWithinCardSaid : Prop := Claim7.holds Tryd.pinned (.plain (OpenSpec.ofChange solomonWithinSpec)) solomonWithinCard

/-- THE TIED CARD OF 'letterbaglaw19.SolomonSums'. -/
def solomonSumsCard : Claim7 := { stood := { row := solomonSumsRow, standIns := [], harness := (true, "2e93b3e33662c35d7e5c602c0156a14caaef17ef4239b05fc63134fd35ca95f9"), looks := false }, kinds := [], alts := [], laidByText := true, laidKinds := [.widerDeep], laidTests := true, laidLooks := .later }
def SolomonSumsCardSaid : Prop := Claim7.holds Tryd.pinned (.plain (OpenSpec.ofChange solomonSumsSpec)) solomonSumsCard

/-- THE TIED CARD OF 'letterbaglaw19.SolomonWrong'. -/
def solomonWrongCard : Claim7 := { stood := { row := solomonWrongRow, standIns := [], harness := (true, "2e93b3e33662c35d7e5c602c0156a14caaef17ef4239b05fc63134fd35ca95f9"), looks := false }, kinds := [], alts := [], laidByText := true, laidKinds := [.widerDeep], laidTests := true, laidLooks := .later }
def SolomonWrongCardSaid : Prop := Claim7.holds Tryd.pinned (.plain (OpenSpec.ofChange solomonWrongSpec)) solomonWrongCard

/-- THE SECOND FORM's CARD OF 'letterbaglaw19.SolomonApart'. -/
def solomonApartUptoCard : Claim7 := { stood := { row := solomonApartUptoRow, standIns := [], harness := (true, "2e93b3e33662c35d7e5c602c0156a14caaef17ef4239b05fc63134fd35ca95f9"), looks := false }, kinds := [], alts := [], laidByText := true, laidKinds := [.widerDeep], laidTests := true, laidLooks := .later }
def SolomonApartUptoCardSaid : Prop := Claim7.holds Tryd.pinned (.plain (OpenSpec.upto solomonApartSpec)) solomonApartUptoCard

/-- THE SECOND FORM's CARD OF 'letterbaglaw19.SolomonTells'. -/
def solomonTellsUptoCard : Claim7 := { stood := { row := solomonTellsUptoRow, standIns := [], harness := (true, "2e93b3e33662c35d7e5c602c0156a14caaef17ef4239b05fc63134fd35ca95f9"), looks := false }, kinds := [], alts := [], laidByText := true, laidKinds := [.widerDeep], laidTests := true, laidLooks := .later }
def SolomonTellsUptoCardSaid : Prop := Claim7.holds Tryd.pinned (.plain (OpenSpec.upto solomonTellsSpec)) solomonTellsUptoCard

/-- THE SECOND FORM's CARD OF 'letterbaglaw19.SolomonCorrects'. -/
def solomonCorrectsUptoCard : Claim7 := { stood := { row := solomonCorrectsUptoRow, standIns := [], harness := (true, "2e93b3e33662c35d7e5c602c0156a14caaef17ef4239b05fc63134fd35ca95f9"), looks := false }, kinds := [], alts := [], laidByText := true, laidKinds := [.widerDeep], laidTests := true, laidLooks := .later }
def SolomonCorrectsUptoCardSaid : Prop := Claim7.holds Tryd.pinned (.plain (OpenSpec.upto solomonCorrectsSpec)) solomonCorrectsUptoCard

/-- THE SECOND FORM's CARD OF 'letterbaglaw19.SolomonWithin'. -/
def solomonWithinUptoCard : Claim7 := { stood := { row := solomonWithinUptoRow, standIns := [], harness := (true, "2e93b3e33662c35d7e5c602c0156a14caaef17ef4239b05fc63134fd35ca95f9"), looks := false }, kinds := [], alts := [], laidByText := true, laidKinds := [.widerDeep], laidTests := true, laidLooks := .later }
def SolomonWithinUptoCardSaid : Prop := Claim7.holds Tryd.pinned (.plain (OpenSpec.upto solomonWithinSpec)) solomonWithinUptoCard

/-- THE SECOND FORM's CARD OF 'letterbaglaw19.SolomonSums'. -/
def solomonSumsUptoCard : Claim7 := { stood := { row := solomonSumsUptoRow, standIns := [], harness := (true, "2e93b3e33662c35d7e5c602c0156a14caaef17ef4239b05fc63134fd35ca95f9"), looks := false }, kinds := [], alts := [], laidByText := true, laidKinds := [.widerDeep], laidTests := true, laidLooks := .later }
def SolomonSumsUptoCardSaid : Prop := Claim7.holds Tryd.pinned (.plain (OpenSpec.upto solomonSumsSpec)) solomonSumsUptoCard

/-- THE SECOND FORM's CARD OF 'letterbaglaw19.SolomonWrong'. -/
def solomonWrongUptoCard : Claim7 := { stood := { row := solomonWrongUptoRow, standIns := [], harness := (true, "2e93b3e33662c35d7e5c602c0156a14caaef17ef4239b05fc63134fd35ca95f9"), looks := false }, kinds := [], alts := [], laidByText := true, laidKinds := [.widerDeep], laidTests := true, laidLooks := .later }
def SolomonWrongUptoCardSaid : Prop := Claim7.holds Tryd.pinned (.plain (OpenSpec.upto solomonWrongSpec)) solomonWrongUptoCard
end Rows
end Go.Proofs.YtlifghomejdhnaaDoor
