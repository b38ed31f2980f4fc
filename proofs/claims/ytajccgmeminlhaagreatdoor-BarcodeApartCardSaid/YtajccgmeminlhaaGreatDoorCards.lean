/-
  DERIVED. GIVEN WITH THE SEED: THE CARDS: each row of YtajccgmeminlhaaGreatDoorRows.lean that lists a variable, with what it lists TIED to the program's text (the seventh form; the later family's looks); each row that meets fmt, with fmt's text TOLD by the authors' own Lean function (tested against real Go, not proved from fmt's source: count such statements apart). THE CARD IS WHAT COUNTS. Prove the row's statement (the work); the ties are given (YtajccgmeminlhaaGreatDoorTie.lean); close each card by the builder's one call (the guide's Derived/Test/ToyasCard.lean, 'card_holds'). Laid BY PROGRAM, IN A SANDBOX (cutbox-door.mjs). By AI agents, Wed Nov 11 2026. No macro, syntax, notation, axiom, sorry.
-/
import Derived.Test.YtajccgmeminlhaaGreatDoorRows
import GoSem.ClaimSeven
namespace Go.Proofs.YtajccgmeminlhaaGreatDoor
namespace Rows

/-- THE TIED CARD OF 'letterbaglaw22.BarcodeScans'. -/
def barcodeScansCard : Claim7 := { stood := { row := barcodeScansRow, standIns := [], harness := (true, "159c32919ecd06ca35abc2039bae873d86cdf79d6bea98df7294d834dc11af17"), looks := false }, kinds := [], alts := [], laidByText := true, laidKinds := [.widerDeep, .data], laidTests := true, laidLooks := .later }
def BarcodeScansCardSaid : Prop := Claim7.holds Tryz.pinned (.plain (OpenSpec.ofChange barcodeScansSpec)) barcodeScansCard

/-- THE TIED CARD OF 'letterbaglaw22.BarcodeMeasured'. -/
def barcodeMeasuredCard : Claim7 := { stood := { row := barcodeMeasuredRow, standIns := [], harness := (true, "159c32919ecd06ca35abc2039bae873d86cdf79d6bea98df7294d834dc11af17"), looks := false }, kinds := [], alts := [], laidByText := true, laidKinds := [.widerDeep, .data], laidTests := true, laidLooks := .later }
def BarcodeMeasuredCardSaid : Prop := Claim7.holds Tryz.pinned (.plain (OpenSpec.ofChange barcodeMeasuredSpec)) barcodeMeasuredCard

/-- THE TIED CARD OF 'letterbaglaw22.BarcodeTells'. -/
def barcodeTellsCard : Claim7 := { stood := { row := barcodeTellsRow, standIns := [], harness := (true, "159c32919ecd06ca35abc2039bae873d86cdf79d6bea98df7294d834dc11af17"), looks := false }, kinds := [], alts := [], laidByText := true, laidKinds := [.widerDeep], laidTests := true, laidLooks := .later }
def BarcodeTellsCardSaid : Prop := Claim7.holds Tryz.pinned (.plain (OpenSpec.ofChange barcodeTellsSpec)) barcodeTellsCard

/-- THE TIED CARD OF 'letterbaglaw22.BarcodeReads'. -/
def barcodeReadsCard : Claim7 := { stood := { row := barcodeReadsRow, standIns := [], harness := (true, "159c32919ecd06ca35abc2039bae873d86cdf79d6bea98df7294d834dc11af17"), looks := false }, kinds := [], alts := [], laidByText := true, laidKinds := [.widerDeep], laidTests := true, laidLooks := .later }
def BarcodeReadsCardSaid : Prop := Claim7.holds Tryz.pinned (.plain (OpenSpec.ofChange barcodeReadsSpec)) barcodeReadsCard

/-- THE TIED CARD OF 'letterbaglaw22.BarcodeNear'. -/
def barcodeNearCard : Claim7 := { stood := { row := barcodeNearRow, standIns := [], harness := (true, "159c32919ecd06ca35abc2039bae873d86cdf79d6bea98df7294d834dc11af17"), looks := false }, kinds := [], alts := [], laidByText := true, laidKinds := [.widerDeep], laidTests := true, laidLooks := .later }
def BarcodeNearCardSaid : Prop := Claim7.holds Tryz.pinned (.plain (OpenSpec.ofChange barcodeNearSpec)) barcodeNearCard

/-- THE TIED CARD OF 'letterbaglaw22.BarcodeApart'. -/
def barcodeApartCard : Claim7 := { stood := { row := barcodeApartRow, standIns := [], harness := (true, "159c32919ecd06ca35abc2039bae873d86cdf79d6bea98df7294d834dc11af17"), looks := false }, kinds := [], alts := [], laidByText := true, laidKinds := [.widerDeep], laidTests := true, laidLooks := .later }
def BarcodeApartCardSaid : Prop := Claim7.holds Tryz.pinned (.plain (OpenSpec.ofChange barcodeApartSpec)) barcodeApartCard

/-- THE TIED CARD OF 'letterbaglaw22.BarcodeWrong'. -/
def barcodeWrongCard : Claim7 := { stood := { row := barcodeWrongRow, standIns := [], harness := (true, "159c32919ecd06ca35abc2039bae873d86cdf79d6bea98df7294d834dc11af17"), looks := false }, kinds := [], alts := [], laidByText := true, laidKinds := [.widerDeep, .data], laidTests := true, laidLooks := .later }
def BarcodeWrongCardSaid : Prop := Claim7.holds Tryz.pinned (.plain (OpenSpec.ofChange barcodeWrongSpec)) barcodeWrongCard

/-- THE SECOND FORM's CARD OF 'letterbaglaw22.BarcodeScans'. -/
def barcodeScansUptoCard : Claim7 := { stood := { row := barcodeScansUptoRow, standIns := [], harness := (true, "159c32919ecd06ca35abc2039bae873d86cdf79d6bea98df7294d834dc11af17"), looks := false }, kinds := [], alts := [], laidByText := true, laidKinds := [.widerDeep, .data], laidTests := true, laidLooks := .later }
def BarcodeScansUptoCardSaid : Prop := Claim7.holds Tryz.pinned (.plain (OpenSpec.upto barcodeScansSpec)) barcodeScansUptoCard

/-- THE SECOND FORM's CARD OF 'letterbaglaw22.BarcodeMeasured'. -/
def barcodeMeasuredUptoCard : Claim7 := { stood := { row := barcodeMeasuredUptoRow, standIns := [], harness := (true, "159c32919ecd06ca35abc2039bae873d86cdf79d6bea98df7294d834dc11af17"), looks := false }, kinds := [], alts := [], laidByText := true, laidKinds := [.widerDeep, .data], laidTests := true, laidLooks := .later }
def BarcodeMeasuredUptoCardSaid : Prop := Claim7.holds Tryz.pinned (.plain (OpenSpec.upto barcodeMeasuredSpec)) barcodeMeasuredUptoCard

/-- THE SECOND FORM's CARD OF 'letterbaglaw22.BarcodeTells'. -/
def barcodeTellsUptoCard : Claim7 := { stood := { row := barcodeTellsUptoRow, standIns := [], harness := (true, "159c32919ecd06ca35abc2039bae873d86cdf79d6bea98df7294d834dc11af17"), looks := false }, kinds := [], alts := [], laidByText := true, laidKinds := [.widerDeep], laidTests := true, laidLooks := .later }
def BarcodeTellsUptoCardSaid : Prop := Claim7.holds Tryz.pinned (.plain (OpenSpec.upto barcodeTellsSpec)) barcodeTellsUptoCard

/-- THE SECOND FORM's CARD OF 'letterbaglaw22.BarcodeReads'. -/
def barcodeReadsUptoCard : Claim7 := { stood := { row := barcodeReadsUptoRow, standIns := [], harness := (true, "159c32919ecd06ca35abc2039bae873d86cdf79d6bea98df7294d834dc11af17"), looks := false }, kinds := [], alts := [], laidByText := true, laidKinds := [.widerDeep], laidTests := true, laidLooks := .later }
def BarcodeReadsUptoCardSaid : Prop := Claim7.holds Tryz.pinned (.plain (OpenSpec.upto barcodeReadsSpec)) barcodeReadsUptoCard

/-- THE SECOND FORM's CARD OF 'letterbaglaw22.BarcodeNear'. -/
def barcodeNearUptoCard : Claim7 := { stood := { row := barcodeNearUptoRow, standIns := [], harness := (true, "159c32919ecd06ca35abc2039bae873d86cdf79d6bea98df7294d834dc11af17"), looks := false }, kinds := [], alts := [], laidByText := true, laidKinds := [.widerDeep], laidTests := true, laidLooks := .later }
def BarcodeNearUptoCardSaid : Prop := Claim7.holds Tryz.pinned (.plain (OpenSpec.upto barcodeNearSpec)) barcodeNearUptoCard

/-- THE SECOND FORM's CARD OF 'letterbaglaw22.BarcodeApart'. -/
def barcodeApartUptoCard : Claim7 := { stood := { row := barcodeApartUptoRow, standIns := [], harness := (true, "159c32919ecd06ca35abc2039bae873d86cdf79d6bea98df7294d834dc11af17"), looks := false }, kinds := [], alts := [], laidByText := true, laidKinds := [.widerDeep], laidTests := true, laidLooks := .later }
def BarcodeApartUptoCardSaid : Prop := Claim7.holds Tryz.pinned (.plain (OpenSpec.upto barcodeApartSpec)) barcodeApartUptoCard

/-- THE SECOND FORM's CARD OF 'letterbaglaw22.BarcodeWrong'. -/
def barcodeWrongUptoCard : Claim7 := { stood := { row := barcodeWrongUptoRow, standIns := [], harness := (true, "159c32919ecd06ca35abc2039bae873d86cdf79d6bea98df7294d834dc11af17"), looks := false }, kinds := [], alts := [], laidByText := true, laidKinds := [.widerDeep, .data], laidTests := true, laidLooks := .later }
def BarcodeWrongUptoCardSaid : Prop := Claim7.holds Tryz.pinned (.plain (OpenSpec.upto barcodeWrongSpec)) barcodeWrongUptoCard
end Rows
end Go.Proofs.YtajccgmeminlhaaGreatDoor
