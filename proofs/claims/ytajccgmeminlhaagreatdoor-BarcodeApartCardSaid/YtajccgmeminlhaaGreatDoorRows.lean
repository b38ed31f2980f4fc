/-
  NARROWER THAN 'FOR EVERY INPUT', by the rows' own cells (each row's printed sentence says how): BarcodeScans: laid · BarcodeMeasured: laid · BarcodeTells: laid · BarcodeReads: laid · BarcodeNear: laid · BarcodeApart: laid · BarcodeWrong: laid.
  DERIVED. THE GIVEN ROWS OF THIS SEAT. 7 by the template 'for every input the law returns true; each argument reads behind the call as it read before'; 0 by the template 'total and deterministic' (their statements: YtajccgmeminlhaaGreatDoorTotals.lean).
  GIVEN WITH THE SEED: the statements are not yours to turn. If you find one false, say at which input.
  Laid BY PROGRAM, IN A SANDBOX (cutbox-rows.mjs): the forced cells as the released guide's own fill.sh prints them over the translation 0634218d4e237543… (all of the seat's roots in one cut). By AI agents, Wed Nov 11 2026. No macro, syntax, notation, axiom, sorry.
-/
import Derived.Test.YtajccgmeminlhaaGreatDoorChecked
import GoSem.Claim
import GoSem.ClaimJoined
import GoSem.ClaimMapViews
import Derived.JoinedTies
import Derived.KernelRfl
namespace Go.Proofs.YtajccgmeminlhaaGreatDoor
/- THE CELL 'sum', in the pinned program and in every row, IS THE sha256 OF THE DUMP (.gsa) THAT YtajccgmeminlhaaGreatDoorProg.lean LOADS. Nothing in Lean hashes anything: it is a label: what it is worth is what the hold of that sum in a sandbox is worth. -/
noncomputable def Tryz.pinned : Pinned := { name := "ytajccgmeminlhaagreatdoor", sum := "0634218d4e2375436bf9fae4044d89095d3dd1946b1ffaeb0b82378d1f59d604", checked := Tryz.checked }
namespace Rows
def none {H : Type} : Left H := { results := [], args := [] }

/- WHAT THE LISTED PACKAGE-LEVEL VARIABLES READ AS WHEN THE CALL BEGINS. Each datum BY PROGRAM (the guide's laid-datum.mjs) off the statement by which the dump's own 'gosem.cut.vars' lays the variable. In a bare row this is a premise. The card (YtajccgmeminlhaaGreatDoorCards.lean) ties it to the program's text. -/
def laid_letterbag_field_powers {H : Type} : DataW H := .agg [.lit (.int .u8 1), .lit (.int .u8 2), .lit (.int .u8 4), .lit (.int .u8 8), .lit (.int .u8 16), .lit (.int .u8 32), .lit (.int .u8 3), .lit (.int .u8 6), .lit (.int .u8 12), .lit (.int .u8 24), .lit (.int .u8 48), .lit (.int .u8 35), .lit (.int .u8 5), .lit (.int .u8 10), .lit (.int .u8 20), .lit (.int .u8 40), .lit (.int .u8 19), .lit (.int .u8 38), .lit (.int .u8 15), .lit (.int .u8 30), .lit (.int .u8 60), .lit (.int .u8 59), .lit (.int .u8 53), .lit (.int .u8 41), .lit (.int .u8 17), .lit (.int .u8 34), .lit (.int .u8 7), .lit (.int .u8 14), .lit (.int .u8 28), .lit (.int .u8 56), .lit (.int .u8 51), .lit (.int .u8 37), .lit (.int .u8 9), .lit (.int .u8 18), .lit (.int .u8 36), .lit (.int .u8 11), .lit (.int .u8 22), .lit (.int .u8 44), .lit (.int .u8 27), .lit (.int .u8 54), .lit (.int .u8 47), .lit (.int .u8 29), .lit (.int .u8 58), .lit (.int .u8 55), .lit (.int .u8 45), .lit (.int .u8 25), .lit (.int .u8 50), .lit (.int .u8 39), .lit (.int .u8 13), .lit (.int .u8 26), .lit (.int .u8 52), .lit (.int .u8 43), .lit (.int .u8 21), .lit (.int .u8 42), .lit (.int .u8 23), .lit (.int .u8 46), .lit (.int .u8 31), .lit (.int .u8 62), .lit (.int .u8 63), .lit (.int .u8 61), .lit (.int .u8 57), .lit (.int .u8 49), .lit (.int .u8 33)]
def laid_letterbag_height_letters {H : Type} : DataW H := .agg [.agg [.lit (.int .u8 84), .lit (.int .u8 68), .lit (.int .u8 63)], .agg [.lit (.int .u8 65), .lit (.int .u8 70), .lit (.int .u8 63)], .agg [.lit (.int .u8 63), .lit (.int .u8 63), .lit (.int .u8 63)]]

/-- 'letterbaglaw22.BarcodeScans': WHATEVER THE INPUT: true; the input reads as it did. -/
def barcodeScansSpec : ChangeSpec := { name := "barcodeScans", fn := fun _ => fun
  | [d1, d2, d3] => { results := [.lit (.bool true)], args := [d1, d2, d3] }
  | _ => none }
def barcodeScansRow : OpenClaim := { program := "ytajccgmeminlhaagreatdoor", sum := "0634218d4e2375436bf9fae4044d89095d3dd1946b1ffaeb0b82378d1f59d604", func := "letterbag/letterbaglaw22.BarcodeScans", spec := "barcodeScans", inPlace := ["internal/abi.NoEscape", "internal/bytealg.IndexByteString", "internal/bytealg.IndexString", "internal/bytealg.MakeNoZero"], unfollowed := true, recurses := true, named := ["letterbag/field.powers", "letterbag/height.letters", "internal/bytealg.MaxLen"], apart := false, laid := [("letterbag/field.powers", laid_letterbag_field_powers), ("letterbag/height.letters", laid_letterbag_height_letters)] }
def BarcodeScansSaid : Prop := barcodeScansRow.holds Tryz.pinned (OpenSpec.ofChange barcodeScansSpec)

/-- ITS FALSE NEIGHBOUR: 'it returns false'. Refute it at one input. -/
def barcodeScansWrong : ChangeSpec := { name := "barcodeScans", fn := fun _ => fun
  | [d1, d2, d3] => { results := [.lit (.bool false)], args := [d1, d2, d3] }
  | _ => none }
def BarcodeScansWrongFalsely : Prop := barcodeScansRow.holds Tryz.pinned (OpenSpec.ofChange barcodeScansWrong)

/-- 'letterbaglaw22.BarcodeMeasured': WHATEVER THE INPUT: true; the input reads as it did. -/
def barcodeMeasuredSpec : ChangeSpec := { name := "barcodeMeasured", fn := fun _ => fun
  | [d1, d2, d3, d4] => { results := [.lit (.bool true)], args := [d1, d2, d3, d4] }
  | _ => none }
def barcodeMeasuredRow : OpenClaim := { program := "ytajccgmeminlhaagreatdoor", sum := "0634218d4e2375436bf9fae4044d89095d3dd1946b1ffaeb0b82378d1f59d604", func := "letterbag/letterbaglaw22.BarcodeMeasured", spec := "barcodeMeasured", inPlace := ["internal/abi.NoEscape", "internal/bytealg.IndexByteString", "internal/bytealg.IndexString", "internal/bytealg.MakeNoZero"], unfollowed := true, recurses := true, named := ["letterbag/field.powers", "letterbag/height.letters", "internal/bytealg.MaxLen"], apart := false, laid := [("letterbag/field.powers", laid_letterbag_field_powers), ("letterbag/height.letters", laid_letterbag_height_letters)] }
def BarcodeMeasuredSaid : Prop := barcodeMeasuredRow.holds Tryz.pinned (OpenSpec.ofChange barcodeMeasuredSpec)

/-- ITS FALSE NEIGHBOUR: 'it returns false'. Refute it at one input. -/
def barcodeMeasuredWrong : ChangeSpec := { name := "barcodeMeasured", fn := fun _ => fun
  | [d1, d2, d3, d4] => { results := [.lit (.bool false)], args := [d1, d2, d3, d4] }
  | _ => none }
def BarcodeMeasuredWrongFalsely : Prop := barcodeMeasuredRow.holds Tryz.pinned (OpenSpec.ofChange barcodeMeasuredWrong)

/-- 'letterbaglaw22.BarcodeTells': WHATEVER THE INPUT: true; the input reads as it did. -/
def barcodeTellsSpec : ChangeSpec := { name := "barcodeTells", fn := fun _ => fun
  | [d1, d2] => { results := [.lit (.bool true)], args := [d1, d2] }
  | _ => none }
def barcodeTellsRow : OpenClaim := { program := "ytajccgmeminlhaagreatdoor", sum := "0634218d4e2375436bf9fae4044d89095d3dd1946b1ffaeb0b82378d1f59d604", func := "letterbag/letterbaglaw22.BarcodeTells", spec := "barcodeTells", inPlace := ["internal/abi.NoEscape", "internal/bytealg.IndexByteString", "internal/bytealg.IndexString", "internal/bytealg.MakeNoZero"], unfollowed := true, recurses := true, named := ["letterbag/field.powers", "internal/bytealg.MaxLen"], apart := false, laid := [("letterbag/field.powers", laid_letterbag_field_powers)] }
def BarcodeTellsSaid : Prop := barcodeTellsRow.holds Tryz.pinned (OpenSpec.ofChange barcodeTellsSpec)

/-- ITS FALSE NEIGHBOUR: 'it returns false'. Refute it at one input. -/
def barcodeTellsWrong : ChangeSpec := { name := "barcodeTells", fn := fun _ => fun
  | [d1, d2] => { results := [.lit (.bool false)], args := [d1, d2] }
  | _ => none }
def BarcodeTellsWrongFalsely : Prop := barcodeTellsRow.holds Tryz.pinned (OpenSpec.ofChange barcodeTellsWrong)

/-- 'letterbaglaw22.BarcodeReads': WHATEVER THE INPUT: true; the input reads as it did. -/
def barcodeReadsSpec : ChangeSpec := { name := "barcodeReads", fn := fun _ => fun
  | [d1, d2, d3] => { results := [.lit (.bool true)], args := [d1, d2, d3] }
  | _ => none }
def barcodeReadsRow : OpenClaim := { program := "ytajccgmeminlhaagreatdoor", sum := "0634218d4e2375436bf9fae4044d89095d3dd1946b1ffaeb0b82378d1f59d604", func := "letterbag/letterbaglaw22.BarcodeReads", spec := "barcodeReads", inPlace := ["internal/abi.NoEscape", "internal/bytealg.IndexByteString", "internal/bytealg.IndexString", "internal/bytealg.MakeNoZero"], unfollowed := true, recurses := true, named := ["letterbag/field.powers", "internal/bytealg.MaxLen"], apart := false, laid := [("letterbag/field.powers", laid_letterbag_field_powers)] }
def BarcodeReadsSaid : Prop := barcodeReadsRow.holds Tryz.pinned (OpenSpec.ofChange barcodeReadsSpec)

/-- ITS FALSE NEIGHBOUR: 'it returns false'. Refute it at one input. -/
def barcodeReadsWrong : ChangeSpec := { name := "barcodeReads", fn := fun _ => fun
  | [d1, d2, d3] => { results := [.lit (.bool false)], args := [d1, d2, d3] }
  | _ => none }
def BarcodeReadsWrongFalsely : Prop := barcodeReadsRow.holds Tryz.pinned (OpenSpec.ofChange barcodeReadsWrong)

/-- 'letterbaglaw22.BarcodeNear': WHATEVER THE INPUT: true; the input reads as it did. -/
def barcodeNearSpec : ChangeSpec := { name := "barcodeNear", fn := fun _ => fun
  | [d1, d2, d3] => { results := [.lit (.bool true)], args := [d1, d2, d3] }
  | _ => none }
def barcodeNearRow : OpenClaim := { program := "ytajccgmeminlhaagreatdoor", sum := "0634218d4e2375436bf9fae4044d89095d3dd1946b1ffaeb0b82378d1f59d604", func := "letterbag/letterbaglaw22.BarcodeNear", spec := "barcodeNear", inPlace := ["internal/abi.NoEscape", "internal/bytealg.IndexByteString", "internal/bytealg.IndexString", "internal/bytealg.MakeNoZero"], unfollowed := true, recurses := true, named := ["letterbag/field.powers", "internal/bytealg.MaxLen"], apart := false, laid := [("letterbag/field.powers", laid_letterbag_field_powers)] }
def BarcodeNearSaid : Prop := barcodeNearRow.holds Tryz.pinned (OpenSpec.ofChange barcodeNearSpec)

/-- ITS FALSE NEIGHBOUR: 'it returns false'. Refute it at one input. -/
def barcodeNearWrong : ChangeSpec := { name := "barcodeNear", fn := fun _ => fun
  | [d1, d2, d3] => { results := [.lit (.bool false)], args := [d1, d2, d3] }
  | _ => none }
def BarcodeNearWrongFalsely : Prop := barcodeNearRow.holds Tryz.pinned (OpenSpec.ofChange barcodeNearWrong)

/-- 'letterbaglaw22.BarcodeApart': WHATEVER THE INPUT: true; the input reads as it did. -/
def barcodeApartSpec : ChangeSpec := { name := "barcodeApart", fn := fun _ => fun
  | [d1, d2, d3] => { results := [.lit (.bool true)], args := [d1, d2, d3] }
  | _ => none }
def barcodeApartRow : OpenClaim := { program := "ytajccgmeminlhaagreatdoor", sum := "0634218d4e2375436bf9fae4044d89095d3dd1946b1ffaeb0b82378d1f59d604", func := "letterbag/letterbaglaw22.BarcodeApart", spec := "barcodeApart", inPlace := ["internal/abi.NoEscape", "internal/bytealg.IndexByteString", "internal/bytealg.IndexString", "internal/bytealg.MakeNoZero"], unfollowed := true, recurses := true, named := ["letterbag/field.powers", "internal/bytealg.MaxLen"], apart := false, laid := [("letterbag/field.powers", laid_letterbag_field_powers)] }
def BarcodeApartSaid : Prop := barcodeApartRow.holds Tryz.pinned (OpenSpec.ofChange barcodeApartSpec)

/-- ITS FALSE NEIGHBOUR: 'it returns false'. Refute it at one input. -/
def barcodeApartWrong : ChangeSpec := { name := "barcodeApart", fn := fun _ => fun
  | [d1, d2, d3] => { results := [.lit (.bool false)], args := [d1, d2, d3] }
  | _ => none }
def BarcodeApartWrongFalsely : Prop := barcodeApartRow.holds Tryz.pinned (OpenSpec.ofChange barcodeApartWrong)

/-- 'letterbaglaw22.BarcodeWrong': WHATEVER THE INPUT: true; the input reads as it did. -/
def barcodeWrongSpec : ChangeSpec := { name := "barcodeWrong", fn := fun _ => fun
  | [d1, d2] => { results := [.lit (.bool true)], args := [d1, d2] }
  | _ => none }
def barcodeWrongRow : OpenClaim := { program := "ytajccgmeminlhaagreatdoor", sum := "0634218d4e2375436bf9fae4044d89095d3dd1946b1ffaeb0b82378d1f59d604", func := "letterbag/letterbaglaw22.BarcodeWrong", spec := "barcodeWrong", inPlace := ["internal/abi.NoEscape", "internal/bytealg.IndexByteString", "internal/bytealg.IndexString", "internal/bytealg.MakeNoZero"], unfollowed := true, recurses := true, named := ["letterbag/field.powers", "letterbag/height.letters", "internal/bytealg.MaxLen"], apart := false, laid := [("letterbag/field.powers", laid_letterbag_field_powers), ("letterbag/height.letters", laid_letterbag_height_letters)] }
def BarcodeWrongSaid : Prop := barcodeWrongRow.holds Tryz.pinned (OpenSpec.ofChange barcodeWrongSpec)

/-- ITS FALSE NEIGHBOUR: 'it returns false'. Refute it at one input. -/
def barcodeWrongWrong : ChangeSpec := { name := "barcodeWrong", fn := fun _ => fun
  | [d1, d2] => { results := [.lit (.bool false)], args := [d1, d2] }
  | _ => none }
def BarcodeWrongWrongFalsely : Prop := barcodeWrongRow.holds Tryz.pinned (OpenSpec.ofChange barcodeWrongWrong)

/- THE SECOND FORM. 'bulk': how many values and letters a reading holds, each counted each time it is reached (what is shared counts as often as it is met; a slice's spare places count too). A statement '..UptoSaid' is the law's where the arguments, and the package variables that the reading takes, are together of bulk at most 1048576: NARROWER than '..Said'. Prove '..Said' where nothing that the law and all that it calls make is longer than what came in: it says more and counts as full. Else prove '..UptoSaid'. A law counts once. -/
mutual
def uptoBulk {H : Type} : DataW H → Nat
  | .lit (.string bytes) => bytes.length + 1
  | .lit _ => 1
  | .nil => 1
  | .ptr d => uptoBulk d + 1
  | .slice elems spare => uptoBulkAll elems + uptoBulkAll spare + 1
  | .agg parts => uptoBulkAll parts + 1
  | .iface _ d => uptoBulk d + 1
  | .map entries => uptoBulkEntries entries + 1
  | .held _ => 1
def uptoBulkAll {H : Type} : List (DataW H) → Nat
  | [] => 0
  | d :: r => uptoBulk d + uptoBulkAll r
def uptoBulkEntries {H : Type} : List (Lit × DataW H) → Nat
  | [] => 0
  | x :: r => uptoBulkEntry x + uptoBulkEntries r
def uptoBulkEntry {H : Type} : Lit × DataW H → Nat
  | (.string bytes, d) => bytes.length + uptoBulk d + 1
  | (_, d) => uptoBulk d + 1
 end
def uptoSmall : (H : Type) → List (DataW H) → Bool := fun _ ds => decide (uptoBulkAll ds ≤ 1048576)
def OpenSpec.upto (s : _root_.Go.ChangeSpec) : _root_.Go.OpenSpec := { _root_.Go.OpenSpec.ofChange s with cond := some uptoSmall }

/-- 'letterbaglaw22.BarcodeScans', WHERE WHAT IT READS IS OF BULK AT MOST 1048576: true; the input reads as it did. -/
def barcodeScansUptoRow : OpenClaim := { program := "ytajccgmeminlhaagreatdoor", sum := "0634218d4e2375436bf9fae4044d89095d3dd1946b1ffaeb0b82378d1f59d604", func := "letterbag/letterbaglaw22.BarcodeScans", spec := "barcodeScans", inPlace := ["internal/abi.NoEscape", "internal/bytealg.IndexByteString", "internal/bytealg.IndexString", "internal/bytealg.MakeNoZero"], unfollowed := true, recurses := true, named := ["letterbag/field.powers", "letterbag/height.letters", "internal/bytealg.MaxLen"], apart := false, laid := [("letterbag/field.powers", laid_letterbag_field_powers), ("letterbag/height.letters", laid_letterbag_height_letters)], narrowed := true }
def BarcodeScansUptoSaid : Prop := barcodeScansUptoRow.holds Tryz.pinned (OpenSpec.upto barcodeScansSpec)

/-- 'letterbaglaw22.BarcodeMeasured', WHERE WHAT IT READS IS OF BULK AT MOST 1048576: true; the input reads as it did. -/
def barcodeMeasuredUptoRow : OpenClaim := { program := "ytajccgmeminlhaagreatdoor", sum := "0634218d4e2375436bf9fae4044d89095d3dd1946b1ffaeb0b82378d1f59d604", func := "letterbag/letterbaglaw22.BarcodeMeasured", spec := "barcodeMeasured", inPlace := ["internal/abi.NoEscape", "internal/bytealg.IndexByteString", "internal/bytealg.IndexString", "internal/bytealg.MakeNoZero"], unfollowed := true, recurses := true, named := ["letterbag/field.powers", "letterbag/height.letters", "internal/bytealg.MaxLen"], apart := false, laid := [("letterbag/field.powers", laid_letterbag_field_powers), ("letterbag/height.letters", laid_letterbag_height_letters)], narrowed := true }
def BarcodeMeasuredUptoSaid : Prop := barcodeMeasuredUptoRow.holds Tryz.pinned (OpenSpec.upto barcodeMeasuredSpec)

/-- 'letterbaglaw22.BarcodeTells', WHERE WHAT IT READS IS OF BULK AT MOST 1048576: true; the input reads as it did. -/
def barcodeTellsUptoRow : OpenClaim := { program := "ytajccgmeminlhaagreatdoor", sum := "0634218d4e2375436bf9fae4044d89095d3dd1946b1ffaeb0b82378d1f59d604", func := "letterbag/letterbaglaw22.BarcodeTells", spec := "barcodeTells", inPlace := ["internal/abi.NoEscape", "internal/bytealg.IndexByteString", "internal/bytealg.IndexString", "internal/bytealg.MakeNoZero"], unfollowed := true, recurses := true, named := ["letterbag/field.powers", "internal/bytealg.MaxLen"], apart := false, laid := [("letterbag/field.powers", laid_letterbag_field_powers)], narrowed := true }
def BarcodeTellsUptoSaid : Prop := barcodeTellsUptoRow.holds Tryz.pinned (OpenSpec.upto barcodeTellsSpec)

/-- 'letterbaglaw22.BarcodeReads', WHERE WHAT IT READS IS OF BULK AT MOST 1048576: true; the input reads as it did. -/
def barcodeReadsUptoRow : OpenClaim := { program := "ytajccgmeminlhaagreatdoor", sum := "0634218d4e2375436bf9fae4044d89095d3dd1946b1ffaeb0b82378d1f59d604", func := "letterbag/letterbaglaw22.BarcodeReads", spec := "barcodeReads", inPlace := ["internal/abi.NoEscape", "internal/bytealg.IndexByteString", "internal/bytealg.IndexString", "internal/bytealg.MakeNoZero"], unfollowed := true, recurses := true, named := ["letterbag/field.powers", "internal/bytealg.MaxLen"], apart := false, laid := [("letterbag/field.powers", laid_letterbag_field_powers)], narrowed := true }
def BarcodeReadsUptoSaid : Prop := barcodeReadsUptoRow.holds Tryz.pinned (OpenSpec.upto barcodeReadsSpec)

/-- 'letterbaglaw22.BarcodeNear', WHERE WHAT IT READS IS OF BULK AT MOST 1048576: true; the input reads as it did. -/
def barcodeNearUptoRow : OpenClaim := { program := "ytajccgmeminlhaagreatdoor", sum := "0634218d4e2375436bf9fae4044d89095d3dd1946b1ffaeb0b82378d1f59d604", func := "letterbag/letterbaglaw22.BarcodeNear", spec := "barcodeNear", inPlace := ["internal/abi.NoEscape", "internal/bytealg.IndexByteString", "internal/bytealg.IndexString", "internal/bytealg.MakeNoZero"], unfollowed := true, recurses := true, named := ["letterbag/field.powers", "internal/bytealg.MaxLen"], apart := false, laid := [("letterbag/field.powers", laid_letterbag_field_powers)], narrowed := true }
def BarcodeNearUptoSaid : Prop := barcodeNearUptoRow.holds Tryz.pinned (OpenSpec.upto barcodeNearSpec)

/-- 'letterbaglaw22.BarcodeApart', WHERE WHAT IT READS IS OF BULK AT MOST 1048576: true; the input reads as it did. -/
def barcodeApartUptoRow : OpenClaim := { program := "ytajccgmeminlhaagreatdoor", sum := "0634218d4e2375436bf9fae4044d89095d3dd1946b1ffaeb0b82378d1f59d604", func := "letterbag/letterbaglaw22.BarcodeApart", spec := "barcodeApart", inPlace := ["internal/abi.NoEscape", "internal/bytealg.IndexByteString", "internal/bytealg.IndexString", "internal/bytealg.MakeNoZero"], unfollowed := true, recurses := true, named := ["letterbag/field.powers", "internal/bytealg.MaxLen"], apart := false, laid := [("letterbag/field.powers", laid_letterbag_field_powers)], narrowed := true }
def BarcodeApartUptoSaid : Prop := barcodeApartUptoRow.holds Tryz.pinned (OpenSpec.upto barcodeApartSpec)

/-- 'letterbaglaw22.BarcodeWrong', WHERE WHAT IT READS IS OF BULK AT MOST 1048576: true; the input reads as it did. -/
def barcodeWrongUptoRow : OpenClaim := { program := "ytajccgmeminlhaagreatdoor", sum := "0634218d4e2375436bf9fae4044d89095d3dd1946b1ffaeb0b82378d1f59d604", func := "letterbag/letterbaglaw22.BarcodeWrong", spec := "barcodeWrong", inPlace := ["internal/abi.NoEscape", "internal/bytealg.IndexByteString", "internal/bytealg.IndexString", "internal/bytealg.MakeNoZero"], unfollowed := true, recurses := true, named := ["letterbag/field.powers", "letterbag/height.letters", "internal/bytealg.MaxLen"], apart := false, laid := [("letterbag/field.powers", laid_letterbag_field_powers), ("letterbag/height.letters", laid_letterbag_height_letters)], narrowed := true }
def BarcodeWrongUptoSaid : Prop := barcodeWrongUptoRow.holds Tryz.pinned (OpenSpec.upto barcodeWrongSpec)

end Rows
end Go.Proofs.YtajccgmeminlhaaGreatDoor
