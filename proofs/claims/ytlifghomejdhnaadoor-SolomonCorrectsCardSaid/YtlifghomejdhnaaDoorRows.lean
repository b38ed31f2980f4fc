/-
  NARROWER THAN 'FOR EVERY INPUT', by the rows' own cells (each row's printed sentence says how): SolomonApart: laid · SolomonTells: laid · SolomonCorrects: laid · SolomonWithin: laid · SolomonSums: laid · SolomonWrong: laid.
  DERIVED. THE GIVEN ROWS OF THIS SEAT. 6 by the template 'for every input the law returns true; each argument reads behind the call as it read before'; 0 by the template 'total and deterministic' (their statements: YtlifghomejdhnaaDoorTotals.lean).
  GIVEN WITH THE SEED: the statements are not yours to turn. If you find one false, say at which input.
  Laid BY PROGRAM, IN A SANDBOX (cutbox-rows.mjs): the forced cells as the released guide's own fill.sh prints them over the translation 15753c161e3b6c49… (all of the seat's roots in one cut). By AI agents, Wed Nov 11 2026. No macro, syntax, notation, axiom, sorry.
-/
import Derived.Test.YtlifghomejdhnaaDoorChecked
import GoSem.Claim
import GoSem.ClaimJoined
import GoSem.ClaimMapViews
import Derived.JoinedTies
import Derived.KernelRfl
namespace Go.Proofs.YtlifghomejdhnaaDoor
/- THE CELL 'sum', in the pinned program and in every row, IS THE sha256 OF THE DUMP (.gsa) THAT YtlifghomejdhnaaDoorProg.lean LOADS. Nothing in Lean hashes anything: it is a label: what it is worth is what the hold of that sum in a sandbox is worth. -/
noncomputable def Tryd.pinned : Pinned := { name := "ytlifghomejdhnaadoor", sum := "15753c161e3b6c4950074308bcc1e2f2b7beb3c6679f76ded5f4f22df559fceb", checked := Tryd.checked }
namespace Rows
def none {H : Type} : Left H := { results := [], args := [] }

/- WHAT THE LISTED PACKAGE-LEVEL VARIABLES READ AS WHEN THE CALL BEGINS. Each datum BY PROGRAM (the guide's laid-datum.mjs) off the statement by which the dump's own 'gosem.cut.vars' lays the variable. In a bare row this is a premise. The card (YtlifghomejdhnaaDoorCards.lean) ties it to the program's text. -/
def laid_letterbag_field_powers {H : Type} : DataW H := .agg [.lit (.int .u8 1), .lit (.int .u8 2), .lit (.int .u8 4), .lit (.int .u8 8), .lit (.int .u8 16), .lit (.int .u8 32), .lit (.int .u8 3), .lit (.int .u8 6), .lit (.int .u8 12), .lit (.int .u8 24), .lit (.int .u8 48), .lit (.int .u8 35), .lit (.int .u8 5), .lit (.int .u8 10), .lit (.int .u8 20), .lit (.int .u8 40), .lit (.int .u8 19), .lit (.int .u8 38), .lit (.int .u8 15), .lit (.int .u8 30), .lit (.int .u8 60), .lit (.int .u8 59), .lit (.int .u8 53), .lit (.int .u8 41), .lit (.int .u8 17), .lit (.int .u8 34), .lit (.int .u8 7), .lit (.int .u8 14), .lit (.int .u8 28), .lit (.int .u8 56), .lit (.int .u8 51), .lit (.int .u8 37), .lit (.int .u8 9), .lit (.int .u8 18), .lit (.int .u8 36), .lit (.int .u8 11), .lit (.int .u8 22), .lit (.int .u8 44), .lit (.int .u8 27), .lit (.int .u8 54), .lit (.int .u8 47), .lit (.int .u8 29), .lit (.int .u8 58), .lit (.int .u8 55), .lit (.int .u8 45), .lit (.int .u8 25), .lit (.int .u8 50), .lit (.int .u8 39), .lit (.int .u8 13), .lit (.int .u8 26), .lit (.int .u8 52), .lit (.int .u8 43), .lit (.int .u8 21), .lit (.int .u8 42), .lit (.int .u8 23), .lit (.int .u8 46), .lit (.int .u8 31), .lit (.int .u8 62), .lit (.int .u8 63), .lit (.int .u8 61), .lit (.int .u8 57), .lit (.int .u8 49), .lit (.int .u8 33)]

/-- 'letterbaglaw19.SolomonApart': WHATEVER THE INPUT: true; the input reads as it did. -/
def solomonApartSpec : ChangeSpec := { name := "solomonApart", fn := fun _ => fun
  | [d1, d2] => { results := [.lit (.bool true)], args := [d1, d2] }
  | _ => none }
def solomonApartRow : OpenClaim := { program := "ytlifghomejdhnaadoor", sum := "15753c161e3b6c4950074308bcc1e2f2b7beb3c6679f76ded5f4f22df559fceb", func := "letterbag/letterbaglaw19.SolomonApart", spec := "solomonApart", unfollowed := true, recurses := true, named := ["letterbag/field.powers"], apart := false, laid := [("letterbag/field.powers", laid_letterbag_field_powers)] }
def SolomonApartSaid : Prop := solomonApartRow.holds Tryd.pinned (OpenSpec.ofChange solomonApartSpec)

/-- ITS FALSE NEIGHBOUR: 'it returns false'. Refute it at one input. -/
def solomonApartWrong : ChangeSpec := { name := "solomonApart", fn := fun _ => fun
  | [d1, d2] => { results := [.lit (.bool false)], args := [d1, d2] }
  | _ => none }
def SolomonApartWrongFalsely : Prop := solomonApartRow.holds Tryd.pinned (OpenSpec.ofChange solomonApartWrong)

/-- 'letterbaglaw19.SolomonTells': WHATEVER THE INPUT: true; the input reads as it did. -/
def solomonTellsSpec : ChangeSpec := { name := "solomonTells", fn := fun _ => fun
  | [d] => { results := [.lit (.bool true)], args := [d] }
  | _ => none }
def solomonTellsRow : OpenClaim := { program := "ytlifghomejdhnaadoor", sum := "15753c161e3b6c4950074308bcc1e2f2b7beb3c6679f76ded5f4f22df559fceb", func := "letterbag/letterbaglaw19.SolomonTells", spec := "solomonTells", unfollowed := true, recurses := true, named := ["letterbag/field.powers"], apart := false, laid := [("letterbag/field.powers", laid_letterbag_field_powers)] }
def SolomonTellsSaid : Prop := solomonTellsRow.holds Tryd.pinned (OpenSpec.ofChange solomonTellsSpec)

/-- ITS FALSE NEIGHBOUR: 'it returns false'. Refute it at one input. -/
def solomonTellsWrong : ChangeSpec := { name := "solomonTells", fn := fun _ => fun
  | [d] => { results := [.lit (.bool false)], args := [d] }
  | _ => none }
def SolomonTellsWrongFalsely : Prop := solomonTellsRow.holds Tryd.pinned (OpenSpec.ofChange solomonTellsWrong)

/-- 'letterbaglaw19.SolomonCorrects': WHATEVER THE INPUT: true; the input reads as it did. -/
def solomonCorrectsSpec : ChangeSpec := { name := "solomonCorrects", fn := fun _ => fun
  | [d1, d2] => { results := [.lit (.bool true)], args := [d1, d2] }
  | _ => none }
def solomonCorrectsRow : OpenClaim := { program := "ytlifghomejdhnaadoor", sum := "15753c161e3b6c4950074308bcc1e2f2b7beb3c6679f76ded5f4f22df559fceb", func := "letterbag/letterbaglaw19.SolomonCorrects", spec := "solomonCorrects", unfollowed := true, recurses := true, named := ["letterbag/field.powers"], apart := false, laid := [("letterbag/field.powers", laid_letterbag_field_powers)] }
def SolomonCorrectsSaid : Prop := solomonCorrectsRow.holds Tryd.pinned (OpenSpec.ofChange solomonCorrectsSpec)

/-- ITS FALSE NEIGHBOUR: 'it returns false'. Refute it at one input. -/
def solomonCorrectsWrong : ChangeSpec := { name := "solomonCorrects", fn := fun _ => fun
  | [d1, d2] => { results := [.lit (.bool false)], args := [d1, d2] }
  | _ => none }
def SolomonCorrectsWrongFalsely : Prop := solomonCorrectsRow.holds Tryd.pinned (OpenSpec.ofChange solomonCorrectsWrong)

/-- 'letterbaglaw19.SolomonWithin': WHATEVER THE INPUT: true; the input reads as it did. -/
def solomonWithinSpec : ChangeSpec := { name := "solomonWithin", fn := fun _ => fun
  | [d1, d2] => { results := [.lit (.bool true)], args := [d1, d2] }
  | _ => none }
def solomonWithinRow : OpenClaim := { program := "ytlifghomejdhnaadoor", sum := "15753c161e3b6c4950074308bcc1e2f2b7beb3c6679f76ded5f4f22df559fceb", func := "letterbag/letterbaglaw19.SolomonWithin", spec := "solomonWithin", unfollowed := true, recurses := true, named := ["letterbag/field.powers"], apart := false, laid := [("letterbag/field.powers", laid_letterbag_field_powers)] }
def SolomonWithinSaid : Prop := solomonWithinRow.holds Tryd.pinned (OpenSpec.ofChange solomonWithinSpec)

/-- ITS FALSE NEIGHBOUR: 'it returns false'. Refute it at one input. -/
def solomonWithinWrong : ChangeSpec := { name := "solomonWithin", fn := fun _ => fun
  | [d1, d2] => { results := [.lit (.bool false)], args := [d1, d2] }
  | _ => none }
def SolomonWithinWrongFalsely : Prop := solomonWithinRow.holds Tryd.pinned (OpenSpec.ofChange solomonWithinWrong)

/-- 'letterbaglaw19.SolomonSums': WHATEVER THE INPUT: true; the input reads as it did. -/
def solomonSumsSpec : ChangeSpec := { name := "solomonSums", fn := fun _ => fun
  | [d1, d2, d3, d4] => { results := [.lit (.bool true)], args := [d1, d2, d3, d4] }
  | _ => none }
def solomonSumsRow : OpenClaim := { program := "ytlifghomejdhnaadoor", sum := "15753c161e3b6c4950074308bcc1e2f2b7beb3c6679f76ded5f4f22df559fceb", func := "letterbag/letterbaglaw19.SolomonSums", spec := "solomonSums", unfollowed := true, recurses := true, named := ["letterbag/field.powers"], apart := false, laid := [("letterbag/field.powers", laid_letterbag_field_powers)] }
def SolomonSumsSaid : Prop := solomonSumsRow.holds Tryd.pinned (OpenSpec.ofChange solomonSumsSpec)

/-- ITS FALSE NEIGHBOUR: 'it returns false'. Refute it at one input. -/
def solomonSumsWrong : ChangeSpec := { name := "solomonSums", fn := fun _ => fun
  | [d1, d2, d3, d4] => { results := [.lit (.bool false)], args := [d1, d2, d3, d4] }
  | _ => none }
def SolomonSumsWrongFalsely : Prop := solomonSumsRow.holds Tryd.pinned (OpenSpec.ofChange solomonSumsWrong)

/-- 'letterbaglaw19.SolomonWrong': WHATEVER THE INPUT: true; the input reads as it did. -/
def solomonWrongSpec : ChangeSpec := { name := "solomonWrong", fn := fun _ => fun
  | [d1, d2, d3] => { results := [.lit (.bool true)], args := [d1, d2, d3] }
  | _ => none }
def solomonWrongRow : OpenClaim := { program := "ytlifghomejdhnaadoor", sum := "15753c161e3b6c4950074308bcc1e2f2b7beb3c6679f76ded5f4f22df559fceb", func := "letterbag/letterbaglaw19.SolomonWrong", spec := "solomonWrong", unfollowed := true, recurses := true, named := ["letterbag/field.powers"], apart := false, laid := [("letterbag/field.powers", laid_letterbag_field_powers)] }
def SolomonWrongSaid : Prop := solomonWrongRow.holds Tryd.pinned (OpenSpec.ofChange solomonWrongSpec)

/-- ITS FALSE NEIGHBOUR: 'it returns false'. Refute it at one input. -/
def solomonWrongWrong : ChangeSpec := { name := "solomonWrong", fn := fun _ => fun
  | [d1, d2, d3] => { results := [.lit (.bool false)], args := [d1, d2, d3] }
  | _ => none }
def SolomonWrongWrongFalsely : Prop := solomonWrongRow.holds Tryd.pinned (OpenSpec.ofChange solomonWrongWrong)

/- THE SECOND FORM. 'bulk': how many values and letters a reading holds, each counted each time it is reached (what is shared counts as often as it is met; a slice's spare places count too). A statement '..UptoSaid' is the law's where the arguments, and the package variables that the reading takes, are together of bulk at most 1048576: NARROWER than '..Said'. Prove '..Said' where nothing that the law and all that it calls make is longer than what came in: it says more and counts as full. Else prove '..UptoSaid'. A law counts once. -/
mutual
def uptoBulk {H : Type} : DataW H → Nat
  | .lit (.string bytes) => bytes.length + 1
  | .lit _ => 1
  | .nil => 1
  | .ptr d => uptoBulk d + 1
  | .slice elems spare => uptoBulkAll elems + uptoBulkAll spare + 1
  | .agg parts => uptoBulkAll parts + 1
  | .iface _ d => uptoBulk d + 1
  | .map entries => uptoBulkEntries entries + 1
  | .held _ => 1
def uptoBulkAll {H : Type} : List (DataW H) → Nat
  | [] => 0
  | d :: r => uptoBulk d + uptoBulkAll r
def uptoBulkEntries {H : Type} : List (Lit × DataW H) → Nat
  | [] => 0
  | x :: r => uptoBulkEntry x + uptoBulkEntries r
def uptoBulkEntry {H : Type} : Lit × DataW H → Nat
  | (.string bytes, d) => bytes.length + uptoBulk d + 1
  | (_, d) => uptoBulk d + 1
 end
def uptoSmall : (H : Type) → List (DataW H) → Bool := fun _ ds => decide (uptoBulkAll ds ≤ 1048576)
def OpenSpec.upto (s : _root_.Go.ChangeSpec) : _root_.Go.OpenSpec := { _root_.Go.OpenSpec.ofChange s with cond := some uptoSmall }

/-- 'letterbaglaw19.SolomonApart', WHERE WHAT IT READS IS OF BULK AT MOST 1048576: true; the input reads as it did. -/
def solomonApartUptoRow : OpenClaim := { program := "ytlifghomejdhnaadoor", sum := "15753c161e3b6c4950074308bcc1e2f2b7beb3c6679f76ded5f4f22df559fceb", func := "letterbag/letterbaglaw19.SolomonApart", spec := "solomonApart", unfollowed := true, recurses := true, named := ["letterbag/field.powers"], apart := false, laid := [("letterbag/field.powers", laid_letterbag_field_powers)], narrowed := true }
def SolomonApartUptoSaid : Prop := solomonApartUptoRow.holds Tryd.pinned (OpenSpec.upto solomonApartSpec)

/-- 'letterbaglaw19.SolomonTells', WHERE WHAT IT READS IS OF BULK AT MOST 1048576: true; the input reads as it did. -/
def solomonTellsUptoRow : OpenClaim := { program := "ytlifghomejdhnaadoor", sum := "15753c161e3b6c4950074308bcc1e2f2b7beb3c6679f76ded5f4f22df559fceb", func := "letterbag/letterbaglaw19.SolomonTells", spec := "solomonTells", unfollowed := true, recurses := true, named := ["letterbag/field.powers"], apart := false, laid := [("letterbag/field.powers", laid_letterbag_field_powers)], narrowed := true }
def SolomonTellsUptoSaid : Prop := solomonTellsUptoRow.holds Tryd.pinned (OpenSpec.upto solomonTellsSpec)

/-- 'letterbaglaw19.SolomonCorrects', WHERE WHAT IT READS IS OF BULK AT MOST 1048576: true; the input reads as it did. -/
def solomonCorrectsUptoRow : OpenClaim := { program := "ytlifghomejdhnaadoor", sum := "15753c161e3b6c4950074308bcc1e2f2b7beb3c6679f76ded5f4f22df559fceb", func := "letterbag/letterbaglaw19.SolomonCorrects", spec := "solomonCorrects", unfollowed := true, recurses := true, named := ["letterbag/field.powers"], apart := false, laid := [("letterbag/field.powers", laid_letterbag_field_powers)], narrowed := true }
def SolomonCorrectsUptoSaid : Prop := solomonCorrectsUptoRow.holds Tryd.pinned (OpenSpec.upto solomonCorrectsSpec)

/-- 'letterbaglaw19.SolomonWithin', WHERE WHAT IT READS IS OF BULK AT MOST 1048576: true; the input reads as it did. -/
def solomonWithinUptoRow : OpenClaim := { program := "ytlifghomejdhnaadoor", sum := "15753c161e3b6c4950074308bcc1e2f2b7beb3c6679f76ded5f4f22df559fceb", func := "letterbag/letterbaglaw19.SolomonWithin", spec := "solomonWithin", unfollowed := true, recurses := true, named := ["letterbag/field.powers"], apart := false, laid := [("letterbag/field.powers", laid_letterbag_field_powers)], narrowed := true }
def SolomonWithinUptoSaid : Prop := solomonWithinUptoRow.holds Tryd.pinned (OpenSpec.upto solomonWithinSpec)

/-- 'letterbaglaw19.SolomonSums', WHERE WHAT IT READS IS OF BULK AT MOST 1048576: true; the input reads as it did. -/
def solomonSumsUptoRow : OpenClaim := { program := "ytlifghomejdhnaadoor", sum := "15753c161e3b6c4950074308bcc1e2f2b7beb3c6679f76ded5f4f22df559fceb", func := "letterbag/letterbaglaw19.SolomonSums", spec := "solomonSums", unfollowed := true, recurses := true, named := ["letterbag/field.powers"], apart := false, laid := [("letterbag/field.powers", laid_letterbag_field_powers)], narrowed := true }
def SolomonSumsUptoSaid : Prop := solomonSumsUptoRow.holds Tryd.pinned (OpenSpec.upto solomonSumsSpec)

/-- 'letterbaglaw19.SolomonWrong', WHERE WHAT IT READS IS OF BULK AT MOST 1048576: true; the input reads as it did. -/
def solomonWrongUptoRow : OpenClaim := { program := "ytlifghomejdhnaadoor", sum := "15753c161e3b6c4950074308bcc1e2f2b7beb3c6679f76ded5f4f22df559fceb", func := "letterbag/letterbaglaw19.SolomonWrong", spec := "solomonWrong", unfollowed := true, recurses := true, named := ["letterbag/field.powers"], apart := false, laid := [("letterbag/field.powers", laid_letterbag_field_powers)], narrowed := true }
def SolomonWrongUptoSaid : Prop := solomonWrongUptoRow.holds Tryd.pinned (OpenSpec.upto solomonWrongSpec)

end Rows
end Go.Proofs.YtlifghomejdhnaaDoor
