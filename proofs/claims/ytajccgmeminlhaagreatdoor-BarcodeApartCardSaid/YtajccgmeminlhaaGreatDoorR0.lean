-- written by wip/myprint.py (with the kit's print as its engine) for this claim; not the kit's own print; Lean checks it.
import Derived.Test.YtajccgmeminlhaaGreatDoorProg
import Derived.Below
import Derived.Deep.Draws
import Derived.Deep.AppendLies
import Derived.Maps.AppendAt
import Derived.OwnWalk
import Derived.Laws.BytesArg
import Derived.Laws.MakeOwn
import Derived.Laws.OwnMore
import Derived.Deep.OwnRows
import Derived.Tactics
import Derived.Lib.ConvBytes
import Derived.Laws.Slices
import Derived.WalkKit
import Derived.KernelRfl
import Derived.RowKit3
import Derived.Deep.LoopGhost
import Derived.Deep.QuietTactic
import Derived.BigQuiet
import Derived.WideLaws
import Derived.Deep.DeepCutAuto
import Derived.Deep.CutBlock
import Derived.Deep.RegionHeld3
import Derived.Laws.Rows
import Derived.Lib.AppendStr
import Derived.ArgAppend
import Derived.Laws.IdiomCopy
import Derived.OrdersHeld
import Derived.Laws.BitsLemmas
import Derived.RowKit
import Derived.Test.YtajccgmeminlhaaGreatDoorWWords
import Derived.Test.YtajccgmeminlhaaGreatDoorWLast
import Derived.Test.YtajccgmeminlhaaGreatDoorWTab
import Derived.Test.YtajccgmeminlhaaGreatDoorWFour
import Derived.Test.YtajccgmeminlhaaGreatDoorWQPut
import Derived.Test.YtajccgmeminlhaaGreatDoorWApart
import Derived.Test.YtajccgmeminlhaaGreatDoorWArr
import Derived.Test.YtajccgmeminlhaaGreatDoorWZeros
import Derived.Test.YtajccgmeminlhaaGreatDoorWFoot
import Derived.Test.YtajccgmeminlhaaGreatDoorWKept
import Derived.Test.YtajccgmeminlhaaGreatDoorWShare
import Derived.Test.YtajccgmeminlhaaGreatDoorWN
import Derived.Test.YtajccgmeminlhaaGreatDoorWFootNe
import Derived.Test.YtajccgmeminlhaaGreatDoorWAt
import Derived.Test.YtajccgmeminlhaaGreatDoorWEqStruct
import Derived.Test.YtajccgmeminlhaaGreatDoorWRepsOne
import Derived.Test.YtajccgmeminlhaaGreatDoorWInv
import Derived.Test.YtajccgmeminlhaaGreatDoorWInvWords
import Derived.Test.YtajccgmeminlhaaGreatDoorWGuard
import Derived.Test.YtajccgmeminlhaaGreatDoorWNEv
import Derived.Test.YtajccgmeminlhaaGreatDoorWMore
namespace Go.Proofs.YtajccgmeminlhaaGreatDoor.R
open Go.RowKit  Go.Proofs.YtajccgmeminlhaaGreatDoorW.PrintWords Go.Proofs.YtajccgmeminlhaaGreatDoorW.PrintLast Go.Proofs.YtajccgmeminlhaaGreatDoorW.PrintMore
attribute [local go_sem] max2_int min2_int max_two min_two max_three min_three max_four min_four   -- for this text's walks alone
set_option linter.unusedVariables false
set_option linter.unusedSimpArgs false



def errW : Option Int → Value
  | none => .nilIface
  | some c => .iface 0 (.int .i64 c)
theorem errW_none : errW none = .nilIface := rfl
theorem errW_some (c : Int) : errW (some c) = .iface 0 (.int .i64 c) := rfl

-- the values' own types

end Go.Proofs.YtajccgmeminlhaaGreatDoor.R
