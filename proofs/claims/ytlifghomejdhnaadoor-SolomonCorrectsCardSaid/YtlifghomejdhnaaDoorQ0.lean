-- written by wip/myprint.py (with the kit's print as its engine) for this claim; not the kit's own print; Lean checks it.
import Derived.Test.YtlifghomejdhnaaDoorProg
import Derived.Below
import Derived.Deep.Draws
import Derived.Deep.AppendLies
import Derived.Maps.AppendAt
import Derived.OwnWalk
import Derived.Laws.BytesArg
import Derived.Laws.MakeOwn
import Derived.Laws.OwnMore
import Derived.Deep.OwnRows
import Derived.Tactics
import Derived.Lib.ConvBytes
import Derived.Laws.Slices
import Derived.WalkKit
import Derived.KernelRfl
import Derived.RowKit3
import Derived.Deep.LoopGhost
import Derived.Deep.QuietTactic
import Derived.BigQuiet
import Derived.WideLaws
import Derived.Deep.DeepCutAuto
import Derived.Deep.CutBlock
import Derived.Deep.RegionHeld3
import Derived.Laws.Rows
import Derived.Lib.AppendStr
import Derived.ArgAppend
import Derived.Laws.IdiomCopy
import Derived.OrdersHeld
import Derived.Laws.BitsLemmas
import Derived.RowKit
import Derived.Test.YtlifghomejdhnaaDoorWWords
import Derived.Test.YtlifghomejdhnaaDoorWLast
import Derived.Test.YtlifghomejdhnaaDoorWTab
import Derived.Test.YtlifghomejdhnaaDoorWFour
import Derived.Test.YtlifghomejdhnaaDoorWQPut
import Derived.Test.YtlifghomejdhnaaDoorWApart
import Derived.Test.YtlifghomejdhnaaDoorWArr
import Derived.Test.YtlifghomejdhnaaDoorWZeros
import Derived.Test.YtlifghomejdhnaaDoorWFoot
import Derived.Test.YtlifghomejdhnaaDoorWKept
import Derived.Test.YtlifghomejdhnaaDoorWShare
import Derived.Test.YtlifghomejdhnaaDoorWN
import Derived.Test.YtlifghomejdhnaaDoorWFootNe
import Derived.Test.YtlifghomejdhnaaDoorWAt
import Derived.Test.YtlifghomejdhnaaDoorWEqStruct
import Derived.Test.YtlifghomejdhnaaDoorWRepsOne
import Derived.Test.YtlifghomejdhnaaDoorWInv
import Derived.Test.YtlifghomejdhnaaDoorWInvWords
import Derived.Test.YtlifghomejdhnaaDoorWGuard
import Derived.Test.YtlifghomejdhnaaDoorWNEv
import Derived.Test.YtlifghomejdhnaaDoorWMore
namespace Go.Proofs.YtlifghomejdhnaaDoor.Q
open Go.RowKit  Go.Proofs.YtlifghomejdhnaaDoorW.PrintWords Go.Proofs.YtlifghomejdhnaaDoorW.PrintLast Go.Proofs.YtlifghomejdhnaaDoorW.PrintMore
attribute [local go_sem] max2_int min2_int max_two min_two max_three min_three max_four min_four   -- for this text's walks alone
set_option linter.unusedVariables false
set_option linter.unusedSimpArgs false



def errW : Option Int → Value
  | none => .nilIface
  | some c => .iface 0 (.int .i64 c)
theorem errW_none : errW none = .nilIface := rfl
theorem errW_some (c : Int) : errW (some c) = .iface 0 (.int .i64 c) := rfl

-- the values' own types

end Go.Proofs.YtlifghomejdhnaaDoor.Q
