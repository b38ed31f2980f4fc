-- written by wip/myprint.py (with the kit's print as its engine) for this claim; not the kit's own print; Lean checks it.
import Derived.Test.YtofheegapiicoaaProg
import Derived.Below
import Derived.Deep.Draws
import Derived.Deep.AppendLies
import Derived.Maps.AppendAt
import Derived.OwnWalk
import Derived.Laws.BytesArg
import Derived.Laws.MakeOwn
import Derived.Laws.OwnMore
import Derived.Deep.OwnRows
import Derived.Tactics
import Derived.Lib.ConvBytes
import Derived.Laws.Slices
import Derived.WalkKit
import Derived.KernelRfl
import Derived.RowKit3
import Derived.Deep.LoopGhost
import Derived.Deep.QuietTactic
import Derived.BigQuiet
import Derived.WideLaws
import Derived.Deep.DeepCutAuto
import Derived.Deep.CutBlock
import Derived.Deep.RegionHeld3
import Derived.Laws.Rows
import Derived.Lib.AppendStr
import Derived.ArgAppend
import Derived.Laws.IdiomCopy
import Derived.OrdersHeld
import Derived.Laws.BitsLemmas
import Derived.RowKit
import Derived.Test.YtofheegapiicoaaWWords
import Derived.Test.YtofheegapiicoaaWLast
import Derived.Test.YtofheegapiicoaaWTab
import Derived.Test.YtofheegapiicoaaWFour
import Derived.Test.YtofheegapiicoaaWQPut
import Derived.Test.YtofheegapiicoaaWApart
import Derived.Test.YtofheegapiicoaaWArr
import Derived.Test.YtofheegapiicoaaWZeros
import Derived.Test.YtofheegapiicoaaWFoot
import Derived.Test.YtofheegapiicoaaWKept
import Derived.Test.YtofheegapiicoaaWShare
import Derived.Test.YtofheegapiicoaaWN
import Derived.Test.YtofheegapiicoaaWFootNe
import Derived.Test.YtofheegapiicoaaWAt
import Derived.Test.YtofheegapiicoaaWEqStruct
import Derived.Test.YtofheegapiicoaaWRepsOne
import Derived.Test.YtofheegapiicoaaWInv
import Derived.Test.YtofheegapiicoaaWInvWords
import Derived.Test.YtofheegapiicoaaWGuard
import Derived.Test.YtofheegapiicoaaWNEv
import Derived.Test.YtofheegapiicoaaWMore
namespace Go.Proofs.Ytofheegapiicoaa.Q
open Go.RowKit  Go.Proofs.YtofheegapiicoaaW.PrintWords Go.Proofs.YtofheegapiicoaaW.PrintLast Go.Proofs.YtofheegapiicoaaW.PrintMore
attribute [local go_sem] max2_int min2_int max_two min_two max_three min_three max_four min_four   -- for this text's walks alone
set_option linter.unusedVariables false
set_option linter.unusedSimpArgs false



def errW : Option Int → Value
  | none => .nilIface
  | some c => .iface 0 (.int .i64 c)
theorem errW_none : errW none = .nilIface := rfl
theorem errW_some (c : Int) : errW (some c) = .iface 0 (.int .i64 c) := rfl

-- the values' own types

end Go.Proofs.Ytofheegapiicoaa.Q
