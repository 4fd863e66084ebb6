-- Written by wip/tools/xprint.py of this session's repo (the kit's print, run with external functions). Lean checks it.
import Derived.Test.YtkcjekboakoejaaDoorProg
import Derived.Test.YtkcjekboakoejaaDoorHSq
import Derived.Below
import Derived.Deep.Draws
import Derived.Deep.AppendLies
import Derived.Maps.AppendAt
import Derived.OwnWalk
import Derived.Laws.BytesArg
import Derived.Laws.MakeOwn
import Derived.Laws.OwnMore
import Derived.Deep.OwnRows
import Derived.Tactics
import Derived.Lib.ConvBytes
import Derived.Laws.Slices
import Derived.WalkKit
import Derived.KernelRfl
import Derived.RowKit3
import Derived.Deep.LoopGhost
import Derived.Deep.QuietTactic
import Derived.BigQuiet
import Derived.WideLaws
import Derived.Deep.DeepCutAuto
import Derived.Deep.CutBlock
import Derived.Deep.RegionHeld3
import Derived.Laws.Rows
import Derived.Lib.AppendStr
import Derived.ArgAppend
import Derived.Laws.IdiomCopy
import Derived.OrdersHeld
import Derived.Laws.BitsLemmas
import Derived.RowKit
import Derived.Test.YtkcjekboakoejaaDoorWWords
import Derived.Test.YtkcjekboakoejaaDoorWLast
import Derived.Test.YtkcjekboakoejaaDoorWTab
import Derived.Test.YtkcjekboakoejaaDoorWFour
import Derived.Test.YtkcjekboakoejaaDoorWQPut
import Derived.Test.YtkcjekboakoejaaDoorWApart
import Derived.Test.YtkcjekboakoejaaDoorWArr
import Derived.Test.YtkcjekboakoejaaDoorWZeros
import Derived.Test.YtkcjekboakoejaaDoorWFoot
import Derived.Test.YtkcjekboakoejaaDoorWKept
import Derived.Test.YtkcjekboakoejaaDoorWShare
import Derived.Test.YtkcjekboakoejaaDoorWN
import Derived.Test.YtkcjekboakoejaaDoorWFootNe
import Derived.Test.YtkcjekboakoejaaDoorWAt
import Derived.Test.YtkcjekboakoejaaDoorWEqStruct
import Derived.Test.YtkcjekboakoejaaDoorWRepsOne
import Derived.Test.YtkcjekboakoejaaDoorWInv
import Derived.Test.YtkcjekboakoejaaDoorWInvWords
import Derived.Test.YtkcjekboakoejaaDoorWGuard
import Derived.Test.YtkcjekboakoejaaDoorWNEv
import Derived.Test.YtkcjekboakoejaaDoorWMore
namespace Go.Proofs.YtkcjekboakoejaaDoor.Print
open Go.RowKit Go.Proofs.YtkcjekboakoejaaDoorW.PrintWords Go.Proofs.YtkcjekboakoejaaDoorW.PrintLast Go.Proofs.YtkcjekboakoejaaDoorW.PrintMore
attribute [local go_sem] max2_int min2_int max_two min_two max_three min_three max_four min_four   -- for this text's walks alone
set_option linter.unusedVariables false
set_option linter.unusedSimpArgs false



def errW : Option Int → Value
  | none => .nilIface
  | some c => .iface 0 (.int .i64 c)
theorem errW_none : errW none = .nilIface := rfl
theorem errW_some (c : Int) : errW (some c) = .iface 0 (.int .i64 c) := rfl

-- the values' own types

end Go.Proofs.YtkcjekboakoejaaDoor.Print
