-- Written by wip/tools/xprint.py of this session's repo (the kit's print, run with external functions). Lean checks it.
import Derived.Test.YtkcjekboakoejaaProg
import Derived.Test.YtkcjekboakoejaaHSq
import Derived.Below
import Derived.Deep.Draws
import Derived.Deep.AppendLies
import Derived.Maps.AppendAt
import Derived.OwnWalk
import Derived.Laws.BytesArg
import Derived.Laws.MakeOwn
import Derived.Laws.OwnMore
import Derived.Deep.OwnRows
import Derived.Tactics
import Derived.Lib.ConvBytes
import Derived.Laws.Slices
import Derived.WalkKit
import Derived.KernelRfl
import Derived.RowKit3
import Derived.Deep.LoopGhost
import Derived.Deep.QuietTactic
import Derived.BigQuiet
import Derived.WideLaws
import Derived.Deep.DeepCutAuto
import Derived.Deep.CutBlock
import Derived.Deep.RegionHeld3
import Derived.Laws.Rows
import Derived.Lib.AppendStr
import Derived.ArgAppend
import Derived.Laws.IdiomCopy
import Derived.OrdersHeld
import Derived.Laws.BitsLemmas
import Derived.RowKit
import Derived.Test.YtkcjekboakoejaaWWords
import Derived.Test.YtkcjekboakoejaaWLast
import Derived.Test.YtkcjekboakoejaaWTab
import Derived.Test.YtkcjekboakoejaaWFour
import Derived.Test.YtkcjekboakoejaaWQPut
import Derived.Test.YtkcjekboakoejaaWApart
import Derived.Test.YtkcjekboakoejaaWArr
import Derived.Test.YtkcjekboakoejaaWZeros
import Derived.Test.YtkcjekboakoejaaWFoot
import Derived.Test.YtkcjekboakoejaaWKept
import Derived.Test.YtkcjekboakoejaaWShare
import Derived.Test.YtkcjekboakoejaaWN
import Derived.Test.YtkcjekboakoejaaWFootNe
import Derived.Test.YtkcjekboakoejaaWAt
import Derived.Test.YtkcjekboakoejaaWEqStruct
import Derived.Test.YtkcjekboakoejaaWRepsOne
import Derived.Test.YtkcjekboakoejaaWInv
import Derived.Test.YtkcjekboakoejaaWInvWords
import Derived.Test.YtkcjekboakoejaaWGuard
import Derived.Test.YtkcjekboakoejaaWNEv
import Derived.Test.YtkcjekboakoejaaWMore
namespace Go.Proofs.Ytkcjekboakoejaa.Print
open Go.RowKit Go.Proofs.YtkcjekboakoejaaW.PrintWords Go.Proofs.YtkcjekboakoejaaW.PrintLast Go.Proofs.YtkcjekboakoejaaW.PrintMore
attribute [local go_sem] max2_int min2_int max_two min_two max_three min_three max_four min_four   -- for this text's walks alone
set_option linter.unusedVariables false
set_option linter.unusedSimpArgs false



def errW : Option Int → Value
  | none => .nilIface
  | some c => .iface 0 (.int .i64 c)
theorem errW_none : errW none = .nilIface := rfl
theorem errW_some (c : Int) : errW (some c) = .iface 0 (.int .i64 c) := rfl

theorem info5 : (Try.prog.info? 5).map (fun i => (i.zero, i.size, i.bytes)) = some (some (.int .u8 0), 1, 1) := by kernel_rfl
theorem info25 : (Try.prog.info? 25).map (fun i => (i.zero, i.size, i.bytes)) = some (some (.int .u32 0), 1, 4) := by kernel_rfl
theorem info78 : (Try.prog.info? 78).map (fun i => (i.zero, i.size, i.bytes)) = some (some (.int .u64 0), 1, 8) := by kernel_rfl
-- the values' own types

end Go.Proofs.Ytkcjekboakoejaa.Print
