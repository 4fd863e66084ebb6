/- The small known case: alive answers true. -/
import Derived.Test.YtkcjekboakoejaaDoorPrint1
namespace Go.Proofs.YtkcjekboakoejaaDoor.Print
open Go.RowKit Go.Proofs.YtkcjekboakoejaaDoorW.PrintWords Go.Proofs.YtkcjekboakoejaaDoorW.PrintLast
set_option linter.unusedVariables false
set_option linter.unusedSimpArgs false
theorem alive01_at : codicillaw01_alive.f = some true := by decide +kernel
theorem codicillaw01_alive.calls (r : Bool) (w : World) (h : codicillaw01_alive.f = some r) (HL : Laid0 w) :
    Calls Tryd.prog 20 #[] w fun e w' => e = .returned (.bool r) ∧ Below w.heap.size w w' :=
  codicillaw01_alive.calls1 r w h (Aside0.mk (Option.some.inj (h.symm.trans alive01_at))) HL
end Go.Proofs.YtkcjekboakoejaaDoor.Print
