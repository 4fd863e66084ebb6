/- The small known case: alive answers true. -/
import Derived.Test.YtkcjekboakoejaaPrint3
namespace Go.Proofs.Ytkcjekboakoejaa.Print
open Go.RowKit Go.Proofs.YtkcjekboakoejaaW.PrintWords Go.Proofs.YtkcjekboakoejaaW.PrintLast
set_option linter.unusedVariables false
set_option linter.unusedSimpArgs false
theorem alive03_at : codicillaw03_alive.f = some true := by decide +kernel
theorem codicillaw03_alive.calls (r : Bool) (w : World) (h : codicillaw03_alive.f = some r) :
    Calls Try.prog 33 #[] w fun e w' => e = .returned (.bool r) ∧ Below w.heap.size w w' :=
  codicillaw03_alive.calls1 r w h (Aside0.mk (Option.some.inj (h.symm.trans alive03_at)))
end Go.Proofs.Ytkcjekboakoejaa.Print
