/- The small known case: alive answers true, whatever the fuel. -/
import Derived.Test.YtkcjekboakoejaaDoorPrint1
namespace Go.Proofs.YtkcjekboakoejaaDoor.Print
open Go.RowKit Go.Proofs.YtkcjekboakoejaaDoorW.PrintWords Go.Proofs.YtkcjekboakoejaaDoorW.PrintLast Go.Proofs.YtkcjekboakoejaaDoorW.PrintMore
set_option linter.unusedVariables false
set_option linter.unusedSimpArgs false
theorem alive11_at : codicillaw11_alive.f 12 = some true := by decide +kernel
theorem alive11_true {k : Nat} {r : Bool} (h : codicillaw11_alive.f k = some r) : r = true := by
  have h1 := at_rounds (g := codicillaw11_alive.f) codicillaw11_alive.mono (Nat.le_max_left k 12) h
  have h2 := at_rounds (g := codicillaw11_alive.f) codicillaw11_alive.mono (Nat.le_max_right k 12) alive11_at
  exact Option.some.inj (h1.symm.trans h2)
theorem alive11_ev : Ev codicillaw11_alive.f true := ⟨12, fun k hk => at_rounds (g := codicillaw11_alive.f) codicillaw11_alive.mono hk alive11_at⟩
theorem codicillaw11_alive.calls (k : Nat) (r : Bool) (w : World) (h : codicillaw11_alive.f k = some r) :
    Calls Tryd.prog 9 #[] w fun e w' => e = .returned (.bool r) ∧ Below w.heap.size w w' :=
  codicillaw11_alive.calls1 k r w h (Aside0.mk (alive11_true h))
end Go.Proofs.YtkcjekboakoejaaDoor.Print
