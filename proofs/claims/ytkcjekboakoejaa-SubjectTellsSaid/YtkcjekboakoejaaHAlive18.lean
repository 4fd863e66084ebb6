/- The small known case: alive answers true, whatever the fuel. -/
import Derived.Test.YtkcjekboakoejaaPrint2
namespace Go.Proofs.Ytkcjekboakoejaa.Print
open Go.RowKit Go.Proofs.YtkcjekboakoejaaW.PrintWords Go.Proofs.YtkcjekboakoejaaW.PrintLast Go.Proofs.YtkcjekboakoejaaW.PrintMore
set_option linter.unusedVariables false
set_option linter.unusedSimpArgs false
theorem alive18_at : codicillaw18_alive.f 12 = some true := by decide +kernel
theorem alive18_true {k : Nat} {r : Bool} (h : codicillaw18_alive.f k = some r) : r = true := by
  have h1 := at_rounds (g := codicillaw18_alive.f) codicillaw18_alive.mono (Nat.le_max_left k 12) h
  have h2 := at_rounds (g := codicillaw18_alive.f) codicillaw18_alive.mono (Nat.le_max_right k 12) alive18_at
  exact Option.some.inj (h1.symm.trans h2)
theorem alive18_ev : Ev codicillaw18_alive.f true := ⟨12, fun k hk => at_rounds (g := codicillaw18_alive.f) codicillaw18_alive.mono hk alive18_at⟩
theorem codicillaw18_alive.calls (k : Nat) (r : Bool) (w : World) (h : codicillaw18_alive.f k = some r) :
    Calls Try.prog 10 #[] w fun e w' => e = .returned (.bool r) ∧ Below w.heap.size w w' :=
  codicillaw18_alive.calls1 k r w h (Aside0.mk (alive18_true h))
end Go.Proofs.Ytkcjekboakoejaa.Print
