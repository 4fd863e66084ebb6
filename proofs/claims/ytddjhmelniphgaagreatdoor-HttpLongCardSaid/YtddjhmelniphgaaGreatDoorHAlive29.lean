/- The small known case: alive answers true, whatever the fuel. -/
import Derived.Test.YtddjhmelniphgaaGreatDoorPrint2
namespace Go.Proofs.YtddjhmelniphgaaGreatDoor.Print
open Go.RowKit Go.Proofs.YtddjhmelniphgaaGreatDoorW.PrintWords Go.Proofs.YtddjhmelniphgaaGreatDoorW.PrintLast Go.Proofs.YtddjhmelniphgaaGreatDoorW.PrintMore
set_option linter.unusedVariables false
set_option linter.unusedSimpArgs false
theorem alive29_at : codicillaw29_alive.f 12 = some true := by decide +kernel
theorem alive29_true {k : Nat} {r : Bool} (h : codicillaw29_alive.f k = some r) : r = true := by
  have h1 := at_rounds (g := codicillaw29_alive.f) codicillaw29_alive.mono (Nat.le_max_left k 12) h
  have h2 := at_rounds (g := codicillaw29_alive.f) codicillaw29_alive.mono (Nat.le_max_right k 12) alive29_at
  exact Option.some.inj (h1.symm.trans h2)
theorem alive29_ev : Ev codicillaw29_alive.f true := ⟨12, fun k hk => at_rounds (g := codicillaw29_alive.f) codicillaw29_alive.mono hk alive29_at⟩
theorem codicillaw29_alive.calls (k : Nat) (r : Bool) (w : World) (h : codicillaw29_alive.f k = some r) (HL : Laid0 w) :
    Calls Tryz.prog 9 #[] w fun e w' => e = .returned (.bool r) ∧ Below w.heap.size w w' :=
  codicillaw29_alive.calls1 k r w h (Aside0.mk (alive29_true h)) HL
end Go.Proofs.YtddjhmelniphgaaGreatDoor.Print
