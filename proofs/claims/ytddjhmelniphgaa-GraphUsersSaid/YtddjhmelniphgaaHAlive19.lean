/- The small known case: alive answers true, whatever the fuel. -/
import Derived.Test.YtddjhmelniphgaaPrint3
namespace Go.Proofs.Ytddjhmelniphgaa.Print
open Go.RowKit Go.Proofs.YtddjhmelniphgaaW.PrintWords Go.Proofs.YtddjhmelniphgaaW.PrintLast Go.Proofs.YtddjhmelniphgaaW.PrintMore
set_option linter.unusedVariables false
set_option linter.unusedSimpArgs false
theorem alive19_at : codicillaw19_alive.f 12 = some true := by decide +kernel
theorem alive19_true {k : Nat} {r : Bool} (h : codicillaw19_alive.f k = some r) : r = true := by
  have h1 := at_rounds (g := codicillaw19_alive.f) codicillaw19_alive.mono (Nat.le_max_left k 12) h
  have h2 := at_rounds (g := codicillaw19_alive.f) codicillaw19_alive.mono (Nat.le_max_right k 12) alive19_at
  exact Option.some.inj (h1.symm.trans h2)
theorem alive19_ev : Ev codicillaw19_alive.f true := ⟨12, fun k hk => at_rounds (g := codicillaw19_alive.f) codicillaw19_alive.mono hk alive19_at⟩
theorem codicillaw19_alive.calls (k : Nat) (r : Bool) (w : World) (h : codicillaw19_alive.f k = some r) :
    Calls Try.prog 8 #[] w fun e w' => e = .returned (.bool r) ∧ Below w.heap.size w w' :=
  codicillaw19_alive.calls1 k r w h (Aside0.mk (alive19_true h))
end Go.Proofs.Ytddjhmelniphgaa.Print
