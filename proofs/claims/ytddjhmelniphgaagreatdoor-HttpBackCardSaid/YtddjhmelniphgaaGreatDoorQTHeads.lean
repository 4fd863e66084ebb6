/- Two lists of headers that are the same. -/
import Derived.Test.YtddjhmelniphgaaGreatDoorQTP
import Derived.Test.YtddjhmelniphgaaGreatDoorPrint3
namespace Go.Proofs.YtddjhmelniphgaaGreatDoor.Print
open Go.RowKit Go.Proofs.YtddjhmelniphgaaGreatDoorW.PrintWords Go.Proofs.YtddjhmelniphgaaGreatDoorW.PrintLast
set_option linter.unusedVariables false
set_option linter.unusedSimpArgs false
theorem heads0 (l : List S59) (hl : l.length ≤ 1048576) : ∀ d i, l.length = i + d → Ev (fun k => codicillaw29_heads.l0 k l l (i : Int)) true
  | 0, i, hd => by
    refine Ev.step (f := fun _ => some true) (fun k => ?_) (Ev.now _)
    simp only [codicillaw29_heads.l0]
    rw [if_neg (by omega)]
  | d + 1, i, hd => by
    refine Ev.step (fun k => ?_) (heads0 l hl d (i + 1) (by omega))
    simp only [codicillaw29_heads.l0]
    rw [if_pos (by omega), if_pos (by omega), if_pos (by omega), if_neg (by simp), wup (by omega)]
theorem heads_ev (l : List S59) (hl : l.length ≤ 1048576) : Ev (fun k => codicillaw29_heads.f k l l) true := by
  unfold codicillaw29_heads.f
  simp only [if_true]
  exact heads0 l hl l.length 0 (by omega)
end Go.Proofs.YtddjhmelniphgaaGreatDoor.Print
