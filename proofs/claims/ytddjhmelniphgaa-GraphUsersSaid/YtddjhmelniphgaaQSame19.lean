/- Plain: rows are themselves. -/
import Derived.Test.YtddjhmelniphgaaQNodes19
import Derived.Test.YtddjhmelniphgaaPrint6
namespace Go.Proofs.Ytddjhmelniphgaa.Print
open Go Go.RowKit Go.Proofs.YtddjhmelniphgaaW.PrintWords Go.Proofs.YtddjhmelniphgaaW.PrintLast
set_option linter.unusedVariables false
set_option linter.unusedSimpArgs false
theorem same_l0 (l : List Us) (hl : l.length ≤ 1048576) (hr : ∀ u ∈ l, u.f1.length ≤ 1048576) : ∀ d i, l.length = i + d → Ev (fun k => codicilref19_Same.l0 k l l (i : Int)) true
  | 0, i, hd => by
    refine Ev.step (f := fun _ => some true) (fun k => ?_) (Ev.now _)
    simp only [codicilref19_Same.l0]
    rw [if_neg (by omega)]
  | d + 1, i, hd => by
    have hi : i < l.length := by omega
    refine Ev.step (fun k => ?_) (Ev.bind (nodes_ev l[i].f1 (hr _ (List.getElem_mem hi))) (f := fun k t => if t = true then codicilref19_Same.l0 k l l ((i + 1 : Nat) : Int) else some false) (Ev.congr (fun k => by rw [if_pos rfl]) (same_l0 l hl hr d (i + 1) (by omega))))
    simp only [codicilref19_Same.l0]
    rw [if_pos (by omega), if_pos (by omega), if_pos (by omega), if_neg (by simp), rdU l i hi, wrapS i (by omega)]
theorem same_ev (l : List Us) (hl : l.length ≤ 1048576) (hr : ∀ u ∈ l, u.f1.length ≤ 1048576) : Ev (fun k => codicilref19_Same.f k l l) true := by
  refine Ev.congr (fun k => ?_) (same_l0 l hl hr l.length 0 (by omega))
  unfold codicilref19_Same.f
  rw [if_pos rfl]
  rfl
end Go.Proofs.Ytddjhmelniphgaa.Print
