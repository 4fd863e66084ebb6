/- Two requests, two responses that are the same. -/
import Derived.Test.YtddjhmelniphgaaGreatDoorQTHeads
import Derived.Test.YtddjhmelniphgaaGreatDoorPrint3
namespace Go.Proofs.YtddjhmelniphgaaGreatDoor.Print
open Go.RowKit Go.Proofs.YtddjhmelniphgaaGreatDoorW.PrintWords Go.Proofs.YtddjhmelniphgaaGreatDoorW.PrintLast
set_option linter.unusedVariables false
set_option linter.unusedSimpArgs false
theorem requests_ev (m t b : ByteArray) (l : List S59) (hl : l.length ≤ 1048576) : Ev (fun k => codicillaw29_Requests.f k m t l b m t l b) true := by
  unfold codicillaw29_Requests.f
  simp only [if_true]
  exact Ev.bind (heads_ev l hl) (Ev.now _)
theorem responses_ev (c : Int) (b : ByteArray) (l : List S59) (hl : l.length ≤ 1048576) : Ev (fun k => codicillaw29_Responses.f k c l b c l b) true := by
  unfold codicillaw29_Responses.f
  simp only [if_true]
  exact Ev.bind (heads_ev l hl) (Ev.now _)
end Go.Proofs.YtddjhmelniphgaaGreatDoor.Print
