/- What digests are: the program's digest of a text is the reference's (any text). -/
import Derived.Test.YtkcjekboakoejaaPrint4
import Derived.Test.YtkcjekboakoejaaHAlive03
namespace Go.Proofs.Ytkcjekboakoejaa.Pure
open Go.RowKit Go.Proofs.Ytkcjekboakoejaa.Print
theorem ShaSums : codicillaw03_ShaSums.Pure := by
  intro s _
  unfold codicillaw03_ShaSums.f sha_Sum.f codicilref03_Sum.f
  by_cases h : (s.size : Int) > 4096
  · rw [if_pos h, alive03_at]; rfl
  · rw [if_neg h, if_pos (by omega)]
    simp [alive03_at]
end Go.Proofs.Ytkcjekboakoejaa.Pure
