/- The reference's Sum in the print's form. -/
import Derived.Test.YtkcjekboakoejaaHSRSum
import Derived.Test.YtkcjekboakoejaaQNums
namespace Go.Proofs.Ytkcjekboakoejaa.Print
open Go Go.RowKit Go.Proofs.YtkcjekboakoejaaW.PrintWords
def codicilref03_Sum.f (a0 : ByteArray) : Option (ByteArray) := if a0.size ≤ 8192 then some (sumN a0) else none
theorem codicilref03_Sum.calls (a0 : ByteArray) (r : ByteArray) (w : World) (h : codicilref03_Sum.f a0 = some r) :
    Calls Try.prog 35 #[.string a0] w fun e w' => e = .returned (.string r) ∧ Below w.heap.size w w' := by
  unfold codicilref03_Sum.f at h
  split at h
  · rename_i hs
    obtain rfl := Option.some.inj h
    exact rsum_any 400 nums3 nums2 a0 hs w
  · cases h
end Go.Proofs.Ytkcjekboakoejaa.Print
