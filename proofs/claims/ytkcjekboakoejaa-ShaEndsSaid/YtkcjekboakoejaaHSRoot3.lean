/- The reference's Root in the print's form. -/
import Derived.Test.YtkcjekboakoejaaHSRoot
namespace Go.Proofs.Ytkcjekboakoejaa.Print
open Go Go.RowKit Go.Proofs.YtkcjekboakoejaaW.PrintWords
def codicilref03_Root.f (a0 : Int) (a1 : Int) : Option (Int) := if a1 = 2 then some (rootI a0 2) else if a1 = 3 then some (rootI a0 3) else none
theorem codicilref03_Root.calls (a0 : Int) (a1 : Int) (r : Int) (w : World) (h : codicilref03_Root.f a0 a1 = some r) :
    Calls Try.prog 71 #[.int .u64 a0, .int .i64 a1] w fun e w' => e = .returned (.int .u32 r) ∧ Below w.heap.size w w' := by
  unfold codicilref03_Root.f at h
  split at h
  · rename_i h2
    obtain rfl := Option.some.inj h
    rw [h2]
    exact root_any a0 2 (.inl rfl) w
  · split at h
    · rename_i h3
      obtain rfl := Option.some.inj h
      rw [h3]
      exact root_any a0 3 (.inr rfl) w
    · cases h
end Go.Proofs.Ytkcjekboakoejaa.Print
