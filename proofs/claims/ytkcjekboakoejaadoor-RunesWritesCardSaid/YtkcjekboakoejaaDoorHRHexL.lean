/- Contract of runes.Hex at every text, as the printed texts take it: out of the row's listed variables. -/
import Derived.Test.YtkcjekboakoejaaDoorHRErr
namespace Go.Proofs.YtkcjekboakoejaaDoor.Print
open Go.RowKit Go.Proofs.YtkcjekboakoejaaDoorW.PrintWords Go.Proofs.YtkcjekboakoejaaDoorW.PrintLast
def runes_Hex.f (a0 : ByteArray) : Option (Int × Bool) := some (hexAll a0)
theorem runes_Hex.calls (a0 : ByteArray) (r1 : Int) (r2 : Bool) (w : World) (h : runes_Hex.f a0 = some (r1, r2)) (HL : Laid0 w) :
    Calls Tryd.prog 33 #[.string a0] w fun e w' => e = .returned (.tuple #[.int .i32 r1, .bool r2]) ∧ Below w.heap.size w w' := by
  have e := Option.some.inj h
  have h1 := hex_all a0 w HL
  rw [e] at h1
  exact h1
end Go.Proofs.YtkcjekboakoejaaDoor.Print
