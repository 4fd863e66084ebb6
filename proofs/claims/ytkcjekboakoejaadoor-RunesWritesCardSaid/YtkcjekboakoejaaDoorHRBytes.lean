/- Contract of runes.Bytes: the bytes of a code point; none of what is none. -/
import Derived.Test.YtkcjekboakoejaaDoorPrint0
import Derived.Test.YtkcjekboakoejaaDoorHShelf
import Derived.Laws.Runes
import Derived.Laws.RangeAny
import Derived.LoopTactic
namespace Go.Proofs.YtkcjekboakoejaaDoor.Print
open Go.RowKit Go.Proofs.YtkcjekboakoejaaDoorW.PrintWords Go.Proofs.YtkcjekboakoejaaDoorW.PrintLast
set_option linter.unusedVariables false
set_option linter.unusedSimpArgs false

def bytesP (r : Int) : ByteArray := if Lib.validRune r = true then Utf8.encode r else ⟨#[]⟩

theorem bytes_any (r : Int) (w : World) : Calls Tryd.prog 35 #[.int .i32 r] w fun e w' => e = .returned (.string (bytesP r)) ∧ w' = w := by
  have hv := Tryd.utf8_ValidRune r w
  have HV := Aside0.mk (show bytesP r = if Lib.validRune r = true then Utf8.encode r else ⟨#[]⟩ from rfl)
  generalize Lib.validRune r = b at hv HV
  cases b with
  | false =>
    go_enter Tryd.func35, Tryd.ntmps35
    go_wp2_with (go_at_call 45; refine hv.mono ?_; rintro e w' ⟨rfl, rfl⟩)
    go_ret
    exact ⟨by rw [HV.out]; rfl, rfl⟩
  | true =>
    go_enter Tryd.func35, Tryd.ntmps35
    go_wp2_with (go_at_call 45; refine hv.mono ?_; rintro e w' ⟨rfl, rfl⟩)
    go_ret
    exact ⟨by rw [HV.out]; rfl, rfl⟩

def runes_Bytes.f (a0 : Int) : Option (ByteArray) := some (bytesP a0)
theorem runes_Bytes.calls (a0 : Int) (r : ByteArray) (w : World) (h : runes_Bytes.f a0 = some r) :
    Calls Tryd.prog 35 #[.int .i32 a0] w fun e w' => e = .returned (.string r) ∧ Below w.heap.size w w' := by
  obtain rfl := Option.some.inj h
  refine (bytes_any a0 w).mono ?_
  rintro e w' ⟨rfl, rfl⟩
  exact ⟨rfl, Below.refl _ _⟩
end Go.Proofs.YtkcjekboakoejaaDoor.Print
