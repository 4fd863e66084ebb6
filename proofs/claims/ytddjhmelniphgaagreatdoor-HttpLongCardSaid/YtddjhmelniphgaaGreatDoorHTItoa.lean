/- Contract of strconv.Itoa in the print's form. -/
import Derived.Test.YtddjhmelniphgaaGreatDoorHTLaid
import Derived.Test.YtddjhmelniphgaaGreatDoorHShelf
namespace Go.Proofs.YtddjhmelniphgaaGreatDoor.Print
open Go Go.RowKit Go.Proofs.YtddjhmelniphgaaGreatDoorW.PrintWords Go.Proofs.YtddjhmelniphgaaGreatDoorW.PrintLast
set_option linter.unusedVariables false
set_option linter.unusedSimpArgs false
/-- A number's digits. -/
def itoaN (n : Int) : ByteArray := ⟨(Lib.itoa n).toArray⟩
theorem itoa_any (n : Int) (h0 : -9223372036854775808 ≤ n) (h1 : n ≤ 9223372036854775807) (w : World) (HL : Laid0 w) :
    Calls Tryz.prog 54 #[.int .i64 n] w fun e w' => e = .returned (.string (itoaN n)) ∧ Below w.heap.size w w' :=
  (Tryz.strconv_Itoa n h0 h1 w HL.pow).mono fun e w' ⟨he, k, os, hw⟩ => ⟨he, by rw [hw]; exact Lib.below_grow _ w (Nat.le_refl _) k os⟩
def strconv_Itoa.f (a0 : Int) : Option (ByteArray) := if -9223372036854775808 ≤ a0 ∧ a0 ≤ 9223372036854775807 then some (itoaN a0) else none
theorem strconv_Itoa.calls (a0 : Int) (r : ByteArray) (w : World) (h : strconv_Itoa.f a0 = some r) (HL : Laid0 w) :
    Calls Tryz.prog 54 #[.int .i64 a0] w fun e w' => e = .returned (.string r) ∧ Below w.heap.size w w' := by
  unfold strconv_Itoa.f at h
  split at h
  · rename_i hb
    obtain rfl := Option.some.inj h
    exact itoa_any a0 hb.1 hb.2 w HL
  · cases h
end Go.Proofs.YtddjhmelniphgaaGreatDoor.Print
