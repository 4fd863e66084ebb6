/- Plain functions and contracts of sha.Sum, sha.Hex, sha.Bytes in the print's form. -/
import Derived.Test.YtkcjekboakoejaaHSSum
import Derived.Test.YtkcjekboakoejaaHSUnhex
namespace Go.Proofs.Ytkcjekboakoejaa.Print
open Go Go.RowKit Go.Proofs.YtkcjekboakoejaaW.PrintWords
set_option linter.unusedVariables false
set_option linter.unusedSimpArgs false
def sha_Sum.f (a0 : ByteArray) : Option (ByteArray) := if a0.size ≤ 8192 then some (sumN a0) else none
theorem sha_Sum.calls (a0 : ByteArray) (r : ByteArray) (w : World) (h : sha_Sum.f a0 = some r) :
    Calls Try.prog 34 #[.string a0] w fun e w' => e = .returned (.string r) ∧ Below w.heap.size w w' := by
  unfold sha_Sum.f at h
  split at h
  · rename_i hs
    obtain rfl := Option.some.inj h
    exact sum_any a0 (by omega) w
  · cases h
def unhexP (l : List UInt8) : ByteArray × Bool := if l.all (fun c => decide (nibN c < 16)) && l.length % 2 == 0 then (⟨(unhexN l).toArray⟩, true) else (⟨#[]⟩, false)
def sha_Bytes.f (a0 : ByteArray) : Option (ByteArray × Bool) := if a0.size ≤ 8192 then some (unhexP a0.data.toList) else none
theorem sha_Bytes.calls (a0 : ByteArray) (r1 : ByteArray) (r2 : Bool) (w : World) (h : sha_Bytes.f a0 = some (r1, r2)) :
    Calls Try.prog 36 #[.string a0] w fun e w' => e = .returned (.tuple #[.string r1, .bool r2]) ∧ Below w.heap.size w w' := by
  unfold sha_Bytes.f at h
  split at h
  · rename_i hs
    have h1 := Option.some.inj h
    have h2 := unhex_any a0 hs w
    have e : unhexV a0.data.toList = .tuple #[.string r1, .bool r2] := by
      unfold unhexP at h1
      unfold unhexV
      split at h1 <;> (rename_i hc; obtain ⟨rfl, rfl⟩ := Prod.mk.inj h1; first | rw [if_pos hc] | rw [if_neg hc])
    rw [e] at h2
    exact h2
  · cases h
def sha_Hex.f (a0 : ByteArray) : Option (ByteArray) := if a0.size ≤ 8192 then some ⟨(hexL a0.data.toList).toArray⟩ else none
theorem sha_Hex.calls (a0 : ByteArray) (r : ByteArray) (w : World) (h : sha_Hex.f a0 = some r) :
    Calls Try.prog 38 #[.string a0] w fun e w' => e = .returned (.string r) ∧ Below w.heap.size w w' := by
  unfold sha_Hex.f at h
  split at h
  · rename_i hs
    obtain rfl := Option.some.inj h
    exact hex_any a0 (by omega) w
  · cases h
end Go.Proofs.Ytkcjekboakoejaa.Print
