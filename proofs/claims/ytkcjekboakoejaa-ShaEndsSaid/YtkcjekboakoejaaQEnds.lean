/- Plain law: ShaEnds answers true. -/
import Derived.Test.YtkcjekboakoejaaHSEnds
namespace Go.Proofs.Ytkcjekboakoejaa.Print
open Go Go.RowKit
theorem wf_u8 {a : Int} (h : (Lit.int .u8 a).wf = true) : 0 ≤ a ∧ a ≤ 255 := by
  simp only [Lit.wf, IntKind.min, IntKind.max, IntKind.signed, IntKind.bits, Bool.and_eq_true] at h
  simpa using h
theorem ends_pure (a0 : Int) (h0 : (Lit.int .u8 a0).wf = true) (a1 : Int) (h1 : (Lit.int .u8 a1).wf = true) : codicillaw03_ShaEnds.f a0 a1 = some true := by
  have b0 : 0 ≤ a0 ∧ a0 ≤ 255 := wf_u8 h0
  have b1 : 0 ≤ a1 ∧ a1 ≤ 255 := wf_u8 h1
  unfold codicillaw03_ShaEnds.f
  rw [if_pos ⟨b0.1, b0.2, b1.1, b1.2⟩]
end Go.Proofs.Ytkcjekboakoejaa.Print
