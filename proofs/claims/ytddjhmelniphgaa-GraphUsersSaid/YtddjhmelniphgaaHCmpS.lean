/- Contract of cmp.Compare at strings. -/
import Derived.Test.YtddjhmelniphgaaGOrd
import Derived.WalkLawsBesides
namespace Go.Proofs.Ytddjhmelniphgaa.Print
open Go Go.RowKit Go.Proofs.YtddjhmelniphgaaW.PrintWords Go.Proofs.YtddjhmelniphgaaW.PrintLast
set_option linter.unusedVariables false
set_option linter.unusedSimpArgs false
theorem isNaNs (a : ByteArray) (w : World) : Calls Try.prog 54 #[.string a] w fun e w' => e = .returned (.bool false) ∧ w = w' := by
  go_enter Try.func54, Try.ntmps54
  go_wp2
  go_ret
  exact ⟨by simp, rfl⟩
theorem cmpS_any (a b : ByteArray) (w : World) : Calls Try.prog 43 #[.string a, .string b] w fun e w' => e = .returned (.int .i64 (cmpS a b)) ∧ w = w' := by
  have hN := fun x W => isNaNs x W
  unfold cmpS
  cases h1 : Op.bytesLess a.toList b.toList with
  | true =>
    go_enter Try.func43, Try.ntmps43
    go_wp2_with (go_at_call 54; refine (hN _ _).mono ?_; rintro e w' ⟨rfl, rfl⟩)
    go_ret
    exact ⟨rfl, rfl⟩
  | false =>
    cases h2 : Op.bytesLess b.toList a.toList with
    | true =>
      have h3 : (a.toList == b.toList) = false := by
        rw [Bool.eq_false_iff]; intro e; rw [beq_iff_eq] at e; rw [e, bl_irrefl] at h2; cases h2
      go_enter Try.func43, Try.ntmps43
      go_wp2_with (go_at_call 54; refine (hN _ _).mono ?_; rintro e w' ⟨rfl, rfl⟩)
      go_ret
      exact ⟨rfl, rfl⟩
    | false =>
      have h3 : (a.toList == b.toList) = true := by rw [beq_iff_eq]; exact bl_tri _ _ h1 h2
      go_enter Try.func43, Try.ntmps43
      go_wp2_with (go_at_call 54; refine (hN _ _).mono ?_; rintro e w' ⟨rfl, rfl⟩)
      go_ret
      exact ⟨rfl, rfl⟩
def cmp_Compare_string.f (a0 : ByteArray) (a1 : ByteArray) : Option (Int) := some (cmpS a0 a1)
theorem cmp_Compare_string.calls (a0 : ByteArray) (a1 : ByteArray) (r : Int) (w : World) (h : cmp_Compare_string.f a0 a1 = some r) :
    Calls Try.prog 43 #[.string a0, .string a1] w fun e w' => e = .returned (.int .i64 r) ∧ Drawn0 w w' := by
  obtain rfl := Option.some.inj h
  refine (cmpS_any a0 a1 w).mono ?_
  rintro e w' ⟨rfl, rfl⟩
  exact ⟨rfl, Drawn0.refl _⟩
end Go.Proofs.Ytddjhmelniphgaa.Print
