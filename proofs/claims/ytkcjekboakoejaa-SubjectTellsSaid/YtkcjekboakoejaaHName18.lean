/- Contract of subject.Name: which texts are names of subjects. -/
import Derived.Test.YtkcjekboakoejaaPrint0
import Derived.Test.YtkcjekboakoejaaHShelf
namespace Go.Proofs.Ytkcjekboakoejaa.Print
open Go.RowKit Go.Shelf Go.Lib Go.Proofs.YtkcjekboakoejaaW.PrintWords Go.Proofs.YtkcjekboakoejaaW.PrintLast
set_option linter.unusedVariables false
set_option linter.unusedSimpArgs false

/-- A code point that stands in no subject's name. -/
def oddB (r : Nat) : Bool := !(decide (97 ≤ r) && decide (r ≤ 122) || decide (65 ≤ r) && decide (r ≤ 90) || decide (48 ≤ r) && decide (r ≤ 57) || decide (r = 46) || decide (r = 95) || decide (r = 45))

theorem odd_closure (w : World) : PredAt Try.prog 46 #[] encR oddB w := fun W r _ => by
  unfold FnGives
  rcases (by omega : r < 45 ∨ r = 45 ∨ r = 46 ∨ r = 47 ∨ (48 ≤ r ∧ r ≤ 57) ∨ (58 ≤ r ∧ r ≤ 64) ∨ (65 ≤ r ∧ r ≤ 90) ∨ (91 ≤ r ∧ r ≤ 94) ∨ r = 95 ∨ r = 96 ∨ (97 ≤ r ∧ r ≤ 122) ∨ 123 ≤ r) with h | h | h | h | ⟨h, h'⟩ | ⟨h, h'⟩ | ⟨h, h'⟩ | ⟨h, h'⟩ | h | h | ⟨h, h'⟩ | h
  all_goals
    have hb : oddB r = oddB r := rfl
    conv at hb => rhs; simp only [oddB]
    have HB := Aside0.mk hb
    clear hb
    go_enter Try.func46, Try.ntmps46
    go_wp2
    all_goals first | (exfalso; omega) | (go_ret; refine ⟨?_, 0, rfl⟩; rw [HB.out]; refine congrArg (fun b => Ending.returned (.bool b)) ?_; rw [Bool.eq_iff_iff]; (first | (simp; done) | (simp; omega)))

/-- Which texts are names. -/
def nameB (s : ByteArray) : Bool := !s.toList.isEmpty && decide (s.size ≤ 64) && !decide (0 ≤ Lib.idxFunc oddB true s)

set_option maxHeartbeats 1000000 in
theorem name18_any (s : ByteArray) (w : World) :
    Calls Try.prog 27 #[.string s] w fun e w' => e = .returned (.bool (nameB s)) ∧ Below w.heap.size w w' := by
  have hC := Try.strings_ContainsFunc 46 #[] (enters_of Try.func46 (by kernel_rfl) rfl) oddB s w (odd_closure w)
  have hn : nameB s = nameB s := rfl
  conv at hn => rhs; unfold nameB
  have HN := Aside0.mk hn
  clear hn
  generalize decide (0 ≤ Lib.idxFunc oddB true s) = b at hC HN
  by_cases h0 : s.toList = []
  · go_enter Try.func27, Try.ntmps27
    go_wp2
    go_ret
    exact ⟨by rw [HN.out]; simp [h0], Below.refl _ _⟩
  · by_cases h1 : s.size ≤ 64
    · cases b
      all_goals
        go_enter Try.func27, Try.ntmps27
        go_wp2_with (go_at_call 47; refine hC.mono ?_; rintro e w' ⟨rfl, hb'⟩)
        go_ret
        exact ⟨by rw [HN.out]; simp [h0, h1], hb'⟩
    · go_enter Try.func27, Try.ntmps27
      go_wp2
      go_ret
      exact ⟨by rw [HN.out]; simp [h1], Below.refl _ _⟩
end Go.Proofs.Ytkcjekboakoejaa.Print
