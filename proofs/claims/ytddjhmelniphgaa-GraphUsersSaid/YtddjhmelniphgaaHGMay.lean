/- graph.May in the print's form. -/
import Derived.Test.YtddjhmelniphgaaGMay
namespace Go.Proofs.Ytddjhmelniphgaa.Print
open Go Go.RowKit Go.Proofs.YtddjhmelniphgaaW.PrintWords Go.Proofs.YtddjhmelniphgaaW.PrintLast
set_option linter.unusedVariables false
set_option linter.unusedSimpArgs false
def okNB (x : Nd) : Bool := decide (x.f0.size ≤ maxLen) && (Lit.int .i64 x.f1).wf
theorem okNB_iff {x : Nd} : okNB x = true ↔ okN x := by
  unfold okNB okN
  rw [Bool.and_eq_true, decide_eq_true_iff]
def fitUB (l : List Us) : Bool := decide (l.length ≤ 1048576) && l.all fun u => okNB u.f0 && (decide (u.f1.length ≤ 1048576) && u.f1.all okNB)
theorem fitUB_iff {l : List Us} : fitUB l = true ↔ FitU l := by
  unfold fitUB
  rw [Bool.and_eq_true, decide_eq_true_iff, List.all_eq_true]
  constructor
  · rintro ⟨h1, h2⟩
    have h3 : ∀ u ∈ l, okN u.f0 ∧ u.f1.length ≤ 1048576 ∧ ∀ x ∈ u.f1, okN x := fun u hu => by
      have := h2 u hu
      rw [Bool.and_eq_true, Bool.and_eq_true, decide_eq_true_iff, List.all_eq_true] at this
      exact ⟨okNB_iff.1 this.1, this.2.1, fun x hx => okNB_iff.1 (this.2.2 x hx)⟩
    exact ⟨h1, fun u hu => (h3 u hu).1, fun u hu => (h3 u hu).2.1, fun u hu => (h3 u hu).2.2⟩
  · rintro ⟨h1, h2, h3, h4⟩
    refine ⟨h1, fun u hu => ?_⟩
    rw [Bool.and_eq_true, Bool.and_eq_true, decide_eq_true_iff, List.all_eq_true]
    exact ⟨okNB_iff.2 (h2 u hu), h3 u hu, fun x hx => okNB_iff.2 (h4 u hu x hx)⟩
def graph_May.f (l0 : List Us) : Option (Int) := if fitUB l0 = true then some (mayN l0) else none
theorem graph_May.calls (A0 : Option Addr) (c0 : Nat) (l0 : List Us) (r : Int) (w : World) (hr0 : Kd.C k40 w A0 l0.length l0) (hc0 : l0.length ≤ c0) (h : graph_May.f l0 = some r) :
    Calls Try.prog 13 #[.slice A0 l0.length c0] w fun e w' => e = .returned (.int .i64 r) ∧ Below w.heap.size w w' := by
  unfold graph_May.f at h
  split at h
  · rename_i hf
    obtain rfl := Option.some.inj h
    exact may_any A0 c0 l0 w hr0 hc0 (fitUB_iff.1 hf)
  · cases h
end Go.Proofs.Ytddjhmelniphgaa.Print
