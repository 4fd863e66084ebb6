/- graph.Order in the print's form. -/
import Derived.Test.YtddjhmelniphgaaGOrdW
import Derived.Test.YtddjhmelniphgaaHGMay
namespace Go.Proofs.Ytddjhmelniphgaa.Print
open Go Go.RowKit Go.Proofs.YtddjhmelniphgaaW.PrintWords Go.Proofs.YtddjhmelniphgaaW.PrintLast
set_option linter.unusedVariables false
set_option linter.unusedSimpArgs false
def graph_Order.f (l0 : List Us) (l1 : List Nd) : Option ((List Nd) × Int) := if (fitUB l0 && (decide (l1.length ≤ 1048576) && l1.all okNB)) = true then some (orderU l0 l1) else none
theorem graph_Order.calls (A0 : Option Addr) (c0 : Nat) (l0 : List Us) (A1 : Option Addr) (c1 : Nat) (l1 : List Nd) (r1 : List Nd) (r2 : Int) (w : World) (hr0 : Kd.C k40 w A0 l0.length l0) (hc0 : l0.length ≤ c0) (hr1 : Kd.C k24 w A1 l1.length l1) (hc1 : l1.length ≤ c1) (h : graph_Order.f l0 l1 = some (r1, r2)) :
    Calls Try.prog 9 #[.slice A0 l0.length c0, .slice A1 l1.length c1] w fun e w' => ∃ v0_ : Value, e = .returned (.tuple #[v0_, .int .i64 r2]) ∧ Kd.R k24 24 w' w.heap.size (fun _ => True) v0_ r1 ∧ Below w.heap.size w w' := by
  unfold graph_Order.f at h
  split at h
  · rename_i hf
    rw [Bool.and_eq_true, Bool.and_eq_true, decide_eq_true_iff, List.all_eq_true] at hf
    have h2 := Option.some.inj h
    exact order_graph A0 A1 c0 c1 l0 l1 w hr0 hc0 hr1 hc1 (fitUB_iff.1 hf.1) hf.2.1 (fun x hx => okNB_iff.1 (hf.2.2 x hx)) (r1, r2) h2.symm
  · cases h
end Go.Proofs.Ytddjhmelniphgaa.Print
