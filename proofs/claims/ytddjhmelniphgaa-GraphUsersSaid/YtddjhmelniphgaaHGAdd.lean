/- graph.Add in the print's form. -/
import Derived.Test.YtddjhmelniphgaaGAdd
import Derived.Test.YtddjhmelniphgaaHGMay
namespace Go.Proofs.Ytddjhmelniphgaa.Print
open Go Go.RowKit Go.Proofs.YtddjhmelniphgaaW.PrintWords Go.Proofs.YtddjhmelniphgaaW.PrintLast
set_option linter.unusedVariables false
set_option linter.unusedSimpArgs false
def graph_Add.f (l0 : List Us) (a1_0 : ByteArray) (a1_1 : Int) (l1_2 : List Nd) : Option ((List Us) × Int) := if (fitUB l0 && decide (l1_2.length ≤ 1048576)) = true then some (addU l0 ⟨⟨a1_0, a1_1⟩, l1_2⟩) else none
theorem graph_Add.calls (P0_ : Nat → Prop) (A0 : Option Addr) (c0 : Nat) (l0 : List Us) (a1_0 : ByteArray) (a1_1 : Int) (P1_2_ : Nat → Prop) (A1_2 : Option Addr) (c1_2 : Nat) (l1_2 : List Nd) (r1 : List Us) (r2 : Int) (w : World) (hs0 : Kd.V k40 40 w w.heap.size (fun k_ => P0_ k_) (.slice A0 l0.length c0) l0) (hs1_2 : Kd.V k24 24 w w.heap.size (fun k_ => P1_2_ k_) (.slice A1_2 l1_2.length c1_2) l1_2) (h : graph_Add.f l0 a1_0 a1_1 l1_2 = some (r1, r2)) :
    Calls Try.prog 19 #[.slice A0 l0.length c0, .agg #[.string a1_0, .int .i64 a1_1, .slice A1_2 l1_2.length c1_2]] w fun e w' => ∃ v0_ : Value, e = .returned (.tuple #[v0_, .int .i64 r2]) ∧ Kd.V k40 40 w' w.heap.size (fun k_ => ((P0_ k_ ∨ P1_2_ k_) ∨ w.heap.size ≤ k_)) v0_ r1 ∧ Below w.heap.size w w' := by
  unfold graph_Add.f at h
  split at h
  · rename_i hf
    rw [Bool.and_eq_true, decide_eq_true_iff] at hf
    have h2 := Option.some.inj h
    exact add_any P0_ P1_2_ A0 A1_2 c0 c1_2 l0 a1_0 a1_1 l1_2 w (Kd.V_at hs0).2.2 (Kd.V_at hs0).2.1 (Kd.V_at hs1_2).2.2 (Kd.V_at hs1_2).2.1 (fitUB_iff.1 hf.1) hf.2 (r1, r2) h2.symm
  · cases h
end Go.Proofs.Ytddjhmelniphgaa.Print
