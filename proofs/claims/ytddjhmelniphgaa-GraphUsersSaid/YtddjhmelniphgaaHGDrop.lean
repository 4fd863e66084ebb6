/- graph.Drop in the print's form. -/
import Derived.Test.YtddjhmelniphgaaGDrop
import Derived.Test.YtddjhmelniphgaaHGMay
namespace Go.Proofs.Ytddjhmelniphgaa.Print
open Go Go.RowKit Go.Proofs.YtddjhmelniphgaaW.PrintWords Go.Proofs.YtddjhmelniphgaaW.PrintLast
set_option linter.unusedVariables false
set_option linter.unusedSimpArgs false
def graph_Drop.f (l0 : List Us) (a1_0 : ByteArray) (a1_1 : Int) : Option ((List Us) × Int) := if fitUB l0 = true then some (dropU l0 ⟨a1_0, a1_1⟩) else none
theorem graph_Drop.calls (P0_ : Nat → Prop) (A0 : Option Addr) (c0 : Nat) (l0 : List Us) (a1_0 : ByteArray) (a1_1 : Int) (r1 : List Us) (r2 : Int) (w : World) (hs0 : Kd.V k40 40 w w.heap.size (fun k_ => P0_ k_) (.slice A0 l0.length c0) l0) (h : graph_Drop.f l0 a1_0 a1_1 = some (r1, r2)) :
    Calls Try.prog 21 #[.slice A0 l0.length c0, .agg #[.string a1_0, .int .i64 a1_1]] w fun e w' => ∃ v0_ : Value, e = .returned (.tuple #[v0_, .int .i64 r2]) ∧ Kd.V k40 40 w' w.heap.size (fun k_ => (P0_ k_ ∨ w.heap.size ≤ k_)) v0_ r1 ∧ Below w.heap.size w w' := by
  unfold graph_Drop.f at h
  split at h
  · rename_i hf
    have h2 := Option.some.inj h
    exact drop_any P0_ A0 c0 l0 a1_0 a1_1 w (Kd.V_at hs0).2.2 (Kd.V_at hs0).2.1 (fitUB_iff.1 hf) (r1, r2) h2.symm
  · cases h
end Go.Proofs.Ytddjhmelniphgaa.Print
