/- What is known of the values that a law is asked with, and how they are read: each struct type. -/
import Derived.Test.YtddjhmelniphgaaGreatDoorOpn
namespace Go.Proofs.YtddjhmelniphgaaGreatDoor.Print
open Go.RowKit Go.Proofs.YtddjhmelniphgaaGreatDoorW.PrintWords Go.Proofs.YtddjhmelniphgaaGreatDoorW.PrintLast Go.ChangeShapes Go.WideShapes
set_option linter.unusedVariables false
def G59 (x : S59) : Prop := (x.f0.size ≤ 140737488351232) ∧ (x.f1.size ≤ 140737488351232)
theorem open59 (N : Nat) : Opn (N + 1) Tryz.prog k59 59 G59 :=
  opn_mono (opn_iso (fun x : S59 => (x.f0, x.f1)) (fun p => ⟨p.1, p.2⟩) (fun _ => rfl) (opn_struct Tryz.underlying59 (by kernel_rfl) (fopn_cons rfl (by kernel_rfl) (opn_string (by kernel_rfl)) (fopn_last rfl (by kernel_rfl) (opn_string (by kernel_rfl)))))) (fun _ h => h)
def G25 (x : S25) : Prop := (x.f0.size ≤ 140737488351232) ∧ (x.f1.size ≤ 140737488351232) ∧ (x.f2.length * Tryz.prog.bytesOf 59 ≤ 140737488351232 ∧ x.f2.length ≤ 9223372036854775807 ∧ ∀ x_ ∈ x.f2, G59 x_) ∧ (x.f3.size ≤ 140737488351232)
theorem open25 (N : Nat) : Opn (N + 3) Tryz.prog k25 25 G25 :=
  opn_mono (opn_iso (fun x : S25 => (x.f0, x.f1, x.f2, x.f3)) (fun p => ⟨p.1, p.2.1, p.2.2.1, p.2.2.2⟩) (fun _ => rfl) (opn_struct Tryz.underlying25 (by kernel_rfl) (fopn_cons rfl (by kernel_rfl) (opn_string (by kernel_rfl)) (fopn_cons rfl (by kernel_rfl) (opn_string (by kernel_rfl)) (fopn_cons rfl (by kernel_rfl) (opn_slice (by kernel_rfl) (by kernel_rfl) (open59 _)) (fopn_last rfl (by kernel_rfl) (opn_string (by kernel_rfl)))))))) (fun _ h => h)
def G32 (x : S32) : Prop := ((Lit.int .i64 x.f0).wf = true) ∧ (x.f1.length * Tryz.prog.bytesOf 59 ≤ 140737488351232 ∧ x.f1.length ≤ 9223372036854775807 ∧ ∀ x_ ∈ x.f1, G59 x_) ∧ (x.f2.size ≤ 140737488351232)
theorem open32 (N : Nat) : Opn (N + 3) Tryz.prog k32 32 G32 :=
  opn_mono (opn_iso (fun x : S32 => (x.f0, x.f1, x.f2)) (fun p => ⟨p.1, p.2.1, p.2.2⟩) (fun _ => rfl) (opn_struct Tryz.underlying32 (by kernel_rfl) (fopn_cons rfl (by kernel_rfl) (opn_int (by kernel_rfl)) (fopn_cons rfl (by kernel_rfl) (opn_slice (by kernel_rfl) (by kernel_rfl) (open59 _)) (fopn_last rfl (by kernel_rfl) (opn_string (by kernel_rfl))))))) (fun _ h => h)
end Go.Proofs.YtddjhmelniphgaaGreatDoor.Print
