/- What is known of the values that a law is asked with, and how they are read: each struct type. -/
import Derived.Test.YtddjhmelniphgaaOpn
namespace Go.Proofs.Ytddjhmelniphgaa.Print
open Go.RowKit Go.Proofs.YtddjhmelniphgaaW.PrintWords Go.Proofs.YtddjhmelniphgaaW.PrintLast Go.ChangeShapes Go.WideShapes
set_option linter.unusedVariables false
def G24 (x : S24) : Prop := (x.f0.size ≤ 140737488351232) ∧ ((Lit.int .i64 x.f1).wf = true)
theorem open24 (N : Nat) : Opn (N + 1) Try.prog k24 24 G24 :=
  opn_mono (opn_iso (fun x : S24 => (x.f0, x.f1)) (fun p => ⟨p.1, p.2⟩) (fun _ => rfl) (opn_struct Try.underlying24 (by kernel_rfl) (fopn_cons rfl (by kernel_rfl) (opn_string (by kernel_rfl)) (fopn_last rfl (by kernel_rfl) (opn_int (by kernel_rfl)))))) (fun _ h => h)
def G40 (x : S40) : Prop := (G24 x.f0) ∧ (x.f1.length * Try.prog.bytesOf 24 ≤ 140737488351232 ∧ x.f1.length ≤ 9223372036854775807 ∧ ∀ x_ ∈ x.f1, G24 x_)
theorem open40 (N : Nat) : Opn (N + 3) Try.prog k40 40 G40 :=
  opn_mono (opn_iso (fun x : S40 => (x.f0, x.f1)) (fun p => ⟨p.1, p.2⟩) (fun _ => rfl) (opn_struct Try.underlying40 (by kernel_rfl) (fopn_cons rfl (by kernel_rfl) (open24 _) (fopn_last rfl (by kernel_rfl) (opn_slice (by kernel_rfl) (by kernel_rfl) (open24 _)))))) (fun _ h => h)
def G52 (x : S52) : Prop := ((Lit.int .u8 x.f0).wf = true) ∧ (G40 x.f1)
theorem open52 (N : Nat) : Opn (N + 4) Try.prog k52 52 G52 :=
  opn_mono (opn_iso (fun x : S52 => (x.f0, x.f1)) (fun p => ⟨p.1, p.2⟩) (fun _ => rfl) (opn_struct Try.underlying52 (by kernel_rfl) (fopn_cons rfl (by kernel_rfl) (opn_int (by kernel_rfl)) (fopn_last rfl (by kernel_rfl) (open40 _))))) (fun _ h => h)
end Go.Proofs.Ytddjhmelniphgaa.Print
