/- What is known of the values that a law is asked with, and how they are read: each struct type. -/
import Derived.Test.YtkcjekboakoejaaOpn
namespace Go.Proofs.Ytkcjekboakoejaa.Print
open Go.RowKit Go.Proofs.YtkcjekboakoejaaW.PrintWords Go.Proofs.YtkcjekboakoejaaW.PrintLast Go.ChangeShapes Go.WideShapes
set_option linter.unusedVariables false
def G30 (x : S30) : Prop := ((Lit.int .i64 x.f0).wf = true) ∧ ((Lit.int .u32 x.f1).wf = true) ∧ (True)
theorem open30 (N : Nat) : Opn (N + 1) Try.prog k30 30 G30 :=
  opn_mono (opn_iso (fun x : S30 => (x.f0, x.f1, x.f2)) (fun p => ⟨p.1, p.2.1, p.2.2⟩) (fun _ => rfl) (opn_struct Try.underlying30 (by kernel_rfl) (fopn_cons rfl (by kernel_rfl) (opn_int (by kernel_rfl)) (fopn_cons rfl (by kernel_rfl) (opn_int (by kernel_rfl)) (fopn_last rfl (by kernel_rfl) (opn_bool (by kernel_rfl))))))) (fun _ h => h)
def G24 (x : S24) : Prop := (x.f0.size ≤ 140737488351232) ∧ ((Lit.int .i64 x.f1).wf = true) ∧ (x.f2.length * Try.prog.bytesOf 30 ≤ 140737488351232 ∧ x.f2.length ≤ 9223372036854775807 ∧ ∀ x_ ∈ x.f2, G30 x_)
theorem open24 (N : Nat) : Opn (N + 3) Try.prog k24 24 G24 :=
  opn_mono (opn_iso (fun x : S24 => (x.f0, x.f1, x.f2)) (fun p => ⟨p.1, p.2.1, p.2.2⟩) (fun _ => rfl) (opn_struct Try.underlying24 (by kernel_rfl) (fopn_cons rfl (by kernel_rfl) (opn_string (by kernel_rfl)) (fopn_cons rfl (by kernel_rfl) (opn_int (by kernel_rfl)) (fopn_last rfl (by kernel_rfl) (opn_slice (by kernel_rfl) (by kernel_rfl) (open30 _))))))) (fun _ h => h)
def G56 (x : S56) : Prop := ((Lit.int .u8 x.f0).wf = true) ∧ ((Lit.int .u32 x.f1).wf = true) ∧ ((Lit.int .i64 x.f2).wf = true)
theorem open56 (N : Nat) : Opn (N + 1) Try.prog k56 56 G56 :=
  opn_mono (opn_iso (fun x : S56 => (x.f0, x.f1, x.f2)) (fun p => ⟨p.1, p.2.1, p.2.2⟩) (fun _ => rfl) (opn_struct Try.underlying56 (by kernel_rfl) (fopn_cons rfl (by kernel_rfl) (opn_int (by kernel_rfl)) (fopn_cons rfl (by kernel_rfl) (opn_int (by kernel_rfl)) (fopn_last rfl (by kernel_rfl) (opn_int (by kernel_rfl))))))) (fun _ h => h)
end Go.Proofs.Ytkcjekboakoejaa.Print
