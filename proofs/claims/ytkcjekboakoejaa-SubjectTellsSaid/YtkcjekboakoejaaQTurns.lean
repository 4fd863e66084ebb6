/- Plain law: SubjectTurns' plain function answers true. -/
import Derived.Test.YtkcjekboakoejaaQSubj
import Derived.Test.YtkcjekboakoejaaHAlive18
import Derived.Test.YtkcjekboakoejaaPrint7
import Derived.Test.YtkcjekboakoejaaOpnT
namespace Go.Proofs.Ytkcjekboakoejaa.Print
open Go.RowKit Go.Proofs.YtkcjekboakoejaaW.PrintWords Go.Proofs.YtkcjekboakoejaaW.PrintLast
set_option linter.unusedVariables false
set_option linter.unusedSimpArgs false
theorem heavy_is (a0 : ByteArray) (a1 : Int) (l : List V30) : (codicillaw18_Heavy.f a0 a1 l = some true) ∨ (codicillaw18_Heavy.f a0 a1 l = some false ∧ l.length ≤ 200 ∧ a0.size ≤ 1024) := by
  unfold codicillaw18_Heavy.f
  by_cases h : (l.length : Int) > 200
  · exact .inl (by rw [if_pos h])
  · by_cases h2 : (a0.size : Int) > 1024
    · exact .inl (by rw [if_neg h]; simp [h2])
    · exact .inr ⟨by rw [if_neg h]; simp [h2], by omega, by omega⟩
theorem add_len {a0 : ByteArray} {a1 : Int} {l : List V30} {id : Int} {A : ByteArray × Int × (List V30) × Int × Int × Bool × Int} (h : subject_Add.f a0 a1 l id = some A) : A.2.2.1.length ≤ l.length + 1 := by
  unfold subject_Add.f at h
  split at h
  · obtain rfl := Option.some.inj h
    simp only [addP]
    repeat' split
    all_goals simp
  · cases h
theorem soft_len {a0 : ByteArray} {a1 : Int} {l : List V30} {n : Int} {A : ByteArray × Int × (List V30) × Int} (h : subject_Soft.f a0 a1 l n = some A) : A.2.2.1.length ≤ l.length + 1 := by
  unfold subject_Soft.f at h
  split at h
  · obtain rfl := Option.some.inj h
    simp only [softP]
    repeat' split
    all_goals simp
  · cases h
theorem hard_len {a0 : ByteArray} {a1 : Int} {l : List V30} {n : Int} {A : ByteArray × Int × (List V30) × Int} (h : subject_Hard.f a0 a1 l n = some A) : A.2.2.1.length ≤ l.length + 1 := by
  unfold subject_Hard.f at h
  split at h
  · obtain rfl := Option.some.inj h
    simp only [hardP]
    repeat' split
    all_goals simp
    all_goals omega
  · cases h
theorem turns_true (a0 : ByteArray) (a1 : Int) (l : List V30) (n id : Int) (hid : idsOk l = true) : ∃ k, codicillaw18_SubjectTurns.f k a0 a1 l n id = some true := by
  refine Ev.rounds ?_
  unfold codicillaw18_SubjectTurns.f
  rcases heavy_is a0 a1 l with h | ⟨h, hl, hs⟩
  · simp only [h, Option.bind_some, if_true]
    exact Ev.bind alive18_ev (Ev.now _)
  · have hl' : l.length ≤ 1048576 := by omega
    have hs' : a0.size ≤ 1048576 := by omega
    have hf : fitB l = true := by simp [fitB, hid]; omega
    obtain ⟨A, hA, eA⟩ := radd_ev a0 a1 l id hs' hl' hf
    obtain ⟨B, hB, eB⟩ := rsoft_ev a0 a1 l n hs' hl' hf
    obtain ⟨C, hC, eC⟩ := rhard_ev a0 a1 l n hs' hl' hf
    simp only [h, Option.bind_some, Bool.false_eq_true, if_false, copy_is a0 a1 l hl', hA, hB, hC]
    have lA := add_len hA
    have lB := soft_len hB
    have lC := hard_len hC
    clear hA hB hC
    refine Ev.bind eA (Ev.bind eB (Ev.bind eC (Ev.bind (rsame_ev _ _ _ (by omega)) ?_)))
    simp only [beq_self_eq_true, Bool.and_self, if_true]
    refine Ev.bind (rsame_ev _ _ _ (by omega)) ?_
    simp only [if_true]
    refine Ev.bind (rsame_ev _ _ _ (by omega)) ?_
    simp only [if_true]
    refine Ev.bind (rsame_ev _ _ _ (by omega)) ?_
    simp only [if_true]
    exact Ev.bind alive18_ev (Ev.now _)
theorem ids_of {l : List V30} (h : ∀ x ∈ l, G30 x) : idsOk l = true := by
  rw [idsOk, List.all_eq_true]
  intro x hx
  have h1 := (h x hx).2.1
  have h2 : (0 ≤ x.f1 ∧ x.f1 ≤ 4294967295) := by simpa [Lit.wf, IntKind.bits, IntKind.signed, IntKind.min, IntKind.max] using h1
  have h3 : x.f1 < 4294967296 := by omega
  simp [h2.1, h3]
theorem turns_pure (y : S24) (h : G24 y) (n : Int) (_ : (Lit.int .i64 n).wf = true) (id : Int) (_ : (Lit.int .u32 id).wf = true) : ∃ k, codicillaw18_SubjectTurns.f k y.f0 y.f1 y.f2 n id = some true :=
  turns_true _ _ _ _ _ (ids_of h.2.2.2.2)
end Go.Proofs.Ytkcjekboakoejaa.Print
