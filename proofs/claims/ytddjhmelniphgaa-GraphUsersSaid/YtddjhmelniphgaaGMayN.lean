/- Plain: which rows may be, as graph.May finds it. -/
import Derived.Test.YtddjhmelniphgaaGSorted
import Derived.Test.YtddjhmelniphgaaGPred
namespace Go.Proofs.Ytddjhmelniphgaa.Print
open Go Go.RowKit
set_option linter.unusedVariables false
set_option linter.unusedSimpArgs false
def usAt (l : List Us) (k : Nat) : Us := l.getD k z40
/-- Is row k wrong by itself, behind the one ahead of it? -/
def badRow (l : List Us) (k : Nat) : Bool := (decide (0 < k) && !lessN (usAt l (k - 1)).f0 (usAt l k).f0) || (!formedN (usAt l k).f1 || anyP (fun x => !decide (x ∈ keysN l)) (usAt l k).f1)
def badHead (l : List Us) : Bool := decide (1024 < l.length) || decide ((keysN l).length ≠ l.length)
def doneStep (done : List Nd) (u : Us) : List Nd := if anyP (fun x => !decide (x ∈ done)) u.f1 = true then done else addN done u.f0
def roundN (l : List Us) (done : List Nd) : List Nd := l.foldl doneStep done
def roundsN (l : List Us) : Nat → List Nd → List Nd
  | 0, done => done
  | k + 1, done => if l.length ≤ done.length then done else if (roundN l done).length = done.length then roundN l done else roundsN l k (roundN l done)
def mayN (l : List Us) : Int := if badHead l = true then 8 else if (List.range l.length).any (badRow l) = true then 8 else if (roundsN l (l.length + 1) []).length < l.length then 8 else 0
/-- What the walk asks of rows: sizes, and that nodes may be keys. -/
structure FitU (l : List Us) : Prop where
  len : l.length ≤ 1048576
  node : ∀ u ∈ l, okN u.f0
  refs : ∀ u ∈ l, u.f1.length ≤ 1048576
  ref : ∀ u ∈ l, ∀ x ∈ u.f1, okN x
theorem usAt_mem {l : List Us} {k : Nat} (h : k < l.length) : usAt l k ∈ l := by
  unfold usAt
  rw [List.getD_eq_getElem?_getD, List.getElem?_eq_getElem h]
  exact List.getElem_mem _
theorem addN_len (l : List Nd) (x : Nd) : l.length ≤ (addN l x).length ∧ (addN l x).length ≤ l.length + 1 := by
  unfold addN
  split
  · omega
  · rw [List.length_append]; simp
theorem doneStep_len (done : List Nd) (u : Us) : done.length ≤ (doneStep done u).length := by
  unfold doneStep
  split
  · exact Nat.le_refl _
  · exact (addN_len _ _).1
theorem doneStep_ok {done : List Nd} {u : Us} (h : ∀ x ∈ done, okN x) (hu : okN u.f0) : ∀ x ∈ doneStep done u, okN x := by
  unfold doneStep
  split
  · exact h
  · intro x hx
    unfold addN at hx
    split at hx
    · exact h x hx
    · rcases List.mem_append.1 hx with hx | hx
      · exact h x hx
      · rw [List.mem_singleton] at hx; rw [hx]; exact hu
theorem fold_len : ∀ (l : List Us) (done : List Nd), done.length ≤ (l.foldl doneStep done).length
  | [], _ => Nat.le_refl _
  | u :: r, done => Nat.le_trans (doneStep_len done u) (fold_len r _)
theorem fold_ok : ∀ (l : List Us) (done : List Nd), (∀ x ∈ done, okN x) → (∀ u ∈ l, okN u.f0) → ∀ x ∈ l.foldl doneStep done, okN x
  | [], _, h, _ => h
  | u :: r, done, h, hl => fold_ok r _ (doneStep_ok h (hl u List.mem_cons_self)) (fun v hv => hl v (List.mem_cons_of_mem _ hv))
end Go.Proofs.Ytddjhmelniphgaa.Print
