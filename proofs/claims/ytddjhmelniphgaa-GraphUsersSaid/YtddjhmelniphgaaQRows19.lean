/- Plain: rows and nodes read. -/
import Derived.Test.YtddjhmelniphgaaGRank
import Derived.Test.YtddjhmelniphgaaGUsers
namespace Go.Proofs.Ytddjhmelniphgaa.Print
open Go Go.RowKit Go.Proofs.YtddjhmelniphgaaW.PrintWords Go.Proofs.YtddjhmelniphgaaW.PrintLast
set_option linter.unusedVariables false
set_option linter.unusedSimpArgs false
theorem rdN (l : List Nd) (j : Nat) (h : j < l.length) : rd_T24 l (j : Int) = l[j] := by simp [rd_T24, List.getElem?_eq_getElem h]
theorem rdU (l : List Us) (j : Nat) (h : j < l.length) : rd_T40 l (j : Int) = l[j] := by simp [rd_T40, List.getElem?_eq_getElem h]
theorem usAt_get (l : List Us) (j : Nat) (h : j < l.length) : usAt l j = l[j] := by unfold usAt; rw [List.getD_eq_getElem?_getD, List.getElem?_eq_getElem h]; rfl
theorem sorted_inj {l : List Us} (h : SortedU l) {i j : Nat} (hi : i < l.length) (hj : j < l.length) (he : l[i].f0 = l[j].f0) : i = j := by
  have e1 := usAt_get l i hi
  have e2 := usAt_get l j hj
  rcases Nat.lt_trichotomy i j with h1 | h1 | h1
  · have h2 := h.lt (j - i - 1) i (by omega)
    rw [show i + (j - i - 1) + 1 = j by omega, e1, e2, he, lessN_irrefl] at h2; cases h2
  · exact h1
  · have h2 := h.lt (i - j - 1) j (by omega)
    rw [show j + (i - j - 1) + 1 = i by omega, e1, e2, he, lessN_irrefl] at h2; cases h2
end Go.Proofs.Ytddjhmelniphgaa.Print
