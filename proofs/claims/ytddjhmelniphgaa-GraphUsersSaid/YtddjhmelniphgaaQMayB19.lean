/- Plain: a wrong row, and the nodes' number. -/
import Derived.Test.YtddjhmelniphgaaQRows19
import Derived.Test.YtddjhmelniphgaaGOrdW
namespace Go.Proofs.Ytddjhmelniphgaa.Print
open Go Go.RowKit Go.Proofs.YtddjhmelniphgaaW.PrintWords Go.Proofs.YtddjhmelniphgaaW.PrintLast
set_option linter.unusedVariables false
set_option linter.unusedSimpArgs false
/-- A row is wrong by itself, or behind the one ahead of it. -/
def bad1 (l : List Us) (k : Nat) : Bool := (decide (0 < k) && !lessN (usAt l (k - 1)).f0 (usAt l k).f0) || !formedN (usAt l k).f1
def bad2 (l : List Us) (k : Nat) : Bool := anyP (fun x => !inN l x) (usAt l k).f1
theorem bad_split (l : List Us) (k : Nat) : badRow l k = (bad1 l k || bad2 l k) := by
  unfold badRow bad1 bad2
  rw [← Bool.or_assoc]
  congr 2
  funext x
  rw [keys_in]
theorem formed_16 {l : List Nd} (h : 16 < l.length) : formedN l = false := by
  unfold formedN
  rw [decide_eq_false (by omega), Bool.false_and]
theorem formed_nd {l : List Nd} (h : l.length ≤ 16) : formedN l = decide l.Nodup := by
  unfold formedN
  rw [decide_eq_true h, Bool.true_and]
theorem addN_fold : ∀ (xs acc : List Nd), (acc ++ xs).Nodup → xs.foldl addN acc = acc ++ xs
  | [], acc, _ => by simp
  | x :: r, acc, h => by
    have hx : x ∉ acc := fun hm => by
      rw [List.nodup_append] at h
      exact h.2.2 x hm x List.mem_cons_self rfl
    rw [List.foldl_cons]
    unfold addN
    rw [if_neg hx]
    have := addN_fold r (acc ++ [x]) (by simpa using h)
    unfold addN at this
    rw [this]
    simp
theorem sortedU_nodup {l : List Us} (hs : SortedU l) : (l.map (·.f0)).Nodup := by
  refine List.pairwise_iff_getElem.2 fun i j hi hj hij => ?_
  rw [List.length_map] at hi hj
  rw [List.getElem_map, List.getElem_map]
  intro e
  have := sorted_inj hs hi hj e
  omega
theorem keys_len {l : List Us} (hs : SortedU l) : (keysN l).length = l.length := by
  unfold keysN
  rw [addN_fold _ [] (by simpa using sortedU_nodup hs)]
  simp
end Go.Proofs.Ytddjhmelniphgaa.Print
