/- Plain: the place of a node in a list, as the laws ask it. -/
import Derived.Test.YtddjhmelniphgaaQUse
import Derived.Test.YtddjhmelniphgaaPrint4
namespace Go.Proofs.Ytddjhmelniphgaa.Print
open Go Go.RowKit Go.Proofs.YtddjhmelniphgaaW.PrintWords Go.Proofs.YtddjhmelniphgaaW.PrintLast
set_option linter.unusedVariables false
set_option linter.unusedSimpArgs false
def idxN (l : List Nd) (x : Nd) : Int := if x ∈ l then ((l.idxOf x : Nat) : Int) else -1
theorem place_l0 (l : List Nd) (hl : l.length ≤ 1048576) (x : Nd) : ∀ d i, l.length = i + d → x ∉ l.take i → Ev (fun k => codicillaw19_place.l0 k l (i : Int) x.f0 x.f1) (idxN l x)
  | 0, i, hd, hn => by
    rw [List.take_of_length_le (by omega)] at hn
    unfold idxN
    rw [if_neg hn]
    refine Ev.step (f := fun _ => some (-1)) (fun k => ?_) (Ev.now _)
    simp only [codicillaw19_place.l0]
    rw [if_neg (by omega)]
  | d + 1, i, hd, hn => by
    have hi : i < l.length := by omega
    by_cases h : l[i] = x
    · have e : idxN l x = (i : Int) := by
        unfold idxN
        rw [if_pos (h ▸ List.getElem_mem hi)]
        have h2 : l = l.take i ++ x :: l.drop (i + 1) := by
          rw [← h, ← List.drop_eq_getElem_cons hi, List.take_append_drop]
        have h3 := idx_split (b := l.drop (i + 1)) hn
        rw [← h2, List.length_take] at h3
        rw [h3]
        omega
      rw [e]
      refine Ev.step (f := fun _ => some (i : Int)) (fun k => ?_) (Ev.now _)
      simp only [codicillaw19_place.l0]
      rw [if_pos (by omega), if_pos (by omega), rdN l i hi, ndEq l[i] x, if_pos (decide_eq_true h)]
    · refine Ev.step (fun k => ?_) (place_l0 l hl x d (i + 1) (by omega) (fun h2 => ?_))
      · simp only [codicillaw19_place.l0]
        rw [if_pos (by omega), if_pos (by omega), rdN l i hi, ndEq l[i] x, if_neg (by simp [h]), wrapS i (by omega)]
      · rw [List.take_succ_eq_append_getElem hi, List.mem_append, List.mem_singleton] at h2
        exact h2.elim hn (fun e => h e.symm)
theorem placeL_ev (l : List Nd) (hl : l.length ≤ 1048576) (x : Nd) : Ev (fun k => codicillaw19_place.f k l x.f0 x.f1) (idxN l x) := place_l0 l hl x l.length 0 (by omega) (by simp)
theorem idxN_ge (l : List Nd) (x : Nd) : decide (idxN l x ≥ 0) = decide (x ∈ l) := by
  unfold idxN
  rw [decide_eq_decide]
  split
  · rename_i h; exact ⟨fun _ => h, fun _ => by omega⟩
  · rename_i h; exact ⟨fun h2 => absurd h2 (by decide), fun h2 => absurd h2 h⟩
end Go.Proofs.Ytddjhmelniphgaa.Print
