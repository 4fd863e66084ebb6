/- What is large. -/
import Derived.Test.YtddjhmelniphgaaGreatDoorQTP
import Derived.Test.YtddjhmelniphgaaGreatDoorPrint3
namespace Go.Proofs.YtddjhmelniphgaaGreatDoor.Print
open Go.RowKit Go.Proofs.YtddjhmelniphgaaGreatDoorW.PrintWords Go.Proofs.YtddjhmelniphgaaGreatDoorW.PrintLast
set_option linter.unusedVariables false
set_option linter.unusedSimpArgs false
theorem rlarge0 (l : List S59) (hl : l.length ≤ 1048576) : ∀ d i, l.length = i + d → Ev (fun k => codicillaw29_large.l0 k l (i : Int)) (!(l.drop i).all smallHd)
  | 0, i, hd => by
    rw [List.drop_of_length_le (by omega)]
    refine Ev.step (f := fun _ => some false) (fun k => ?_) (Ev.now _)
    simp only [codicillaw29_large.l0]
    rw [if_neg (by omega)]
  | d + 1, i, hd => by
    have hi : i < l.length := by omega
    rw [List.drop_eq_getElem_cons hi, List.all_cons]
    have hr := rdH l i hi
    cases hs : smallHd l[i] with
    | true =>
      have hs2 := hs
      unfold smallHd at hs2
      simp only [Bool.and_eq_true, decide_eq_true_iff] at hs2
      refine Ev.step (fun k => ?_) (by rw [Bool.true_and]; exact rlarge0 l hl d (i + 1) (by omega))
      simp only [codicillaw29_large.l0]
      rw [if_pos (by omega), if_pos (by omega), hr, if_neg (by omega), if_neg (by omega), wup (by omega)]
    | false =>
      have hs2 := hs
      unfold smallHd at hs2
      simp only [Bool.and_eq_false_iff, decide_eq_false_iff_not] at hs2
      refine Ev.step (f := fun _ => some true) (fun k => ?_) (Ev.now _)
      simp only [codicillaw29_large.l0]
      rw [if_pos (by omega), if_pos (by omega), hr]
      repeat' split
      all_goals first | rfl | omega
theorem rlarge_ev (l : List S59) (b : ByteArray) : Ev (fun k => codicillaw29_large.f k l b) (largeB l b) := by
  unfold codicillaw29_large.f largeB
  have hyes : Ev (fun k => codicillaw29_large.j0 k l true) true := Ev.step (f := fun _ => some true) (fun k => by simp only [codicillaw29_large.j0]; rw [if_pos trivial]) (Ev.now _)
  by_cases h : 100 < l.length
  · simp only [if_pos (show (l.length : Int) > 100 by omega), decide_eq_true h, Bool.true_or]
    exact hyes
  · simp only [if_neg (show ¬ (l.length : Int) > 100 by omega), decide_eq_false h, Bool.false_or]
    by_cases h2 : 4096 < b.size
    · rw [decide_eq_true h2, decide_eq_true (show (b.size : Int) > 4096 by omega), Bool.true_or]
      exact hyes
    · rw [decide_eq_false h2, decide_eq_false (show ¬ (b.size : Int) > 4096 by omega), Bool.false_or]
      refine Ev.step (f := fun k => codicillaw29_large.l0 k l ((0 : Nat) : Int)) (fun k => by simp only [codicillaw29_large.j0]; rw [if_neg (by decide)]; rfl) ?_
      have := rlarge0 l (by omega) l.length 0 (by omega)
      rw [List.drop_zero] at this
      exact this
end Go.Proofs.YtddjhmelniphgaaGreatDoor.Print
