/- What the reference answers: value. -/
import Derived.Test.YtddjhmelniphgaaGreatDoorQTP
import Derived.Test.YtddjhmelniphgaaGreatDoorPrint3
namespace Go.Proofs.YtddjhmelniphgaaGreatDoor.Print
open Go.RowKit Go.Proofs.YtddjhmelniphgaaGreatDoorW.PrintWords Go.Proofs.YtddjhmelniphgaaGreatDoorW.PrintLast
set_option linter.unusedVariables false
set_option linter.unusedSimpArgs false
theorem blank_ev (b : UInt8) : codicilref29_blank.f (b.toNat : Int) = some (blankB b) := by
  unfold codicilref29_blank.f blankB
  split
  · rw [decide_eq_true (by omega)]; rfl
  · rw [decide_eq_false (by omega), Bool.false_or]
    congr 1
    rw [Bool.eq_iff_iff, beq_iff_eq, decide_eq_true_iff]
    omega
theorem rval0 (l : List UInt8) (hl : l.length ≤ 1048576) : ∀ d i, l.length = i + d → Ev (fun k => codicilref29_value.l0 k (bs l) (i : Int)) ((l.drop i).all isVal && endsP l)
  | 0, i, hd => by
    rw [List.drop_of_length_le (by omega)]
    refine Ev.step (f := fun _ => some (endsP l)) (fun k => ?_) (Ev.now _)
    simp only [codicilref29_value.l0]
    rw [if_neg (by rw [bs_size]; omega), toL]
    cases l with
    | nil => rfl
    | cons a r =>
      have h0 : 0 < (a :: r).length := by simp
      have hw : wrap64 (((bs (a :: r)).size : Int) - 1) = ((r.length : Nat) : Int) := by rw [bs_size, w64 (by simp at hl ⊢; omega)]; simp
      have h1 : r.length < (a :: r).length := by simp
      rw [if_neg (by simp), if_pos (by rw [bs_size]; omega), hw, show bt (bs (a :: r)) 0 = _ from btl (a :: r) 0 h0, blank_ev, Option.bind_some, btl (a :: r) r.length h1, blank_ev]
      unfold endsP
      simp only
      cases hb : blankB ((a :: r)[0]) with
      | true => have : blankB a = true := hb; rw [if_pos rfl, this]; rfl
      | false => have : blankB a = false := hb; rw [if_neg (by decide), if_pos (by omega), if_pos (by rw [bs_size, List.length_cons]; omega), Option.bind_some, this]; rfl
  | d + 1, i, hd => by
    have hi : i < l.length := by omega
    rw [List.drop_eq_getElem_cons hi, List.all_cons]
    have hg := UInt8.toNat_lt l[i]
    cases hv : isVal l[i] with
    | true =>
      have hv' := hv
      unfold isVal at hv'
      simp only [Bool.or_eq_true, Bool.and_eq_true, decide_eq_true_iff] at hv'
      refine Ev.step (f := fun k => codicilref29_value.l0 k (bs l) ((i + 1 : Nat) : Int)) (fun k => ?_) (by rw [Bool.true_and]; exact rval0 l hl d (i + 1) (by omega))
      simp only [codicilref29_value.l0]
      rw [if_pos (by rw [bs_size]; omega), if_pos (by omega), btl l i hi, wup (by omega)]
      repeat' split
      all_goals first | rfl | omega
    | false =>
      have hv' := hv
      unfold isVal at hv'
      simp only [Bool.or_eq_false_iff, Bool.and_eq_false_iff, decide_eq_false_iff_not] at hv'
      refine Ev.step (f := fun _ => some false) (fun k => ?_) (Ev.now _)
      simp only [codicilref29_value.l0]
      rw [if_pos (by rw [bs_size]; omega), if_pos (by omega), btl l i hi, wup (by omega)]
      repeat' split
      all_goals first | rfl | omega
theorem rval_ev (l : List UInt8) (hl : l.length ≤ 1048576) : Ev (fun k => codicilref29_value.f k (bs l)) (valP l) := by
  have := rval0 l hl l.length 0 (by omega)
  rw [List.drop_zero] at this
  exact this
end Go.Proofs.YtddjhmelniphgaaGreatDoor.Print
