/- What the reference answers: target. -/
import Derived.Test.YtddjhmelniphgaaGreatDoorQTP
import Derived.Test.YtddjhmelniphgaaGreatDoorPrint2
namespace Go.Proofs.YtddjhmelniphgaaGreatDoor.Print
open Go.RowKit Go.Proofs.YtddjhmelniphgaaGreatDoorW.PrintWords Go.Proofs.YtddjhmelniphgaaGreatDoorW.PrintLast
set_option linter.unusedVariables false
set_option linter.unusedSimpArgs false
theorem rtgt0 (l : List UInt8) (hl : l.length ≤ 1048576) : ∀ d i, l.length = i + d → Ev (fun k => codicilref29_target.l0 k (bs l) (i : Int)) ((l.drop i).all isTgt && (l.head? == some 47))
  | 0, i, hd => by
    rw [List.drop_of_length_le (by omega)]
    refine Ev.step (f := fun _ => some (l.head? == some 47)) (fun k => ?_) (Ev.now _)
    simp only [codicilref29_target.l0]
    rw [if_neg (by rw [bs_size]; omega), toL]
    cases l with
    | nil => rfl
    | cons a r =>
      rw [if_neg (by simp), if_pos (by rw [bs_size]; simp), show bt (bs (a :: r)) 0 = _ from btl (a :: r) 0 (by simp)]
      simp only [List.head?_cons, List.getElem_cons_zero]
      congr 1
      rw [Bool.eq_iff_iff, beq_iff_eq, beq_iff_eq]
      exact ⟨fun e => by rw [UInt8.toNat_inj.1 (show a.toNat = (47 : UInt8).toNat by have : (47 : UInt8).toNat = 47 := rfl; omega)], fun e => by injection e with e; rw [e]; rfl⟩
  | d + 1, i, hd => by
    have hi : i < l.length := by omega
    rw [List.drop_eq_getElem_cons hi, List.all_cons]
    have hg := UInt8.toNat_lt l[i]
    cases hv : isTgt l[i] with
    | true =>
      have hv' := hv
      unfold isTgt at hv'
      simp only [Bool.and_eq_true, decide_eq_true_iff] at hv'
      refine Ev.step (f := fun k => codicilref29_target.l0 k (bs l) ((i + 1 : Nat) : Int)) (fun k => ?_) (by rw [Bool.true_and]; exact rtgt0 l hl d (i + 1) (by omega))
      simp only [codicilref29_target.l0]
      rw [if_pos (by rw [bs_size]; omega), if_pos (by omega), btl l i hi, wup (by omega), if_neg (by omega), if_neg (by omega)]
    | false =>
      have hv' := hv
      unfold isTgt at hv'
      simp only [Bool.and_eq_false_iff, decide_eq_false_iff_not] at hv'
      refine Ev.step (f := fun _ => some false) (fun k => ?_) (Ev.now _)
      simp only [codicilref29_target.l0]
      rw [if_pos (by rw [bs_size]; omega), if_pos (by omega), btl l i hi]
      repeat' split
      all_goals first | rfl | omega
theorem rtgt_ev (l : List UInt8) (hl : l.length ≤ 1048576) : Ev (fun k => codicilref29_target.f k (bs l)) (tgtOk l) := by
  have := rtgt0 l hl l.length 0 (by omega)
  rw [List.drop_zero] at this
  exact this
end Go.Proofs.YtddjhmelniphgaaGreatDoor.Print
