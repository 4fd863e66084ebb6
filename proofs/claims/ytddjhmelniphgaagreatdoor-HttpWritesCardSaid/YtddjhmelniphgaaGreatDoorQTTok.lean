/- What the reference answers: token. -/
import Derived.Test.YtddjhmelniphgaaGreatDoorQTP
import Derived.Test.YtddjhmelniphgaaGreatDoorPrint2
namespace Go.Proofs.YtddjhmelniphgaaGreatDoor.Print
open Go.RowKit Go.Proofs.YtddjhmelniphgaaGreatDoorW.PrintWords Go.Proofs.YtddjhmelniphgaaGreatDoorW.PrintLast
set_option linter.unusedVariables false
set_option linter.unusedSimpArgs false
theorem rtok1 (l : List UInt8) (i : Nat) (b : UInt8) (r : Bool) : ∀ d j (is : Bool), tokL.length = j + d →
    Ev (fun k => if (is || (tokL.drop j).contains b) = true then codicilref29_token.l0 k (bs l) (bs tokL) (wrap64 ((i : Int) + 1)) else some false) r → Ev (fun k => codicilref29_token.l1 k (bs l) (bs tokL) (i : Int) (b.toNat : Int) is (j : Int)) r
  | 0, j, is, hd, h => by
    rw [List.drop_of_length_le (by omega)] at h
    refine Ev.step (fun k => ?_) h
    simp only [codicilref29_token.l1]
    rw [if_neg (by rw [bs_size]; omega)]
    simp
  | d + 1, j, is, hd, h => by
    have h15 : tokL.length = 15 := rfl
    have hj : j < tokL.length := by omega
    rw [List.drop_eq_getElem_cons hj] at h
    cases is with
    | true =>
      refine Ev.step (fun k => ?_) (rtok1 l i b r d (j + 1) true (by omega) (by simpa using h))
      simp only [codicilref29_token.l1]
      rw [if_pos (by rw [bs_size]; omega), if_pos trivial, wup (by omega)]
    | false =>
      refine Ev.step (fun k => ?_) (rtok1 l i b r d (j + 1) (tokL[j] == b) (by omega) ?_)
      · simp only [codicilref29_token.l1]
        rw [if_pos (by rw [bs_size]; omega), if_neg (by decide), if_pos (by omega), btl tokL j hj, wup (by omega)]
        congr 1
        rw [Bool.eq_iff_iff, beq_iff_eq, beq_iff_eq]
        exact ⟨fun e => UInt8.toNat_inj.1 (by omega), fun e => by rw [e]⟩
      · rw [Bool.false_or, List.contains_cons] at h
        have e : (b == tokL[j]) = (tokL[j] == b) := BEq.comm
        rwa [e] at h
theorem rtok0 (l : List UInt8) (hl : l.length ≤ 1048576) : ∀ d i, l.length = i + d → Ev (fun k => codicilref29_token.l0 k (bs l) (bs tokL) (i : Int)) ((l.drop i).all isTok && !l.isEmpty)
  | 0, i, hd => by
    rw [List.drop_of_length_le (by omega)]
    refine Ev.step (f := fun _ => some ((bs l).toList != ([] : List UInt8))) (fun k => ?_) ?_
    · simp only [codicilref29_token.l0]
      rw [if_neg (by rw [bs_size]; omega)]
    · rw [toL]
      cases l <;> exact Ev.now _
  | d + 1, i, hd => by
    have hi : i < l.length := by omega
    rw [List.drop_eq_getElem_cons hi, List.all_cons]
    have hg := UInt8.toNat_lt l[i]
    refine Ev.step (f := fun k => codicilref29_token.j1 k (bs l) (bs tokL) (i : Int) (l[i].toNat : Int) (rB l[i].toNat)) (fun k => ?_) (Ev.step (f := fun k => codicilref29_token.l1 k (bs l) (bs tokL) (i : Int) (l[i].toNat : Int) (rB l[i].toNat) ((0 : Nat) : Int)) (fun k => by simp only [codicilref29_token.j1]; rfl) (rtok1 l i l[i] _ 15 0 _ rfl ?_))
    · simp only [codicilref29_token.l0]
      rw [if_pos (by rw [bs_size]; omega), if_pos (by omega), btl l i hi]
      generalize l[i].toNat = n at hg
      have e : ∀ b : Bool, b = rB n → codicilref29_token.j1 k (bs l) (bs tokL) (i : Int) (n : Int) b = codicilref29_token.j1 k (bs l) (bs tokL) (i : Int) (n : Int) (rB n) := fun b hb => by rw [hb]
      repeat' split
      all_goals
        apply e
        unfold rB
        rw [Bool.eq_iff_iff]
        simp only [Bool.or_eq_true, Bool.and_eq_true, decide_eq_true_iff, Bool.false_eq_true, true_iff, false_iff]
        omega
    · rw [List.drop_zero]
      have e : (rB l[i].toNat || tokL.contains l[i]) = isTok l[i] := rfl
      rw [e]
      cases isTok l[i] with
      | false => exact Ev.now _
      | true =>
        rw [Bool.true_and, wup (by omega)]
        exact rtok0 l hl d (i + 1) (by omega)
theorem rtok_ev (l : List UInt8) (hl : l.length ≤ 1048576) : Ev (fun k => codicilref29_token.f k (bs l)) (tokP l) := by
  have := rtok0 l hl l.length 0 (by omega)
  rw [List.drop_zero, Bool.and_comm] at this
  exact this
end Go.Proofs.YtddjhmelniphgaaGreatDoor.Print
