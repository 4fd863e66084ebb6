/- What the reference answers: cut. -/
import Derived.Test.YtddjhmelniphgaaGreatDoorQTP
import Derived.Test.YtddjhmelniphgaaGreatDoorPrint3
namespace Go.Proofs.YtddjhmelniphgaaGreatDoor.Print
open Go.RowKit Go.Proofs.YtddjhmelniphgaaGreatDoorW.PrintWords Go.Proofs.YtddjhmelniphgaaGreatDoorW.PrintLast
set_option linter.unusedVariables false
set_option linter.unusedSimpArgs false
theorem rcut0 (l : List UInt8) (hl : l.length ≤ 1048576) (c : UInt8) : ∀ d i, l.length = i + d → Ev (fun k => codicilref29_cut.l0 k (bs l) (c.toNat : Int) (i : Int)) (bs (l.take i ++ (cutB c (l.drop i)).1), bs (cutB c (l.drop i)).2.1, (cutB c (l.drop i)).2.2)
  | 0, i, hd => by
    rw [List.drop_of_length_le (by omega), List.take_of_length_le (by omega)]
    refine Ev.step (f := fun _ => some (bs l, (⟨#[]⟩ : ByteArray), false)) (fun k => ?_) (by simp only [cutB, List.append_nil]; exact Ev.now _)
    simp only [codicilref29_cut.l0]
    rw [if_neg (by rw [bs_size]; omega)]
  | d + 1, i, hd => by
    have hi : i < l.length := by omega
    rw [List.drop_eq_getElem_cons hi]
    by_cases hc : l[i] = c
    · refine Ev.step (f := fun _ => some (bs (l.take i), bs (l.drop (i + 1)), true)) (fun k => ?_) (by simp only [cutB, if_pos hc, List.append_nil]; exact Ev.now _)
      simp only [codicilref29_cut.l0]
      rw [if_pos (by rw [bs_size]; omega), if_pos (by omega), btl l i hi, if_pos (by rw [hc]), if_pos (by rw [bs_size]; omega), wup (by omega), if_pos (by omega), if_pos (by rw [bs_size]; omega), Int.toNat_natCast, Int.toNat_natCast, ext_to, ext_from]
    · refine Ev.step (fun k => ?_) (f := fun k => codicilref29_cut.l0 k (bs l) (c.toNat : Int) ((i + 1 : Nat) : Int)) ?_
      · simp only [codicilref29_cut.l0]
        rw [if_pos (by rw [bs_size]; omega), if_pos (by omega), btl l i hi, if_neg (fun e => hc (UInt8.toNat_inj.1 (by omega))), wup (by omega)]
      · have := rcut0 l hl c d (i + 1) (by omega)
        rw [List.take_succ_eq_append_getElem hi, List.append_assoc] at this
        simp only [cutB, if_neg hc]
        exact this
theorem rcut_ev (l : List UInt8) (hl : l.length ≤ 1048576) (c : UInt8) (ci : Int) (hc : ci = (c.toNat : Int)) : Ev (fun k => codicilref29_cut.f k (bs l) ci) (bs (cutB c l).1, bs (cutB c l).2.1, (cutB c l).2.2) := by
  subst hc
  have := rcut0 l hl c l.length 0 (by omega)
  simpa [codicilref29_cut.f] using this
end Go.Proofs.YtddjhmelniphgaaGreatDoor.Print
