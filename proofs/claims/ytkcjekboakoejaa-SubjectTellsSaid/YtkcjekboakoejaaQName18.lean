/- Plain law of the subject's names: the reference's loop over the bytes is what the program's runes come to. -/
import Derived.Test.YtkcjekboakoejaaHSubj
import Derived.Laws.RangeAny
import Derived.Test.YtkcjekboakoejaaPrint3
namespace Go.Proofs.Ytkcjekboakoejaa.Print
open Go.RowKit Go.Proofs.YtkcjekboakoejaaW.PrintWords Go.Proofs.YtkcjekboakoejaaW.PrintLast
set_option linter.unusedVariables false
set_option linter.unusedSimpArgs false

theorem wrap_nat {j : Nat} (h : j ≤ 1048576) : wrap64 ((j : Int) + 1) = ((j + 1 : Nat) : Int) := by unfold wrap64; omega

theorem odd_high {r : Nat} (h : 128 ≤ r) : oddB r = true := by
  simp only [oddB, Bool.not_eq_true', Bool.or_eq_false_iff, Bool.and_eq_false_iff, decide_eq_false_iff_not]
  omega

set_option maxHeartbeats 4000000 in
theorem name_loop (s : ByteArray) (hs : s.size ≤ 1048576) (d : Nat) : ∀ (j f : Nat), j ≤ s.size → s.size - j = d → d ≤ f →
    Ev (fun k => codicilref18_Name.l0 k s (j : Int)) (decide (Lib.idxFuncFrom oddB true s f j = -1) && (decide (1 ≤ s.size) && decide (s.size ≤ 64))) := by
  induction d with
  | zero =>
    intro j f hj hd hf
    refine Ev.step (f := fun _ => some _) (fun k => ?_) (Ev.now _)
    simp only [codicilref18_Name.l0]
    rw [if_neg (by omega), Lib.idxFuncFrom_end _ _ _ _ _ (by omega)]
    by_cases h : (s.size : Int) ≥ 1
    · rw [if_pos h]
      have h1 : 1 ≤ s.size := by omega
      simp [h1]
      omega
    · rw [if_neg h]
      have h1 : ¬ 1 ≤ s.size := by omega
      simp [h1]
  | succ d ih =>
    intro j f hj hd hf
    have hlt : j < s.size := by omega
    obtain ⟨f, rfl⟩ : ∃ m, f = m + 1 := ⟨f - 1, by omega⟩
    have hb : bt s (j : Int) = ((s[j]'hlt).toNat : Int) := (bt_at s (j : Int) (by simpa using hlt)).symm
    have e1 : ((j : Int) < (s.size : Int)) := by omega
    have e2 : (0 : Int) ≤ (j : Int) := by omega
    have e3 : Lib.idxFuncFrom oddB true s (f + 1) j = if oddB (Utf8.decode s j).1 = true then (j : Int) else Lib.idxFuncFrom oddB true s f (j + (Utf8.decode s j).2) := by
      simp only [Lib.idxFuncFrom]
      rw [if_pos hlt]
    by_cases ho : oddB (s[j]'hlt).toNat = true
    · have h1 : oddB (Utf8.decode s j).1 = true := by
        rcases Nat.lt_or_ge (s[j]'hlt).toNat 128 with h | h
        · rw [decode_ascii s j hlt h]; exact ho
        · exact odd_high (decode_high s j hlt h).1
      rw [e3, if_pos h1]
      have e4 : decide ((j : Int) = -1) = false := by simp
      rw [e4, Bool.false_and]
      refine Ev.step (f := fun _ => some false) (fun k => ?_) (Ev.now _)
      generalize (s[j]'hlt).toNat = b at hb ho
      simp only [oddB, Bool.not_eq_true', Bool.or_eq_false_iff, Bool.and_eq_false_iff, decide_eq_false_iff_not] at ho
      simp only [codicilref18_Name.l0, hb]
      rw [if_pos e1, if_pos e2]
      repeat' split
      all_goals first | rfl | (exfalso; omega)
    · have h3 : (s[j]'hlt).toNat < 128 := by
        rcases Nat.lt_or_ge (s[j]'hlt).toNat 128 with h | h
        · exact h
        · exact absurd (odd_high h) ho
      have h1 : Utf8.decode s j = ((s[j]'hlt).toNat, 1) := decode_ascii s j hlt h3
      rw [e3, h1, if_neg ho]
      refine Ev.step (f := fun k => codicilref18_Name.l0 k s ((j + 1 : Nat) : Int)) (fun k => ?_) (ih (j + 1) f (by omega) (by omega) (by omega))
      clear e3 h1
      generalize (s[j]'hlt).toNat = b at hb ho h3
      simp only [oddB, Bool.not_eq_true', Bool.or_eq_false_iff, Bool.and_eq_false_iff, decide_eq_false_iff_not] at ho
      simp only [codicilref18_Name.l0, hb, wrap_nat (show j ≤ 1048576 by omega)]
      rw [if_pos e1, if_pos e2]
      repeat' split
      all_goals first | rfl | (exfalso; omega)
theorem rname_ev (s : ByteArray) (hs : s.size ≤ 1048576) : Ev (fun k => codicilref18_Name.f k s) (nameB s) := by
  have h := name_loop s hs s.size 0 s.size (by omega) (by omega) (Nat.le_refl _)
  have e : (decide (Lib.idxFuncFrom oddB true s s.size 0 = -1) && (decide (1 ≤ s.size) && decide (s.size ≤ 64))) = nameB s := by
    unfold nameB Lib.idxFunc
    have h0 : s.toList.isEmpty = decide (s.size = 0) := by
      rw [ByteArray.toList_eq, Bool.eq_iff_iff, List.isEmpty_iff_length_eq_zero, data_length]
      simp
    rw [h0]
    rcases Lib.idxFuncFrom_range oddB true s s.size 0 with h1 | ⟨h1, h2⟩
    · rw [h1]
      rcases Nat.eq_zero_or_pos s.size with h3 | h3
      · simp [h3]
      · have : 1 ≤ s.size := h3
        have h4 : s.size ≠ 0 := by omega
        simp [this, h4]
    · have h3 : ¬ Lib.idxFuncFrom oddB true s s.size 0 = -1 := by omega
      have h4 : 0 ≤ Lib.idxFuncFrom oddB true s s.size 0 := by omega
      simp [h3, h4]
  rw [e] at h
  exact h
end Go.Proofs.Ytkcjekboakoejaa.Print
