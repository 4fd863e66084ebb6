/- Plain: where a predicate holds of all code points beyond ASCII, the runes of a text are its bytes. -/
import Derived.Test.YtddjhmelniphgaaGreatDoorHTReadN
import Derived.Laws.RangeAny
namespace Go.Proofs.YtddjhmelniphgaaGreatDoor.Print
open Go.RowKit Go.Proofs.YtddjhmelniphgaaGreatDoorW.PrintWords Go.Proofs.YtddjhmelniphgaaGreatDoorW.PrintLast
set_option linter.unusedVariables false
set_option linter.unusedSimpArgs false
theorem idx_from {p : Nat → Bool} (hp : ∀ r, 128 ≤ r → p r = true) (s : ByteArray) : ∀ (d j f : Nat), j ≤ s.size → s.size - j = d → d ≤ f → decide (0 ≤ Lib.idxFuncFrom p true s f j) = (s.data.toList.drop j).any (fun b => p b.toNat)
  | 0, j, f, hj, hd, hf => by
    rw [Lib.idxFuncFrom_end _ _ _ _ _ (by omega), List.drop_of_length_le (by rw [Array.length_toList]; show s.size ≤ j; omega)]
    simp
  | d + 1, j, f, hj, hd, hf => by
    have hlt : j < s.size := by omega
    obtain ⟨f, rfl⟩ : ∃ m, f = m + 1 := ⟨f - 1, by omega⟩
    have hl : j < s.data.toList.length := by rw [Array.length_toList]; exact hlt
    have hc : s.data.toList[j]'hl = s[j] := by rw [Array.getElem_toList]; rfl
    rw [List.drop_eq_getElem_cons hl, List.any_cons, hc]
    have e3 : Lib.idxFuncFrom p true s (f + 1) j = if p (Utf8.decode s j).1 = true then (j : Int) else Lib.idxFuncFrom p true s f (j + (Utf8.decode s j).2) := by
      simp only [Lib.idxFuncFrom]
      rw [if_pos hlt]
    rw [e3]
    by_cases ho : p (s[j]'hlt).toNat = true
    · have h1 : p (Utf8.decode s j).1 = true := by
        rcases Nat.lt_or_ge (s[j]'hlt).toNat 128 with h | h
        · rw [decode_ascii s j hlt h]; exact ho
        · exact hp _ (decode_high s j hlt h).1
      rw [if_pos h1, ho]
      simp
    · have h3 : (s[j]'hlt).toNat < 128 := by
        rcases Nat.lt_or_ge (s[j]'hlt).toNat 128 with h | h
        · exact h
        · exact absurd (hp _ h) ho
      have h1 : Utf8.decode s j = ((s[j]'hlt).toNat, 1) := decode_ascii s j hlt h3
      rw [h1, if_neg ho, Bool.eq_false_iff.2 ho, Bool.false_or]
      exact idx_from hp s d (j + 1) f (by omega) (by omega) (by omega)
theorem idx_all {p : Nat → Bool} (hp : ∀ r, 128 ≤ r → p r = true) (s : ByteArray) : decide (0 ≤ Lib.idxFunc p true s) = s.data.toList.any (fun b => p b.toNat) := by
  have := idx_from hp s s.size 0 s.size (by omega) (by omega) (Nat.le_refl _)
  rw [List.drop_zero] at this
  exact this
theorem oddT_high (r : Nat) (h : 128 ≤ r) : oddT r = true := by
  unfold oddT
  rw [decide_eq_false (show ¬ r ≤ 122 by omega), decide_eq_false (show ¬ r ≤ 90 by omega), decide_eq_false (show ¬ r ≤ 57 by omega), decide_eq_false (show ¬ r < 127 by omega)]
  simp
theorem oddV_high (r : Nat) (h : 128 ≤ r) : oddV r = true := by
  unfold oddV
  rw [decide_eq_true (show 126 < r by omega), decide_eq_true (show r ≠ 9 by omega)]
  simp
theorem oddG_high (r : Nat) (h : 128 ≤ r) : oddG r = true := by
  unfold oddG
  rw [decide_eq_true (show 126 < r by omega)]
  simp
theorem tokenB_bytes (l : List UInt8) : tokenB (bs l) = (!l.isEmpty && !l.any (fun b => oddT b.toNat)) := by
  unfold tokenB
  rw [idx_all oddT_high, Lib.toList_data]
  rfl
theorem token_ascii {l : List UInt8} (h : tokenB (bs l) = true) : ∀ (j : Nat) (b : UInt8), l[j]? = some b → b.toNat < 128 := fun j b hb => by
  rw [tokenB_bytes, Bool.and_eq_true, Bool.not_eq_true', Bool.not_eq_true', List.any_eq_false] at h
  have h2 := h.2 b (List.mem_of_getElem? hb)
  rcases Nat.lt_or_ge b.toNat 128 with h3 | h3
  · exact h3
  · exact absurd (oddT_high _ h3) h2
theorem lower_any (l : List UInt8) (hl : l.length ≤ 4000000) (h : tokenB (bs l) = true) (w : World) : Calls Tryz.prog 59 #[.string (bs l)] w fun e w' => e = .returned (.string (bs (lowA l))) ∧ Below w.heap.size w w' :=
  Tryz.strings_ToLower_ascii (bs l) w (by show l.length ≤ _; omega) (token_ascii h)
end Go.Proofs.YtddjhmelniphgaaGreatDoor.Print
