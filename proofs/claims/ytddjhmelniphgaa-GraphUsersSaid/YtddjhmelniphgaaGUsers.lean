/- Plain: who refers to a node. -/
import Derived.Test.YtddjhmelniphgaaPrint2
import Derived.Test.YtddjhmelniphgaaGMayN
namespace Go.Proofs.Ytddjhmelniphgaa.Print
open Go Go.RowKit Go.Proofs.YtddjhmelniphgaaW.PrintWords Go.Proofs.YtddjhmelniphgaaW.PrintLast
set_option linter.unusedVariables false
set_option linter.unusedSimpArgs false
def usersN (l : List Us) (x : Nd) : List Nd := (l.filter fun u => decide (x ∈ u.f1)).map (·.f0)
theorem wrapS (n : Nat) (h : n ≤ 100000000) : wrap64 ((n : Int) + 1) = ((n + 1 : Nat) : Int) := by unfold wrap64; omega
theorem ndEq (x y : Nd) : (x.f0.toList == y.f0.toList && (x.f1 == y.f1)) = decide (x = y) := by
  obtain ⟨a, b⟩ := x
  obtain ⟨c, d⟩ := y
  rw [Bool.eq_iff_iff, Bool.and_eq_true, beq_iff_eq, beq_iff_eq, decide_eq_true_iff]
  constructor
  · rintro ⟨h1, h2⟩
    have h3 : a = c := by
      have h5 : a.toList = c.toList := h1
      rw [ByteArray.toList_eq, ByteArray.toList_eq] at h5
      cases a; cases c; congr 1; exact Array.toList_inj.1 h5
    have h4 : b = d := h2
    rw [h3, h4]
  · intro h; injection h with h1 h2; subst h1; subst h2; exact ⟨rfl, rfl⟩
theorem idx49 (l : List Nd) (x : Nd) (hl : l.length ≤ 1048576) : ∀ d i fuel, l.length = i + d → d < fuel → ∃ r, api_Node_49.l0 fuel l (l.length : Int) (i : Int) x.f0 x.f1 = some r ∧ (0 ≤ r ↔ x ∈ l.drop i)
  | 0, i, fuel, hd, hf => by
    obtain ⟨fuel, rfl⟩ : ∃ q, fuel = q + 1 := ⟨fuel - 1, by omega⟩
    refine ⟨-1, ?_, ?_⟩
    · unfold api_Node_49.l0
      rw [if_neg (by omega)]
    · rw [List.drop_of_length_le (by omega)]
      simp
  | d + 1, i, fuel, hd, hf => by
    obtain ⟨fuel, rfl⟩ : ∃ q, fuel = q + 1 := ⟨fuel - 1, by omega⟩
    unfold api_Node_49.l0
    have hi : i < l.length := by omega
    have hg : rd_T24 l (i : Int) = l[i] := by
      simp [rd_T24, List.getElem?_eq_getElem hi]
    rw [if_pos (by omega), if_pos (by omega), if_pos (by omega), hg, ndEq x l[i], List.drop_eq_getElem_cons hi]
    by_cases h : x = l[i]
    · rw [if_pos (decide_eq_true h)]
      exact ⟨_, rfl, by rw [← h]; simp⟩
    · rw [if_neg (by simp [h]), wrapS i (by omega)]
      obtain ⟨r, h1, h2⟩ := idx49 l x hl d (i + 1) fuel (by omega) (by omega)
      exact ⟨r, h1, by rw [h2, List.mem_cons]; simp [h]⟩
theorem has37 (l : List Nd) (x : Nd) (hl : l.length ≤ 1048576) (fuel : Nat) (hf : l.length < fuel) : api_Node_37.f fuel l x.f0 x.f1 = some (decide (x ∈ l)) := by
  obtain ⟨r, h1, h2⟩ := idx49 l x hl l.length 0 fuel (by omega) hf
  unfold api_Node_37.f api_Node_49.f
  have h1' : api_Node_49.l0 fuel l (l.length : Int) 0 x.f0 x.f1 = some r := h1
  rw [h1']
  simp only [Option.bind_some]
  rw [List.drop_zero] at h2
  congr 1
  rw [Bool.eq_iff_iff, decide_eq_true_iff, decide_eq_true_iff]
  exact h2
theorem users_l0 (l : List Us) (x : Nd) (hl : l.length ≤ 1048576) (hr : ∀ u ∈ l, u.f1.length ≤ 1048576) : ∀ d i fuel acc, l.length = i + d → d + 1048577 < fuel → acc.length ≤ i → graph_Users.l0 fuel acc l (l.length : Int) (i : Int) x.f0 x.f1 = some (acc ++ usersN (l.drop i) x)
  | 0, i, fuel, acc, hd, hf, _ => by
    obtain ⟨fuel, rfl⟩ : ∃ q, fuel = q + 1 := ⟨fuel - 1, by omega⟩
    unfold graph_Users.l0
    rw [if_neg (by omega), List.drop_of_length_le (by omega)]
    simp [usersN]
  | d + 1, i, fuel, acc, hd, hf, ha => by
    obtain ⟨fuel, rfl⟩ : ∃ q, fuel = q + 1 := ⟨fuel - 1, by omega⟩
    have hi : i < l.length := by omega
    have hg : rd_T40 l (i : Int) = l[i] := by
      simp [rd_T40, List.getElem?_eq_getElem hi]
    unfold graph_Users.l0
    rw [if_pos (by omega), if_pos (by omega), if_pos (by omega), hg, has37 l[i].f1 x (hr _ (List.getElem_mem _)) fuel (by have := hr _ (List.getElem_mem hi); omega), Option.bind_some, wrapS i (by omega), List.drop_eq_getElem_cons hi]
    by_cases h : x ∈ l[i].f1
    · rw [if_pos (decide_eq_true h), if_pos (by omega), users_l0 l x hl hr d (i + 1) fuel _ (by omega) (by omega) (by rw [List.length_append]; simp; omega)]
      unfold usersN
      rw [List.filter_cons_of_pos (by simpa using h)]
      simp
    · rw [if_neg (by simp [h]), users_l0 l x hl hr d (i + 1) fuel _ (by omega) (by omega) (by omega)]
      unfold usersN
      rw [List.filter_cons_of_neg (by simpa using h)]
theorem users_some (l : List Us) (x : Nd) (hl : l.length ≤ 1048576) (hr : ∀ u ∈ l, u.f1.length ≤ 1048576) (fuel : Nat) (hf : l.length + 1048577 < fuel) : graph_Users.f fuel l x.f0 x.f1 = some (usersN l x) := by
  unfold graph_Users.f
  have := users_l0 l x hl hr l.length 0 fuel [] (by omega) hf (Nat.le_refl _)
  simpa using this
end Go.Proofs.Ytddjhmelniphgaa.Print
