/- Plain: where a row stands. -/
import Derived.Test.YtddjhmelniphgaaQRows19
import Derived.Test.YtddjhmelniphgaaGDrop
namespace Go.Proofs.Ytddjhmelniphgaa.Print
open Go Go.RowKit Go.Proofs.YtddjhmelniphgaaW.PrintWords Go.Proofs.YtddjhmelniphgaaW.PrintLast
set_option linter.unusedVariables false
set_option linter.unusedSimpArgs false
theorem split_at {l : List Us} (hs : SortedU l) (x : Nd) : ∀ m, m ≤ l.length → ∃ i, i ≤ m ∧ (∀ t, t < i → lessN (usAt l t).f0 x = true) ∧ (∀ t, i ≤ t → t < m → lessN (usAt l t).f0 x = false)
  | 0, _ => ⟨0, Nat.le_refl _, fun t h => absurd h (Nat.not_lt_zero _), fun t _ h => absurd h (Nat.not_lt_zero _)⟩
  | m + 1, hm => by
    obtain ⟨i, hi, h1, h2⟩ := split_at hs x m (by omega)
    cases h : lessN (usAt l m).f0 x with
    | true => exact ⟨m + 1, Nat.le_refl _, fun t ht => hs.mono (by omega) (by omega) h, fun t h3 h4 => by omega⟩
    | false =>
      refine ⟨i, by omega, h1, fun t h3 h4 => ?_⟩
      by_cases e : t = m
      · rw [e]; exact h
      · exact h2 t h3 (by omega)
theorem place_spec {l : List Us} (hs : SortedU l) (x : Nd) : (∀ t, t < placeN l x → lessN (usAt l t).f0 x = true) ∧ (∀ t, placeN l x ≤ t → t < l.length → lessN (usAt l t).f0 x = false) := by
  obtain ⟨i, hi, h1, h2⟩ := split_at hs x l.length (Nat.le_refl _)
  have : placeN l x = i := countP_split _ l i hi h1 h2
  rw [this]
  exact ⟨h1, h2⟩
theorem placeN_le (l : List Us) (x : Nd) : placeN l x ≤ l.length := List.countP_le_length
theorem less_tri {a b : Nd} (h : lessN a b = false) (hne : a ≠ b) : lessN b a = true := by
  cases h2 : lessN b a with
  | true => rfl
  | false =>
    exfalso
    apply hne
    have h3 := mt (lessN_iff a b).2 (by rw [h]; decide)
    have h4 := mt (lessN_iff b a).2 (by rw [h2]; decide)
    have e : a.f0 = b.f0 := ba_ext (bl_tri _ _ (Bool.eq_false_iff.2 (fun h5 => h3 (.inl h5))) (Bool.eq_false_iff.2 (fun h5 => h4 (.inl h5))))
    have e2 : a.f1 = b.f1 := by
      have h5 : ¬ a.f1 < b.f1 := fun h6 => h3 (.inr ⟨e, h6⟩)
      have h6 : ¬ b.f1 < a.f1 := fun h7 => h4 (.inr ⟨e.symm, h7⟩)
      omega
    obtain ⟨a0, a1⟩ := a
    obtain ⟨b0, b1⟩ := b
    simp only at e e2
    rw [e, e2]
theorem less_asymm {a b : Nd} (h : lessN a b = true) : lessN b a = false := by
  cases h2 : lessN b a with
  | false => rfl
  | true => have := lessN_trans h h2; rw [lessN_irrefl] at this; cases this
theorem at_place {l : List Us} (hs : SortedU l) {x : Nd} {j : Nat} (hj : j < l.length) (hx : (usAt l j).f0 = x) : j = placeN l x := by
  have hsp := place_spec hs x
  rcases Nat.lt_trichotomy j (placeN l x) with h | h | h
  · have := hsp.1 j h
    rw [hx, lessN_irrefl] at this; cases this
  · exact h
  · have h1 := hsp.2 (placeN l x) (Nat.le_refl _) (by omega)
    have h2 := hs.lt (j - placeN l x - 1) (placeN l x) (by omega)
    rw [show placeN l x + (j - placeN l x - 1) + 1 = j by omega, hx, h1] at h2; cases h2
end Go.Proofs.Ytddjhmelniphgaa.Print
