/- Plain: what of a sorted row of nodes stays when neighbours that are alike are one. -/
import Derived.Test.YtddjhmelniphgaaGOrder
import Derived.Test.YtddjhmelniphgaaGCompact
import Derived.Sort.Statements
namespace Go.Proofs.Ytddjhmelniphgaa.Print
open Go Go.Sort
set_option linter.unusedVariables false
set_option linter.unusedSimpArgs false
instance : Inhabited Nd := ⟨z24⟩
def encK (x : Nd) : List Value := [.string x.f0, .int .i64 x.f1]
def formedN (l : List Nd) : Bool := decide (l.length ≤ 16) && decide l.Nodup
theorem swoN : SWO lessN := by
  refine ⟨fun x => lessN_irrefl x, fun x y z h1 h2 => lessN_trans h1 h2, fun x y z h1 h2 => ?_⟩
  cases h : lessN x z with
  | false => rfl
  | true =>
    cases hxy : lessN y x with
    | true =>
      have := lessN_trans hxy h
      rw [this] at h2; cases h2
    | false =>
      have := lessN_tri h1 hxy
      subst this
      rw [h] at h2; cases h2

/-! ### how many stay: sorted -/
theorem kept_le (d : Nat → Nd) : ∀ i, 1 ≤ kept d i ∧ (1 ≤ i → kept d i ≤ i)
  | 0 => ⟨Nat.le_refl _, fun h => absurd h (by omega)⟩
  | i + 1 => by
    have h := kept_le d i
    unfold kept
    by_cases e : i = 0
    · subst e
      rw [if_pos rfl]
      exact ⟨by omega, fun _ => by unfold kept; omega⟩
    · rw [if_neg e]
      have := h.2 (by omega)
      split <;> exact ⟨by omega, fun _ => by omega⟩
theorem kept_all (d : Nat → Nd) : ∀ i, 1 ≤ i → (kept d i = i ↔ ∀ j, 0 < j → j < i → d j ≠ d (j - 1))
  | 0, h => absurd h (by omega)
  | i + 1, _ => by
    by_cases e : i = 0
    · subst e
      unfold kept
      rw [if_pos rfl]
      exact ⟨fun _ j h0 h1 => by omega, fun _ => by unfold kept; rfl⟩
    · have ih := kept_all d i (by omega)
      have hle := (kept_le d i).2 (by omega)
      unfold kept
      rw [if_neg e]
      constructor
      · intro h j h0 h1
        have hk : kept d i = i ∧ d i ≠ d (i - 1) := by
          split at h
          · omega
          · rename_i hne; exact ⟨by omega, hne⟩
        by_cases e2 : j = i
        · rw [e2]; exact hk.2
        · exact ih.1 hk.1 j h0 (by omega)
      · intro h
        rw [if_neg (h i (by omega) (by omega)), ih.2 (fun j h0 h1 => h j h0 (by omega))]
theorem sorted_nodup {d : Array Nd} (hs : SortedIn lessN 0 d.size d) (hd : ∀ j, 0 < j → j < d.size → d[j]! ≠ d[j - 1]!) : d.toList.Nodup := by
  have step : ∀ j, 0 < j → j < d.size → lessN d[j - 1]! d[j]! = true := fun j h0 h1 => by
    have h2 := hs (j - 1) j (by omega) (by omega) h1
    cases h3 : lessN d[j - 1]! d[j]! with
    | true => rfl
    | false => exact absurd (lessN_tri (show lessN d[j]! d[j - 1]! = false from h2) h3) (hd j h0 h1)
  have lt : ∀ k i, i + k + 1 < d.size → lessN d[i]! d[i + k + 1]! = true := by
    intro k
    induction k with
    | zero => intro i h; have := step (i + 1) (by omega) (by omega); simpa using this
    | succ k ih =>
      intro i h
      have h1 := ih i (by omega)
      have h2 := step (i + (k + 1) + 1) (by omega) (by omega)
      have e : i + (k + 1) + 1 - 1 = i + k + 1 := by omega
      rw [e] at h2
      exact lessN_trans h1 h2
  unfold List.Nodup
  rw [List.pairwise_iff_getElem]
  intro i j hi hj hij
  rw [Array.length_toList] at hi hj
  have h1 := lt (j - i - 1) i (by omega)
  have e : i + (j - i - 1) + 1 = j := by omega
  rw [e] at h1
  rw [Array.getElem_toList, Array.getElem_toList]
  rw [getElem!_pos d i (by omega), getElem!_pos d j hj] at h1
  intro h2
  rw [h2, lessN_irrefl] at h1
  cases h1
theorem kept_nodup {l : List Nd} {d : Array Nd} (hp : PermIn 0 l.length l.toArray d) (hs : SortedIn lessN 0 l.length d) (h1 : 1 ≤ l.length) : (kept (fun j => d[j]!) l.length = l.length ↔ l.Nodup) := by
  have hsz : d.size = l.length := by have := hp.1; simpa using this
  have hperm : d.toList.Perm l := by
    have := hp.2.2
    have e1 : d.extract 0 l.length = d := by rw [← hsz]; simp
    have e2 : l.toArray.extract 0 l.length = l.toArray := by simp
    rw [e1, e2] at this
    simpa using this
  rw [kept_all _ _ h1]
  constructor
  · intro h
    exact hperm.nodup_iff.1 (sorted_nodup (by rw [hsz]; exact hs) (fun j h0 h2 => h j h0 (by omega)))
  · intro h j h0 hj e
    have hn := hperm.nodup_iff.2 h
    unfold List.Nodup at hn
    rw [List.pairwise_iff_getElem] at hn
    have := hn (j - 1) j (by rw [Array.length_toList]; omega) (by rw [Array.length_toList]; omega) (by omega)
    rw [Array.getElem_toList, Array.getElem_toList] at this
    rw [getElem!_pos d j (by omega), getElem!_pos d (j - 1) (by omega)] at e
    exact this e.symm
end Go.Proofs.Ytddjhmelniphgaa.Print
