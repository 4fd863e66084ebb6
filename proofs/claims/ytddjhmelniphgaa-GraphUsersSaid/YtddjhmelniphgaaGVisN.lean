/- Plain: the order of graph.Order, and the reference's. -/
import Derived.Test.YtddjhmelniphgaaGRows
namespace Go.Proofs.Ytddjhmelniphgaa.Print
open Go Go.RowKit
set_option linter.unusedVariables false
set_option linter.unusedSimpArgs false
def refsOf (l : List Us) (x : Nd) : List Nd := ((l.find? fun u => decide (u.f0 = x)).map (·.f1)).getD []
def stepV (f : List Nd → List Nd × List Nd → List Nd × List Nd) (l : List Us) (s : List Nd × List Nd) (x : Nd) : List Nd × List Nd :=
  if x ∈ s.1 then s else ((f (refsOf l x) (s.1 ++ [x], s.2)).1, (f (refsOf l x) (s.1 ++ [x], s.2)).2 ++ [x])
def visN (l : List Us) : Nat → List Nd → List Nd × List Nd → List Nd × List Nd
  | 0 => fun _ s => s
  | k + 1 => fun xs s => xs.foldl (stepV (visN l k) l) s
/-- Rows whose node is not met. -/
def unmet (l : List Us) (met : List Nd) : Nat := l.countP fun u => decide (u.f0 ∉ met)
theorem unmet_mono {l : List Us} {met met' : List Nd} (h : ∀ x ∈ met, x ∈ met') : unmet l met' ≤ unmet l met := by
  unfold unmet
  refine List.countP_mono_left fun u _ hu => ?_
  rw [decide_eq_true_iff] at hu ⊢
  exact fun h2 => hu (h _ h2)
theorem unmet_lt : ∀ {l : List Us} {met : List Nd} {x : Nd}, inN l x = true → x ∉ met → unmet l (met ++ [x]) + 1 ≤ unmet l met
  | [], met, x, h, _ => by simp [inN] at h
  | u :: r, met, x, h, hx => by
    unfold unmet
    rw [List.countP_cons, List.countP_cons]
    have hm : r.countP (fun u => decide (u.f0 ∉ met ++ [x])) ≤ r.countP (fun u => decide (u.f0 ∉ met)) := unmet_mono (l := r) (fun y hy => List.mem_append_left _ hy)
    by_cases he : u.f0 = x
    · rw [if_neg (by simp [he]), if_pos (by simp [he, hx])]; omega
    · have hr : inN r x = true := by
        unfold inN at h ⊢
        rw [decide_eq_true_iff, List.map_cons, List.mem_cons] at h
        rw [decide_eq_true_iff]
        exact h.resolve_left (fun e => he e.symm)
      have ih := unmet_lt hr hx
      unfold unmet at ih
      have h1 : decide (u.f0 ∉ met ++ [x]) = decide (u.f0 ∉ met) := by
        rw [decide_eq_decide]
        simp [he]
      rw [h1]
      omega
/-- Every reference is a node of the table. -/
def ClosedU (l : List Us) : Prop := ∀ x, ∀ y ∈ refsOf l x, inN l y = true
theorem visN_sub {l : List Us} : ∀ (k : Nat) (xs : List Nd) (s : List Nd × List Nd), ∀ y ∈ s.1, y ∈ (visN l k xs s).1
  | 0, _, _, _, h => h
  | k + 1, [], _, _, h => h
  | k + 1, x :: r, s, y, h => by
    have h1 : y ∈ (stepV (visN l k) l s x).1 := by
      unfold stepV
      split
      · exact h
      · exact visN_sub k _ _ y (List.mem_append_left _ h)
    exact visN_sub (l := l) (k + 1) r (stepV (visN l k) l s x) y h1
theorem stepV_sub {l : List Us} (k : Nat) (s : List Nd × List Nd) (x : Nd) : ∀ y ∈ s.1, y ∈ (stepV (visN l k) l s x).1 := fun y h => by
  unfold stepV
  split
  · exact h
  · exact visN_sub k _ _ y (List.mem_append_left _ h)
theorem visN_len {l : List Us} (hc : ClosedU l) : ∀ (k : Nat) (xs : List Nd) (s : List Nd × List Nd) (N : Nat), (∀ x ∈ xs, inN l x = true) → s.2.length + unmet l s.1 ≤ N → (visN l k xs s).2.length + unmet l (visN l k xs s).1 ≤ N
  | 0, _, _, _, _, h => h
  | k + 1, [], _, _, _, h => h
  | k + 1, x :: r, s, N, hx, h => by
    have h1 : (stepV (visN l k) l s x).2.length + unmet l (stepV (visN l k) l s x).1 ≤ N := by
      unfold stepV
      split
      · exact h
      · rename_i hn
        have h2 := unmet_lt (hx x List.mem_cons_self) hn
        have h3 := visN_len hc k (refsOf l x) (s.1 ++ [x], s.2) (N - 1) (hc x) (by show s.2.length + unmet l (s.1 ++ [x]) ≤ N - 1; omega)
        show ((visN l k (refsOf l x) (s.1 ++ [x], s.2)).2 ++ [x]).length + unmet l (visN l k (refsOf l x) (s.1 ++ [x], s.2)).1 ≤ N
        rw [List.length_append, List.length_singleton]
        have h4 : 1 ≤ N := by omega
        omega
    exact visN_len hc (k + 1) r (stepV (visN l k) l s x) N (fun y hy => hx y (List.mem_cons_of_mem _ hy)) h1
theorem stepV_len {l : List Us} (hc : ClosedU l) (k : Nat) (s : List Nd × List Nd) (x : Nd) (N : Nat) (hx : inN l x = true) (h : s.2.length + unmet l s.1 ≤ N) : (stepV (visN l k) l s x).2.length + unmet l (stepV (visN l k) l s x).1 ≤ N :=
  visN_len hc (k + 1) [x] s N (fun y hy => by rw [List.mem_singleton] at hy; rw [hy]; exact hx) h
/-- The reference's order. -/
def stepR (f : List Nd → List Nd → List Nd) (l : List Us) (out : List Nd) (x : Nd) : List Nd := if x ∈ out then out else f (refsOf l x) out ++ [x]
def refN (l : List Us) : Nat → List Nd → List Nd → List Nd
  | 0 => fun _ out => out
  | k + 1 => fun xs out => xs.foldl (stepR (refN l k) l) out
/-- What both hold: every reference of a row that may be is a node. -/
theorem closed_may {l : List Us} (h : mayN l = 0) : ClosedU l := by
  intro x y hy
  unfold refsOf at hy
  cases hf : l.find? (fun u => decide (u.f0 = x)) with
  | none => rw [hf] at hy; cases hy
  | some u =>
    rw [hf] at hy
    have hy2 : y ∈ u.f1 := hy
    have hu : u ∈ l := List.mem_of_find?_eq_some hf
    unfold mayN at h
    split at h
    · cases h
    · split at h
      · cases h
      · rename_i h2
        rw [Bool.not_eq_true, List.any_eq_false] at h2
        obtain ⟨j, hj, rfl⟩ := List.getElem_of_mem hu
        have h3 := h2 j (List.mem_range.2 hj)
        have e : usAt l j = l[j] := by unfold usAt; rw [List.getD_eq_getElem?_getD, List.getElem?_eq_getElem hj]; rfl
        rw [Bool.not_eq_true] at h3
        unfold badRow at h3
        rw [Bool.or_eq_false_iff, Bool.or_eq_false_iff, e] at h3
        have h4 := h3.2.2
        unfold anyP at h4
        rw [List.any_eq_false] at h4
        have h5 := h4 y hy2
        rw [Bool.not_eq_true, Bool.not_eq_false', decide_eq_true_iff] at h5
        obtain ⟨v, hv, rfl⟩ := keysN_mem h5
        unfold inN
        rw [decide_eq_true_iff]
        exact List.mem_map_of_mem hv
theorem refsOf_row {l : List Us} (h : SortedU l) {u : Us} (hu : u ∈ l) : refsOf l u.f0 = u.f1 := by
  unfold refsOf
  cases hf : l.find? (fun v => decide (v.f0 = u.f0)) with
  | none =>
    exfalso
    rw [List.find?_eq_none] at hf
    exact hf u hu (by simp)
  | some v =>
    have hv := List.mem_of_find?_eq_some hf
    have he := List.find?_some hf
    rw [decide_eq_true_iff] at he
    obtain ⟨i, hi, rfl⟩ := List.getElem_of_mem hu
    obtain ⟨j, hj, rfl⟩ := List.getElem_of_mem hv
    have e1 : usAt l i = l[i] := by unfold usAt; rw [List.getD_eq_getElem?_getD, List.getElem?_eq_getElem hi]; rfl
    have e2 : usAt l j = l[j] := by unfold usAt; rw [List.getD_eq_getElem?_getD, List.getElem?_eq_getElem hj]; rfl
    have : i = j := by
      rcases Nat.lt_trichotomy i j with h1 | h1 | h1
      · have h2 := h.lt (j - i - 1) i (by omega)
        rw [show i + (j - i - 1) + 1 = j by omega, e1, e2, he, lessN_irrefl] at h2; cases h2
      · exact h1
      · have h2 := h.lt (i - j - 1) j (by omega)
        rw [show j + (i - j - 1) + 1 = i by omega, e1, e2, he, lessN_irrefl] at h2; cases h2
    subst this
    rfl
end Go.Proofs.Ytddjhmelniphgaa.Print
