/- Plain: the order with a set of what is met, and without. -/
import Derived.Test.YtddjhmelniphgaaQRows19
import Derived.Test.YtddjhmelniphgaaHGOrder
namespace Go.Proofs.Ytddjhmelniphgaa.Print
open Go Go.RowKit Go.Proofs.YtddjhmelniphgaaW.PrintWords Go.Proofs.YtddjhmelniphgaaW.PrintLast
set_option linter.unusedVariables false
set_option linter.unusedSimpArgs false
theorem vis_nil (l : List Us) (k : Nat) (s : List Nd × List Nd) : visN l k [] s = s := by cases k <;> rfl
theorem ref_nil (l : List Us) (k : Nat) (out : List Nd) : refN l k [] out = out := by cases k <;> rfl
theorem vis_ref {l : List Us} {rk : Nd → Nat} (hr : RankU l rk) (hc : ClosedU l) : ∀ (kv kr : Nat) (xs met out anc : List Nd), (∀ y, y ∈ met ↔ y ∈ out ∨ y ∈ anc) → (∀ z ∈ xs, inN l z = true ∧ rk z < kv ∧ rk z < kr ∧ ∀ a ∈ anc, rk z < rk a) →
    (visN l kv xs (met, out)).2 = refN l kr xs out ∧ ∀ y, y ∈ (visN l kv xs (met, out)).1 ↔ y ∈ refN l kr xs out ∨ y ∈ anc
  | 0, kr, [], met, out, anc, h1, h2 => by rw [vis_nil, ref_nil]; exact ⟨rfl, h1⟩
  | 0, kr, x :: r, met, out, anc, h1, h2 => absurd (h2 x List.mem_cons_self).2.1 (Nat.not_lt_zero _)
  | k + 1, 0, [], met, out, anc, h1, h2 => by rw [vis_nil, ref_nil]; exact ⟨rfl, h1⟩
  | k + 1, 0, x :: r, met, out, anc, h1, h2 => absurd (h2 x List.mem_cons_self).2.2.1 (Nat.not_lt_zero _)
  | k + 1, j + 1, xs, met, out, anc, h1, h2 => by
    show (xs.foldl (stepV (visN l k) l) (met, out)).2 = xs.foldl (stepR (refN l j) l) out ∧ ∀ y, y ∈ (xs.foldl (stepV (visN l k) l) (met, out)).1 ↔ y ∈ xs.foldl (stepR (refN l j) l) out ∨ y ∈ anc
    induction xs generalizing met out with
    | nil => exact ⟨rfl, h1⟩
    | cons x r ih =>
      obtain ⟨hx, hk, hj, ha⟩ := h2 x List.mem_cons_self
      have hm : x ∈ met ↔ x ∈ out := by
        rw [h1 x]
        exact ⟨fun h => h.elim id (fun h3 => absurd (ha x h3) (Nat.lt_irrefl _)), .inl⟩
      rw [List.foldl_cons, List.foldl_cons]
      by_cases ho : x ∈ out
      · have e1 : stepV (visN l k) l (met, out) x = (met, out) := by unfold stepV; rw [if_pos (hm.2 ho)]
        have e2 : stepR (refN l j) l out x = out := by unfold stepR; rw [if_pos ho]
        rw [e1, e2]
        exact ih met out h1 (fun z hz => h2 z (List.mem_cons_of_mem _ hz))
      · have hrec := vis_ref hr hc k j (refsOf l x) (met ++ [x]) out (x :: anc) (fun y => by
          rw [List.mem_append, List.mem_singleton, List.mem_cons, h1 y]
          constructor
          · rintro ((h | h) | h)
            · exact .inl h
            · exact .inr (.inr h)
            · exact .inr (.inl h)
          · rintro (h | h | h)
            · exact .inl (.inl h)
            · exact .inr h
            · exact .inl (.inr h)) (fun z hz => by
          have h5 := hr x hx z hz
          exact ⟨hc x z hz, by omega, by omega, fun a h6 => by
            rcases List.mem_cons.1 h6 with rfl | h6
            · exact h5
            · have := ha a h6; omega⟩)
        have e1 : stepV (visN l k) l (met, out) x = ((visN l k (refsOf l x) (met ++ [x], out)).1, (visN l k (refsOf l x) (met ++ [x], out)).2 ++ [x]) := by unfold stepV; rw [if_neg (fun h => ho (hm.1 h))]
        have e2 : stepR (refN l j) l out x = refN l j (refsOf l x) out ++ [x] := by unfold stepR; rw [if_neg ho]
        rw [e1, e2, hrec.1]
        refine ih _ _ (fun y => ?_) (fun z hz => h2 z (List.mem_cons_of_mem _ hz))
        rw [hrec.2 y, List.mem_append, List.mem_singleton, List.mem_cons]
        constructor
        · rintro (h | h | h)
          · exact .inl (.inl h)
          · exact .inl (.inr h)
          · exact .inr h
        · rintro ((h | h) | h)
          · exact .inl h
          · exact .inr (.inl h)
          · exact .inr (.inr h)
theorem done_le {l : List Us} (h : mayN l = 0) : (doneU l).length ≤ l.length := by
  have hg := (done_all h).1
  have := nodup_len_le (doneU l) (l.map (·.f0)) (good_nodup hg) (good_sub hg)
  rwa [List.length_map] at this
theorem gorder {l : List Us} {ids : List Nd} (hf : fitUB l = true) (hi : ids.length ≤ 1048576) (hok : ids.all okNB = true) : graph_Order.f l ids = some (orderU l ids) := by
  unfold graph_Order.f
  rw [if_pos (by rw [hf, decide_eq_true hi, hok]; rfl)]
end Go.Proofs.Ytddjhmelniphgaa.Print
