/- Plain: the order of what a new node refers to hangs on nothing else. -/
import Derived.Test.YtddjhmelniphgaaQKeepM
import Derived.Test.YtddjhmelniphgaaQVis19
namespace Go.Proofs.Ytddjhmelniphgaa.Print
open Go Go.RowKit Go.Proofs.YtddjhmelniphgaaW.PrintWords Go.Proofs.YtddjhmelniphgaaW.PrintLast
set_option linter.unusedVariables false
set_option linter.unusedSimpArgs false
theorem in_row {l : List Us} {x : Nd} (h : inN l x = true) : ∃ v ∈ l, v.f0 = x := by
  unfold inN at h
  rw [decide_eq_true_iff, List.mem_map] at h
  exact h
theorem refs_add {l : List Us} {u : Us} (h : Added l u) {x : Nd} (hx : inN l x = true) : refsOf (addAt l (placeN l u.f0) u) x = refsOf l x := by
  obtain ⟨v, hv, rfl⟩ := in_row hx
  rw [refsOf_row (sorted_may (add_good h)) (addAt_mem.2 (.inr hv)), refsOf_row (sorted_may h.may) hv]
theorem refs_new {l : List Us} {u : Us} (h : Added l u) : refsOf (addAt l (placeN l u.f0) u) u.f0 = u.f1 := refsOf_row (sorted_may (add_good h)) (addAt_mem.2 (.inl rfl))
theorem vis_congr {l m : List Us} (hc : ClosedU l) (h : ∀ x, inN l x = true → refsOf m x = refsOf l x) : ∀ (k : Nat) (xs : List Nd) (s : List Nd × List Nd), (∀ x ∈ xs, inN l x = true) → visN m k xs s = visN l k xs s
  | 0, _, _, _ => rfl
  | k + 1, [], _, _ => rfl
  | k + 1, x :: r, s, hx => by
    have e : stepV (visN m k) m s x = stepV (visN l k) l s x := by
      unfold stepV
      rw [h x (hx x List.mem_cons_self), vis_congr hc h k (refsOf l x) _ (hc x)]
    show r.foldl (stepV (visN m k) m) (stepV (visN m k) m s x) = r.foldl (stepV (visN l k) l) (stepV (visN l k) l s x)
    rw [e]
    exact vis_congr hc h (k + 1) r (stepV (visN l k) l s x) (fun y hy => hx y (List.mem_cons_of_mem _ hy))
theorem order_ok {l : List Us} (h : mayN l = 0) {ids : List Nd} (hin : ∀ x ∈ ids, inN l x = true) : orderU l ids = ((visN l (l.length + 1) ids ([], [])).2, 0) := by
  unfold orderU
  rw [if_neg (by simp [h]), if_neg]
  unfold anyP
  rw [List.any_eq_true]
  rintro ⟨x, hx, h2⟩
  rw [hin x hx] at h2; cases h2
theorem order_add {l : List Us} {u : Us} (h : Added l u) : orderU (addAt l (placeN l u.f0) u) u.f1 = orderU l u.f1 ∧ orderU (addAt l (placeN l u.f0) u) [u.f0] = ((orderU l u.f1).1 ++ [u.f0], 0) := by
  have hm := add_good h
  have hrk := rank_may h.may
  have hc := closed_may h.may
  have hd := done_le h.may
  have hlen := addAt_len (l := l) (i := placeN l u.f0) (u := u) (placeN_le l u.f0)
  have hcg := fun k s => vis_congr (m := addAt l (placeN l u.f0) u) hc (fun x hx => refs_add h hx) k u.f1 s h.refs
  have hne : ∀ y, inN l y = true → y ≠ u.f0 := fun y hy e => by rw [e, h.away] at hy; cases hy
  have hr2 : RankU l (fun x => if x = u.f0 then (doneU l).length else rkU l x) := fun x hx y hy => by
    show (if y = u.f0 then (doneU l).length else rkU l y) < (if x = u.f0 then (doneU l).length else rkU l x)
    rw [if_neg (hne y (hc x y hy)), if_neg (hne x hx)]
    exact hrk.1 x hx y hy
  have hb : ∀ z ∈ u.f1, (if z = u.f0 then (doneU l).length else rkU l z) < (doneU l).length := fun z hz => by
    rw [if_neg (hne z (h.refs z hz))]
    exact hrk.2 z (h.refs z hz)
  have v1 := (vis_ref hr2 hc (l.length + 1) (l.length + 2) u.f1 [] [] [] (fun y => by simp) (fun z hz => ⟨h.refs z hz, by have := hb z hz; omega, by have := hb z hz; omega, fun a ha => absurd ha List.not_mem_nil⟩)).1
  have v2 := (vis_ref hr2 hc (l.length + 2) (l.length + 2) u.f1 [] [] [] (fun y => by simp) (fun z hz => ⟨h.refs z hz, by have := hb z hz; omega, by have := hb z hz; omega, fun a ha => absurd ha List.not_mem_nil⟩)).1
  have v3 := (vis_ref hr2 hc (l.length + 1) (l.length + 2) u.f1 [u.f0] [] [u.f0] (fun y => by simp) (fun z hz => ⟨h.refs z hz, by have := hb z hz; omega, by have := hb z hz; omega, fun a ha => by
    rw [List.mem_singleton] at ha
    subst ha
    have := hb z hz
    show _ < (if u.f0 = u.f0 then (doneU l).length else _)
    rw [if_pos rfl]
    exact this⟩)).1
  have ho := order_ok h.may h.refs
  rw [ho]
  constructor
  · rw [order_ok hm (fun x hx => addAt_in.2 (.inr (h.refs x hx))), hlen, hcg, v2, v1]
  · rw [order_ok hm (fun x hx => addAt_in.2 (.inl (by rw [List.mem_singleton] at hx; exact hx))), hlen]
    have e : visN (addAt l (placeN l u.f0) u) (l.length + 1 + 1) [u.f0] ([], []) = ((visN (addAt l (placeN l u.f0) u) (l.length + 1) u.f1 ([u.f0], [])).1, (visN (addAt l (placeN l u.f0) u) (l.length + 1) u.f1 ([u.f0], [])).2 ++ [u.f0]) := by
      show stepV (visN (addAt l (placeN l u.f0) u) (l.length + 1)) (addAt l (placeN l u.f0) u) ([], []) u.f0 = _
      unfold stepV
      rw [if_neg List.not_mem_nil, refs_new h]
      rfl
    rw [e, hcg, v3, v1]
end Go.Proofs.Ytddjhmelniphgaa.Print
