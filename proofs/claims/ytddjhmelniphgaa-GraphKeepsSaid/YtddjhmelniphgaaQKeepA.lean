/- Plain: in the order that is told each node stands behind all that it refers to. -/
import Derived.Test.YtddjhmelniphgaaQUse
namespace Go.Proofs.Ytddjhmelniphgaa.Print
open Go Go.RowKit Go.Proofs.YtddjhmelniphgaaW.PrintWords Go.Proofs.YtddjhmelniphgaaW.PrintLast
set_option linter.unusedVariables false
set_option linter.unusedSimpArgs false
/-- Each stands behind what it refers to. -/
structure Behind (l : List Us) (out : List Nd) : Prop where
  nodup : out.Nodup
  sub : ∀ y ∈ out, inN l y = true
  refs : ∀ a x b, out = a ++ x :: b → ∀ y ∈ refsOf l x, y ∈ a
theorem Behind.snoc {l : List Us} {out : List Nd} {x : Nd} (h : Behind l out) (hx : x ∉ out) (hi : inN l x = true) (hr : ∀ y ∈ refsOf l x, y ∈ out) : Behind l (out ++ [x]) := by
  refine ⟨?_, fun y hy => ?_, fun a z b he y hy => ?_⟩
  · rw [List.nodup_append]
    refine ⟨h.nodup, by simp, fun y hy z hz => ?_⟩
    rw [List.mem_singleton] at hz
    rw [hz]
    exact fun e => hx (e ▸ hy)
  · rcases List.mem_append.1 hy with hy | hy
    · exact h.sub y hy
    · rw [List.mem_singleton] at hy; rw [hy]; exact hi
  · rcases List.eq_nil_or_concat b with rfl | ⟨b', w, rfl⟩
    · have h2 := List.append_inj' he rfl
      rw [← h2.1]
      have e : x = z := (List.cons.inj h2.2).1
      exact hr y (e ▸ hy)
    · have h2 := List.append_inj' (show out ++ [x] = (a ++ z :: b') ++ [w] by rw [he]; simp) rfl
      exact h.refs a z b' h2.1 y hy
theorem ref_behind {l : List Us} {rk : Nd → Nat} (hr : RankU l rk) (hc : ClosedU l) : ∀ (k : Nat) (xs out : List Nd) (n : Nat), Behind l out → (∀ z ∈ xs, inN l z = true ∧ rk z < k ∧ rk z < n) →
    Behind l (refN l k xs out) ∧ (∀ y ∈ out, y ∈ refN l k xs out) ∧ (∀ z ∈ xs, z ∈ refN l k xs out) ∧ ∀ y ∈ refN l k xs out, y ∈ out ∨ rk y < n
  | 0, [], out, n, hB, hx => ⟨hB, fun y h => h, fun z hz => absurd hz List.not_mem_nil, fun y h => .inl h⟩
  | 0, x :: r, out, n, hB, hx => absurd (hx x List.mem_cons_self).2.1 (Nat.not_lt_zero _)
  | k + 1, xs, out, n, hB, hx => by
    show Behind l (xs.foldl (stepR (refN l k) l) out) ∧ (∀ y ∈ out, y ∈ xs.foldl (stepR (refN l k) l) out) ∧ (∀ z ∈ xs, z ∈ xs.foldl (stepR (refN l k) l) out) ∧ ∀ y ∈ xs.foldl (stepR (refN l k) l) out, y ∈ out ∨ rk y < n
    induction xs generalizing out with
    | nil => exact ⟨hB, fun y h => h, fun z hz => absurd hz List.not_mem_nil, fun y h => .inl h⟩
    | cons x r ih =>
      obtain ⟨h1, h2, h3⟩ := hx x List.mem_cons_self
      rw [List.foldl_cons]
      by_cases ho : x ∈ out
      · have e2 : stepR (refN l k) l out x = out := by unfold stepR; rw [if_pos ho]
        rw [e2]
        obtain ⟨a, b, c, d⟩ := ih out hB (fun z hz => hx z (List.mem_cons_of_mem _ hz))
        refine ⟨a, b, fun z hz => ?_, d⟩
        rcases List.mem_cons.1 hz with rfl | hz
        · exact b _ ho
        · exact c z hz
      · have e2 : stepR (refN l k) l out x = refN l k (refsOf l x) out ++ [x] := by unfold stepR; rw [if_neg ho]
        rw [e2]
        obtain ⟨a1, b1, c1, d1⟩ := ref_behind hr hc k (refsOf l x) out (rk x) hB (fun z hz => ⟨hc x z hz, by have := hr x h1 z hz; omega, hr x h1 z hz⟩)
        have hn : x ∉ refN l k (refsOf l x) out := fun h => (d1 x h).elim ho (Nat.lt_irrefl _)
        obtain ⟨a, b, c, d⟩ := ih _ (a1.snoc hn h1 c1) (fun z hz => hx z (List.mem_cons_of_mem _ hz))
        refine ⟨a, fun y hy => b y (List.mem_append_left _ (b1 y hy)), fun z hz => ?_, fun y hy => ?_⟩
        · rcases List.mem_cons.1 hz with rfl | hz
          · exact b _ (List.mem_append_right _ (List.mem_singleton.2 rfl))
          · exact c z hz
        · rcases d y hy with h | h
          · rcases List.mem_append.1 h with h | h
            · rcases d1 y h with h | h
              · exact .inl h
              · exact .inr (by omega)
            · rw [List.mem_singleton] at h
              exact .inr (by rw [h]; exact h3)
          · exact .inr h
theorem order_behind {l : List Us} (h : mayN l = 0) {ids : List Nd} (hin : ∀ x ∈ ids, inN l x = true) : ∃ o, orderU l ids = (o, 0) ∧ Behind l o ∧ ∀ z ∈ ids, z ∈ o := by
  have hrk := rank_may h
  have hd := done_le h
  have e := (vis_ref hrk.1 (closed_may h) (l.length + 1) ((doneU l).length + 2) ids [] [] [] (fun y => by simp) (fun z hz => ⟨hin z hz, by have := hrk.2 z (hin z hz); omega, by have := hrk.2 z (hin z hz); omega, fun a ha => absurd ha List.not_mem_nil⟩)).1
  obtain ⟨a, b, c, d⟩ := ref_behind hrk.1 (closed_may h) ((doneU l).length + 2) ids [] (doneU l).length ⟨List.nodup_nil, fun y hy => absurd hy List.not_mem_nil, fun a x b he => by cases a <;> cases he⟩ (fun z hz => ⟨hin z hz, by have := hrk.2 z (hin z hz); omega, hrk.2 z (hin z hz)⟩)
  exact ⟨_, by rw [order_ok h hin, e], a, c⟩
theorem behind_len {l : List Us} (hs : SortedU l) {o : List Nd} (h : Behind l o) (hall : ∀ u ∈ l, u.f0 ∈ o) : o.length = l.length := by
  have h1 := nodup_len_le o (l.map (·.f0)) h.nodup (fun y hy => by
    have := h.sub y hy
    unfold inN at this
    rwa [decide_eq_true_iff] at this)
  have h2 := nodup_len_le (l.map (·.f0)) o (sortedU_nodup hs) (fun y hy => by
    obtain ⟨u, hu, rfl⟩ := List.mem_map.1 hy
    exact hall u hu)
  rw [List.length_map] at h1 h2
  omega
theorem behind_idx {l : List Us} {o : List Nd} (h : Behind l o) {x y : Nd} (hx : x ∈ o) (hy : y ∈ refsOf l x) : y ∈ o ∧ o.idxOf y < o.idxOf x := by
  obtain ⟨a, b, he, hn⟩ := List.eq_append_cons_of_mem hx
  have hya := h.refs a x b he y hy
  obtain ⟨a1, a2, he2, hn2⟩ := List.eq_append_cons_of_mem hya
  have e1 : o.idxOf x = a.length := by rw [he]; exact idx_split hn
  have e2 : o.idxOf y = a1.length := by
    rw [he, he2, show (a1 ++ y :: a2) ++ x :: b = a1 ++ y :: (a2 ++ x :: b) by simp]
    exact idx_split hn2
  have e3 : a1.length < a.length := by rw [he2]; simp
  exact ⟨by rw [he]; exact List.mem_append_left _ hya, by omega⟩
end Go.Proofs.Ytddjhmelniphgaa.Print
