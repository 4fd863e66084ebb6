/- Several texts of this seat in one (merge.py): QAcyc, QKeep, QKeep2. -/
import Derived.Test.YtddjhmelniphgaaQMayB19
import Derived.Test.YtddjhmelniphgaaQPlace19
import Derived.Test.YtddjhmelniphgaaGAdd
section
/- Plain: rows may be just where they stand in order, are well formed, refer to rows alone, and have a rank. -/
namespace Go.Proofs.Ytddjhmelniphgaa.Print
open Go Go.RowKit Go.Proofs.YtddjhmelniphgaaW.PrintWords Go.Proofs.YtddjhmelniphgaaW.PrintLast
set_option linter.unusedVariables false
set_option linter.unusedSimpArgs false
theorem step_pre (D : List Nd) (u : Us) : ∃ e, doneStep D u = D ++ e := by
  unfold doneStep addN
  split
  · exact ⟨[], by simp⟩
  · split
    · exact ⟨[], by simp⟩
    · exact ⟨[u.f0], rfl⟩
theorem fold_pre : ∀ (xs : List Us) (D : List Nd), ∃ e, xs.foldl doneStep D = D ++ e
  | [], D => ⟨[], by simp⟩
  | u :: r, D => by
    obtain ⟨e1, h1⟩ := step_pre D u
    obtain ⟨e2, h2⟩ := fold_pre r (doneStep D u)
    exact ⟨e1 ++ e2, by rw [List.foldl_cons, h2, h1, List.append_assoc]⟩
theorem step_hit {D : List Nd} {u : Us} (h : ∀ y ∈ u.f1, y ∈ D) : u.f0 ∈ doneStep D u := by
  unfold doneStep addN
  rw [if_neg]
  · split
    · assumption
    · exact List.mem_append_right _ (List.mem_singleton.2 rfl)
  · unfold anyP
    rw [List.any_eq_true]
    rintro ⟨y, hy, h2⟩
    simp [h y hy] at h2
theorem fold_hit : ∀ (xs : List Us) (D : List Nd) (u : Us), u ∈ xs → (∀ y ∈ u.f1, y ∈ D) → u.f0 ∈ xs.foldl doneStep D
  | [], _, _, h, _ => by cases h
  | v :: r, D, u, h, hd => by
    rw [List.foldl_cons]
    rcases List.mem_cons.1 h with rfl | h
    · obtain ⟨e, he⟩ := fold_pre r (doneStep D u)
      rw [he]
      exact List.mem_append_left _ (step_hit hd)
    · obtain ⟨e, he⟩ := step_pre D v
      exact fold_hit r _ u h (fun y hy => by rw [he]; exact List.mem_append_left _ (hd y hy))
theorem round_fix {l : List Us} {D : List Nd} {rk : Nd → Nat} (hc : ∀ u ∈ l, ∀ y ∈ u.f1, inN l y = true) (hr : ∀ u ∈ l, ∀ y ∈ u.f1, rk y < rk u.f0) (he : (roundN l D).length = D.length) : ∀ n, ∀ u ∈ l, rk u.f0 < n → u.f0 ∈ D
  | 0, u, _, h => absurd h (Nat.not_lt_zero _)
  | n + 1, u, hu, h => by
    have hD : roundN l D = D := by
      obtain ⟨e, h2⟩ := fold_pre l D
      have h3 : roundN l D = D ++ e := h2
      rw [h3, List.length_append] at he
      rw [h3, List.eq_nil_of_length_eq_zero (show e.length = 0 by omega), List.append_nil]
    have := fold_hit l D u hu (fun y hy => by
      have h4 := hc u hu y hy
      unfold inN at h4
      rw [decide_eq_true_iff, List.mem_map] at h4
      obtain ⟨v, hv, rfl⟩ := h4
      exact round_fix hc hr he n v hv (by have := hr u hu v.f0 hy; omega))
    rw [← hD]
    exact this
theorem rounds_full {l : List Us} {rk : Nd → Nat} (hs : SortedU l) (hc : ∀ u ∈ l, ∀ y ∈ u.f1, inN l y = true) (hr : ∀ u ∈ l, ∀ y ∈ u.f1, rk y < rk u.f0) : ∀ k D, l.length ≤ D.length + k → l.length ≤ (roundsN l k D).length
  | 0, D, h => h
  | k + 1, D, h => by
    unfold roundsN
    split
    · assumption
    · rename_i h1
      split
      · rename_i h2
        have hall : ∀ u ∈ l, u.f0 ∈ D := fun u hu => round_fix hc hr h2 (rk u.f0 + 1) u hu (Nat.lt_succ_self _)
        have := nodup_len_le (l.map (·.f0)) D (sortedU_nodup hs) (fun y hy => by
          obtain ⟨u, hu, rfl⟩ := List.mem_map.1 hy
          exact hall u hu)
        rw [List.length_map] at this
        rw [h2]; exact this
      · rename_i h2
        have := fold_len l D
        exact rounds_full hs hc hr k (roundN l D) (by show l.length ≤ (l.foldl doneStep D).length + k; have h3 : ¬ (l.foldl doneStep D).length = D.length := h2; omega)
structure GoodU (l : List Us) (rk : Nd → Nat) : Prop where
  len : l.length ≤ 1024
  sorted : SortedU l
  formed : ∀ u ∈ l, formedN u.f1 = true
  closed : ∀ u ∈ l, ∀ y ∈ u.f1, inN l y = true
  rank : ∀ u ∈ l, ∀ y ∈ u.f1, rk y < rk u.f0
theorem may_of {l : List Us} {rk : Nd → Nat} (h : GoodU l rk) : mayN l = 0 := by
  unfold mayN
  rw [if_neg, if_neg, if_neg]
  · have := rounds_full h.sorted h.closed h.rank (l.length + 1) [] (by simp)
    omega
  · rw [List.any_eq_true]
    rintro ⟨k, hk, hb⟩
    rw [List.mem_range] at hk
    rw [bad_split, Bool.or_eq_true] at hb
    have hu := usAt_mem hk
    rcases hb with hb | hb
    · unfold bad1 at hb
      rw [h.formed _ hu, Bool.not_true, Bool.or_false, Bool.and_eq_true, decide_eq_true_iff] at hb
      have := h.sorted (k - 1) (by omega)
      rw [show k - 1 + 1 = k by omega] at this
      rw [this] at hb
      cases hb.2
    · unfold bad2 anyP at hb
      rw [List.any_eq_true] at hb
      obtain ⟨y, hy, h2⟩ := hb
      rw [h.closed _ hu y hy] at h2
      cases h2
  · unfold badHead
    rw [keys_len h.sorted, decide_eq_false (by have := h.len; omega)]
    simp
theorem good_may {l : List Us} (h : mayN l = 0) : GoodU l (rkU l) := by
  have hs := sorted_may h
  have hc := closed_may h
  have hrk := (rank_may h).1
  have hu : ∀ u ∈ l, refsOf l u.f0 = u.f1 := fun u hu => refsOf_row hs hu
  have hin : ∀ u ∈ l, inN l u.f0 = true := fun u hu => by unfold inN; rw [decide_eq_true_iff]; exact List.mem_map_of_mem hu
  refine ⟨?_, hs, ?_, fun u h1 y hy => hc u.f0 y (by rw [hu u h1]; exact hy), fun u h1 y hy => hrk u.f0 (hin u h1) y (by rw [hu u h1]; exact hy)⟩
  · unfold mayN badHead at h
    by_cases h1 : 1024 < l.length
    · rw [decide_eq_true h1] at h; cases h
    · omega
  · intro u h1
    obtain ⟨k, hk, rfl⟩ := List.getElem_of_mem h1
    unfold mayN at h
    split at h
    · cases h
    · split at h
      · cases h
      · rename_i h2
        rw [Bool.not_eq_true, List.any_eq_false] at h2
        have h3 := h2 k (List.mem_range.2 hk)
        rw [Bool.not_eq_true, bad_split, Bool.or_eq_false_iff] at h3
        have h4 := h3.1
        unfold bad1 at h4
        rw [Bool.or_eq_false_iff, Bool.not_eq_false', usAt_get l k hk] at h4
        exact h4.2
end Go.Proofs.Ytddjhmelniphgaa.Print
end
section
/- Plain: Add and Drop keep what may be. -/
namespace Go.Proofs.Ytddjhmelniphgaa.Print
open Go Go.RowKit Go.Proofs.YtddjhmelniphgaaW.PrintWords Go.Proofs.YtddjhmelniphgaaW.PrintLast
set_option linter.unusedVariables false
set_option linter.unusedSimpArgs false
/-- What Add did, where it did something. -/
structure Added (l : List Us) (u : Us) : Prop where
  may : mayN l = 0
  away : inN l u.f0 = false
  formed : formedN u.f1 = true
  refs : ∀ y ∈ u.f1, inN l y = true
  len : l.length < 1024
theorem added_of {l m : List Us} {u : Us} (h : addU l u = (m, 0)) : Added l u ∧ m = addAt l (placeN l u.f0) u := by
  unfold addU at h
  split at h
  · cases (Prod.mk.inj h).2
  · rename_i h1
    split at h
    · cases (Prod.mk.inj h).2
    · rename_i h2
      split at h
      · cases (Prod.mk.inj h).2
      · rename_i h3
        split at h
        · cases (Prod.mk.inj h).2
        · rename_i h4
          split at h
          · cases (Prod.mk.inj h).2
          · rename_i h5
            refine ⟨⟨by simpa using h1, by simpa using h2, by simpa using h3, fun y hy => ?_, by omega⟩, (Prod.mk.inj h).1.symm⟩
            rw [Bool.not_eq_true] at h4
            unfold anyP at h4
            rw [List.any_eq_false] at h4
            simpa using h4 y hy
theorem addAt_mem {l : List Us} {i : Nat} {u v : Us} : v ∈ addAt l i u ↔ v = u ∨ v ∈ l := by
  unfold addAt
  rw [List.mem_append, List.mem_cons]
  constructor
  · rintro (h | h | h)
    · exact .inr (List.mem_of_mem_take h)
    · exact .inl h
    · exact .inr (List.mem_of_mem_drop h)
  · rintro (h | h)
    · exact .inr (.inl h)
    · rw [← List.take_append_drop i l, List.mem_append] at h
      exact h.elim .inl (fun h => .inr (.inr h))
theorem addAt_in {l : List Us} {i : Nat} {u : Us} {y : Nd} : inN (addAt l i u) y = true ↔ y = u.f0 ∨ inN l y = true := by
  unfold inN
  rw [decide_eq_true_iff, decide_eq_true_iff, List.mem_map, List.mem_map]
  constructor
  · rintro ⟨v, hv, rfl⟩
    rcases addAt_mem.1 hv with rfl | hv
    · exact .inl rfl
    · exact .inr ⟨v, hv, rfl⟩
  · rintro (rfl | ⟨v, hv, rfl⟩)
    · exact ⟨u, addAt_mem.2 (.inl rfl), rfl⟩
    · exact ⟨v, addAt_mem.2 (.inr hv), rfl⟩
theorem usAt_add {l : List Us} {i : Nat} (hi : i ≤ l.length) (u : Us) (j : Nat) : usAt (addAt l i u) j = if j < i then usAt l j else if j = i then u else usAt l (j - 1) := by
  unfold usAt addAt
  rw [List.getD_eq_getElem?_getD, List.getD_eq_getElem?_getD, List.getD_eq_getElem?_getD]
  by_cases h1 : j < i
  · rw [if_pos h1, List.getElem?_append_left (by rw [List.length_take]; omega), List.getElem?_take, if_pos h1]
  · rw [if_neg h1, List.getElem?_append_right (by rw [List.length_take]; omega), List.length_take, Nat.min_eq_left hi]
    by_cases h2 : j = i
    · subst h2; rw [if_pos rfl, Nat.sub_self]; rfl
    · rw [if_neg h2]
      obtain ⟨k, rfl⟩ : ∃ k, j = i + k + 1 := ⟨j - i - 1, by omega⟩
      rw [show i + k + 1 - i = k + 1 by omega, List.getElem?_cons_succ, List.getElem?_drop, show i + k + 1 - 1 = i + k by omega]
theorem add_sorted {l : List Us} {u : Us} (hs : SortedU l) (hn : inN l u.f0 = false) : SortedU (addAt l (placeN l u.f0) u) := by
  intro j hj
  have hpl := placeN_le l u.f0
  have hsp := place_spec hs u.f0
  rw [addAt_len hpl] at hj
  rw [usAt_add hpl, usAt_add hpl]
  by_cases h1 : j + 1 < placeN l u.f0
  · rw [if_pos (by omega), if_pos h1]
    exact hs j (by omega)
  · by_cases h2 : j + 1 = placeN l u.f0
    · rw [if_pos (by omega), if_neg h1, if_pos h2]
      exact hsp.1 j (by omega)
    · rw [if_neg h1, if_neg h2]
      by_cases h3 : j = placeN l u.f0
      · rw [if_neg (by omega), if_pos h3, Nat.add_sub_cancel]
        refine less_tri (hsp.2 j (by omega) (by omega)) (fun he => ?_)
        unfold inN at hn
        rw [decide_eq_false_iff_not] at hn
        exact hn (he ▸ List.mem_map_of_mem (usAt_mem (by omega)))
      · rw [if_neg (by omega), if_neg h3, Nat.add_sub_cancel]
        have := hs (j - 1) (by omega)
        rwa [show j - 1 + 1 = j by omega] at this
theorem add_good {l : List Us} {u : Us} (h : Added l u) : mayN (addAt l (placeN l u.f0) u) = 0 := by
  have hg := good_may h.may
  have hrk := rank_may h.may
  have hne : ∀ y, inN l y = true → y ≠ u.f0 := fun y hy e => by rw [e, h.away] at hy; cases hy
  have hin : ∀ v ∈ l, inN l v.f0 = true := fun v hv => by unfold inN; rw [decide_eq_true_iff]; exact List.mem_map_of_mem hv
  refine may_of (rk := fun x => if x = u.f0 then (doneU l).length else rkU l x) ⟨?_, add_sorted hg.sorted h.away, ?_, ?_, ?_⟩
  · rw [addAt_len (placeN_le l _)]; have := h.len; omega
  · intro v hv
    rcases addAt_mem.1 hv with rfl | hv
    · exact h.formed
    · exact hg.formed v hv
  · intro v hv y hy
    refine addAt_in.2 (.inr ?_)
    rcases addAt_mem.1 hv with rfl | hv
    · exact h.refs y hy
    · exact hg.closed v hv y hy
  · intro v hv y hy
    show (if y = u.f0 then (doneU l).length else rkU l y) < (if v.f0 = u.f0 then (doneU l).length else rkU l v.f0)
    rcases addAt_mem.1 hv with rfl | hv
    · rw [if_neg (hne y (h.refs y hy)), if_pos rfl]
      exact hrk.2 y (h.refs y hy)
    · rw [if_neg (hne y (hg.closed v hv y hy)), if_neg (hne _ (hin v hv))]
      exact hg.rank v hv y hy
end Go.Proofs.Ytddjhmelniphgaa.Print
end
section
/- Plain: Drop keeps what may be; it undoes Add. -/
namespace Go.Proofs.Ytddjhmelniphgaa.Print
open Go Go.RowKit Go.Proofs.YtddjhmelniphgaaW.PrintWords Go.Proofs.YtddjhmelniphgaaW.PrintLast
set_option linter.unusedVariables false
set_option linter.unusedSimpArgs false
structure Dropped (l : List Us) (x : Nd) : Prop where
  may : mayN l = 0
  there : inN l x = true
  free : ∀ v ∈ l, x ∉ v.f1
theorem users_free {l : List Us} {x : Nd} (h : ¬ 0 < (usersN l x).length) : ∀ v ∈ l, x ∉ v.f1 := fun v hv hx => by
  apply h
  refine List.length_pos_of_mem (a := v.f0) ?_
  unfold usersN
  exact List.mem_map_of_mem (List.mem_filter.2 ⟨hv, by simpa using hx⟩)
theorem dropped_of {l m : List Us} {x : Nd} (h : dropU l x = (m, 0)) : Dropped l x ∧ m = dropAt l (placeN l x) := by
  unfold dropU at h
  split at h
  · cases (Prod.mk.inj h).2
  · rename_i h1
    split at h
    · cases (Prod.mk.inj h).2
    · rename_i h2
      split at h
      · cases (Prod.mk.inj h).2
      · rename_i h3
        exact ⟨⟨by simpa using h1, by simpa using h2, users_free h3⟩, (Prod.mk.inj h).1.symm⟩
theorem dropAt_mem {l : List Us} {i : Nat} {v : Us} (h : v ∈ dropAt l i) : v ∈ l := by
  unfold dropAt at h
  rcases List.mem_append.1 h with h | h
  · exact List.mem_of_mem_take h
  · exact List.mem_of_mem_drop h
theorem usAt_drop {l : List Us} {i : Nat} (hi : i < l.length) (j : Nat) : usAt (dropAt l i) j = if j < i then usAt l j else usAt l (j + 1) := by
  unfold usAt dropAt
  rw [List.getD_eq_getElem?_getD, List.getD_eq_getElem?_getD, List.getD_eq_getElem?_getD]
  by_cases h1 : j < i
  · rw [if_pos h1, List.getElem?_append_left (by rw [List.length_take]; omega), List.getElem?_take, if_pos h1]
  · rw [if_neg h1, List.getElem?_append_right (by rw [List.length_take]; omega), List.length_take, Nat.min_eq_left (by omega), List.getElem?_drop, show i + 1 + (j - i) = j + 1 by omega]
theorem drop_sorted {l : List Us} (hs : SortedU l) {i : Nat} (hi : i < l.length) : SortedU (dropAt l i) := by
  intro j hj
  have hlen := dropAt_len hi
  rw [usAt_drop hi, usAt_drop hi]
  by_cases h1 : j + 1 < i
  · rw [if_pos (by omega), if_pos h1]; exact hs j (by omega)
  · rw [if_neg h1]
    by_cases h2 : j < i
    · rw [if_pos h2]
      exact lessN_trans (hs j (by omega)) (hs (j + 1) (by omega))
    · rw [if_neg h2]; exact hs (j + 1) (by omega)
theorem drop_keepmem {l : List Us} {i t : Nat} (ht : t < l.length) (hne : t ≠ i) : l[t] ∈ dropAt l i := by
  unfold dropAt
  rw [List.mem_append]
  rcases Nat.lt_or_gt_of_ne hne with h | h
  · exact .inl (List.mem_take_iff_getElem.2 ⟨t, by omega, rfl⟩)
  · refine .inr ?_
    rw [List.mem_iff_getElem?]
    exact ⟨t - (i + 1), by rw [List.getElem?_drop, show i + 1 + (t - (i + 1)) = t by omega, List.getElem?_eq_getElem ht]⟩
theorem row_at {l : List Us} (hs : SortedU l) {x : Nd} (hx : inN l x = true) : ∃ h : placeN l x < l.length, (l[placeN l x]).f0 = x := by
  have hlt := placeN_lt hx
  refine ⟨hlt, ?_⟩
  unfold inN at hx
  rw [decide_eq_true_iff, List.mem_map] at hx
  obtain ⟨v, hv, rfl⟩ := hx
  obtain ⟨t, ht, rfl⟩ := List.getElem_of_mem hv
  have := at_place hs ht (x := l[t].f0) (by rw [usAt_get l t ht])
  simp only [← this]
theorem drop_good {l : List Us} {x : Nd} (h : Dropped l x) : mayN (dropAt l (placeN l x)) = 0 := by
  have hg := good_may h.may
  obtain ⟨hi, hrow⟩ := row_at hg.sorted h.there
  refine may_of (rk := rkU l) ⟨?_, drop_sorted hg.sorted hi, fun v hv => hg.formed v (dropAt_mem hv), fun v hv y hy => ?_, fun v hv y hy => hg.rank v (dropAt_mem hv) y hy⟩
  · have := dropAt_len hi; have := hg.len; omega
  · have h1 := hg.closed v (dropAt_mem hv) y hy
    have hyx : y ≠ x := fun e => h.free v (dropAt_mem hv) (e ▸ hy)
    unfold inN at h1 ⊢
    rw [decide_eq_true_iff, List.mem_map] at h1 ⊢
    obtain ⟨w, hw, rfl⟩ := h1
    obtain ⟨t, ht, rfl⟩ := List.getElem_of_mem hw
    refine ⟨l[t], drop_keepmem ht (fun e => hyx ?_), rfl⟩
    subst e
    exact hrow
/-- Drop undoes Add. -/
theorem drop_add {l : List Us} {i : Nat} (hi : i ≤ l.length) (u : Us) : dropAt (addAt l i u) i = l := by
  unfold dropAt addAt
  have e1 : (l.take i ++ u :: l.drop i).take i = l.take i := by
    rw [List.take_append_of_le_length (by rw [List.length_take]; omega), List.take_take, Nat.min_self]
  have e2 : (l.take i ++ u :: l.drop i).drop (i + 1) = l.drop i := by
    rw [show i + 1 = (l.take i ++ [u]).length by rw [List.length_append, List.length_take, List.length_singleton]; omega, show l.take i ++ u :: l.drop i = (l.take i ++ [u]) ++ l.drop i by simp, List.drop_left]
  rw [e1, e2, List.take_append_drop]
theorem place_add {l : List Us} {u : Us} (h : Added l u) : placeN (addAt l (placeN l u.f0) u) u.f0 = placeN l u.f0 := by
  have hpl := placeN_le l u.f0
  have hg := good_may h.may
  symm
  refine at_place (add_sorted hg.sorted h.away) (by rw [addAt_len hpl]; omega) ?_
  rw [usAt_add hpl, if_neg (by omega), if_pos rfl]
theorem added_dropped {l : List Us} {u : Us} (h : Added l u) : Dropped (addAt l (placeN l u.f0) u) u.f0 := by
  have hg := good_may h.may
  refine ⟨add_good h, addAt_in.2 (.inl rfl), fun v hv hx => ?_⟩
  have : inN l u.f0 = true := by
    rcases addAt_mem.1 hv with rfl | hv
    · exact h.refs _ hx
    · exact hg.closed v hv _ hx
  rw [h.away] at this; cases this
theorem dropU_ok {l : List Us} {x : Nd} (h : Dropped l x) : dropU l x = (dropAt l (placeN l x), 0) := by
  unfold dropU
  rw [if_neg (by simp [h.may]), if_neg (by simp [h.there]), if_neg]
  intro h2
  obtain ⟨y, hy⟩ := List.exists_mem_of_length_pos h2
  unfold usersN at hy
  obtain ⟨v, hv, _⟩ := List.mem_map.1 hy
  have h3 := List.mem_filter.1 hv
  exact h.free v h3.1 (by simpa using h3.2)
end Go.Proofs.Ytddjhmelniphgaa.Print
end
