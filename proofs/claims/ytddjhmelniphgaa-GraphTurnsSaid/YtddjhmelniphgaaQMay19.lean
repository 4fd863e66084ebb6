/- Plain law: which rows may be: the reference's answer is the program's. -/
import Derived.Test.YtddjhmelniphgaaGRank
import Derived.Test.YtddjhmelniphgaaGAt
import Derived.Test.YtddjhmelniphgaaPrint7
import Derived.Test.YtddjhmelniphgaaPrint6
import Derived.Test.YtddjhmelniphgaaPrint5
namespace Go.Proofs.Ytddjhmelniphgaa.Print
open Go Go.RowKit Go.Proofs.YtddjhmelniphgaaW.PrintWords Go.Proofs.YtddjhmelniphgaaW.PrintLast
set_option linter.unusedVariables false
set_option linter.unusedSimpArgs false
set_option linter.unusedSectionVars false
theorem rdN (l : List Nd) (j : Nat) (h : j < l.length) : rd_T24 l (j : Int) = l[j] := by simp [rd_T24, List.getElem?_eq_getElem h]
theorem rdU (l : List Us) (j : Nat) (h : j < l.length) : rd_T40 l (j : Int) = l[j] := by simp [rd_T40, List.getElem?_eq_getElem h]
theorem usAt_get (l : List Us) (j : Nat) (h : j < l.length) : usAt l j = l[j] := by unfold usAt; rw [List.getD_eq_getElem?_getD, List.getElem?_eq_getElem h]; rfl
/-! ### twice -/
theorem tw1 (l : List Nd) (hl : l.length ≤ 1048576) (i : Nat) (hi : i < l.length) (r : Bool) : ∀ d j, i = j + d → (l[i] ∈ (l.take i).drop j → r = true) → (l[i] ∉ (l.take i).drop j → Ev (fun k => codicilref19_twice.l0 k l ((i + 1 : Nat) : Int)) r) → Ev (fun k => codicilref19_twice.l1 k l (i : Int) (j : Int)) r
  | 0, j, hd, _, h2 => by
    refine Ev.step (fun k => ?_) (h2 ?_)
    · simp only [codicilref19_twice.l1]
      rw [if_neg (by omega), wrapS i (by omega)]
    · rw [List.drop_eq_nil_of_le (by simp; omega)]
      exact List.not_mem_nil
  | d + 1, j, hd, h1, h2 => by
    have hj : j < l.length := by omega
    have hc : (l.take i).drop j = l[j] :: (l.take i).drop (j + 1) := by
      rw [List.drop_eq_getElem_cons (by simp; omega), List.getElem_take]
    rw [hc] at h1 h2
    by_cases he : l[i] = l[j]
    · have : r = true := h1 (by rw [he]; exact List.mem_cons_self)
      subst this
      refine Ev.step (f := fun _ => some true) (fun k => ?_) (Ev.now _)
      simp only [codicilref19_twice.l1]
      rw [if_pos (by omega), if_pos (by omega), if_pos (by omega), if_pos (by omega), if_pos (by omega), rdN l i hi, rdN l j hj, ndEq l[i] l[j], if_pos (decide_eq_true he)]
    · refine Ev.step (fun k => ?_) (tw1 l hl i hi r d (j + 1) (by omega) (fun h => h1 (List.mem_cons_of_mem _ h)) (fun h => h2 (fun h3 => (List.mem_cons.1 h3).elim he h)))
      simp only [codicilref19_twice.l1]
      rw [if_pos (by omega), if_pos (by omega), if_pos (by omega), if_pos (by omega), if_pos (by omega), rdN l i hi, rdN l j hj, ndEq l[i] l[j], if_neg (by simp [he]), wrapS j (by omega)]
theorem tw0 (l : List Nd) (hl : l.length ≤ 1048576) : ∀ d i, l.length = i + d → (l.take i).Nodup → Ev (fun k => codicilref19_twice.l0 k l (i : Int)) (!decide l.Nodup)
  | 0, i, hd, hn => by
    rw [List.take_of_length_le (by omega)] at hn
    refine Ev.step (f := fun _ => some false) (fun k => ?_) (by rw [decide_eq_true hn]; exact Ev.now _)
    simp only [codicilref19_twice.l0]
    rw [if_neg (by omega)]
  | d + 1, i, hd, hn => by
    have hi : i < l.length := by omega
    have ht : l.take (i + 1) = l.take i ++ [l[i]] := List.take_succ_eq_append_getElem hi
    refine Ev.step (fun k => ?_) (tw1 l hl i hi (!decide l.Nodup) i 0 (by omega) (fun h => ?_) (fun h => tw0 l hl d (i + 1) (by omega) ?_))
    · simp only [codicilref19_twice.l0]
      rw [if_pos (by omega)]
      rfl
    · rw [List.drop_zero] at h
      have : ¬ l.Nodup := fun hN => by
        have h3 : (l.take (i + 1)).Nodup := List.Sublist.nodup (List.take_sublist _ _) hN
        rw [ht, List.nodup_append] at h3
        exact h3.2.2 _ h _ (List.mem_singleton.2 rfl) rfl
      rw [decide_eq_false this]; rfl
    · rw [List.drop_zero] at h
      rw [ht, List.nodup_append]
      exact ⟨hn, by simp, fun a ha b hb e => by rw [List.mem_singleton] at hb; exact h (hb ▸ e ▸ ha)⟩
theorem twice_ev (l : List Nd) (hl : l.length ≤ 1048576) : Ev (fun k => codicilref19_twice.f k l) (!decide l.Nodup) := tw0 l hl l.length 0 (by omega) (by simp)
/-! ### circles -/
/-- The booleans tell who is done. -/
def RelD (l : List Us) (d : List Bool) (D : List Nd) : Prop := d.length = l.length ∧ ∀ i, (hi : i < l.length) → rdOf false d (i : Int) = decide (l[i].f0 ∈ D)
theorem rdOf_set (d : List Bool) (i j : Nat) (hj : j < d.length) (hi : i < d.length) : rdOf false (d.set i true) (j : Int) = if j = i then true else rdOf false d (j : Int) := by
  simp only [rdOf, Int.toNat_natCast, List.getD_eq_getElem?_getD, List.getElem?_set]
  by_cases h : i = j
  · subst h; simp [hi]
  · rw [if_neg h, if_neg (fun e => h e.symm)]
theorem sorted_inj {l : List Us} (h : SortedU l) {i j : Nat} (hi : i < l.length) (hj : j < l.length) (he : l[i].f0 = l[j].f0) : i = j := by
  have e1 := usAt_get l i hi
  have e2 := usAt_get l j hj
  rcases Nat.lt_trichotomy i j with h1 | h1 | h1
  · have h2 := h.lt (j - i - 1) i (by omega)
    rw [show i + (j - i - 1) + 1 = j by omega, e1, e2, he, lessN_irrefl] at h2; cases h2
  · exact h1
  · have h2 := h.lt (i - j - 1) j (by omega)
    rw [show j + (i - j - 1) + 1 = i by omega, e1, e2, he, lessN_irrefl] at h2; cases h2
theorem doneStep_hit {D : List Nd} {u : Us} (h : (decide (u.f0 ∉ D) && u.f1.all fun y => decide (y ∈ D)) = true) : doneStep D u = D ++ [u.f0] := by
  rw [Bool.and_eq_true, decide_eq_true_iff, List.all_eq_true] at h
  unfold doneStep addN anyP
  rw [if_neg, if_neg h.1]
  rw [List.any_eq_true]
  rintro ⟨y, hy, h2⟩
  have := h.2 y hy
  rw [decide_eq_true_iff] at this
  simp [this] at h2
theorem doneStep_miss {D : List Nd} {u : Us} (h : (decide (u.f0 ∉ D) && u.f1.all fun y => decide (y ∈ D)) = false) : doneStep D u = D := by
  unfold doneStep addN anyP
  split
  · rfl
  · rename_i h2
    split
    · rfl
    · rename_i h3
      exfalso
      rw [Bool.and_eq_false_iff] at h
      rcases h with h | h
      · rw [decide_eq_false_iff_not] at h; exact h h3
      · rw [List.all_eq_false] at h
        obtain ⟨y, hy, h4⟩ := h
        exact h2 (List.any_eq_true.2 ⟨y, hy, by simpa using h4⟩)
section
variable {l : List Us} (hs : SortedU l) (hl : l.length ≤ 1048576) (hr : ∀ u ∈ l, u.f1.length ≤ 1048576) (hc : ∀ u ∈ l, ∀ y ∈ u.f1, inN l y = true)
include hs hl hr hc
/-- One row's references. -/
theorem ci2 (d : List Bool) (D : List Nd) (hd : RelD l d D) (mo : Bool) (i : Nat) (hi : i < l.length) (r : Bool) : ∀ n j (fl : Bool), l[i].f1.length = j + n →
    ((fl && (l[i].f1.drop j).all fun y => decide (y ∈ D)) = false → Ev (fun k => codicilref19_circles.l1 k l d mo ((i + 1 : Nat) : Int)) r) →
    ((fl && (l[i].f1.drop j).all fun y => decide (y ∈ D)) = true → Ev (fun k => codicilref19_circles.l1 k l (d.set i true) true ((i + 1 : Nat) : Int)) r) →
    Ev (fun k => codicilref19_circles.l2 k l d mo (i : Int) fl (j : Int)) r
  | 0, j, fl, hn, h2, h3 => by
    rw [List.drop_of_length_le (by omega)] at h2 h3
    simp only [List.all_nil, Bool.and_true] at h2 h3
    cases fl with
    | false =>
      refine Ev.step (fun k => ?_) (h2 rfl)
      simp only [codicilref19_circles.l2]
      rw [if_pos (by omega), if_pos (by omega), rdU l i hi, if_neg (by omega), if_neg (by decide), wrapS i (by omega)]
    | true =>
      refine Ev.step (fun k => ?_) (h3 rfl)
      have hdl := hd.1
      simp only [codicilref19_circles.l2]
      rw [if_pos (by omega), if_pos (by omega), rdU l i hi, if_neg (by omega), if_pos trivial, if_pos (by omega), wrapS i (by omega), Int.toNat_natCast]
  | n + 1, j, fl, hn, h2, h3 => by
    have hj : j < l[i].f1.length := by omega
    rw [List.drop_eq_getElem_cons hj, List.all_cons] at h2 h3
    have hrl := hr _ (List.getElem_mem hi)
    cases fl with
    | false =>
      refine Ev.step (fun k => ?_) (h2 rfl)
      simp only [codicilref19_circles.l2]
      rw [if_pos (by omega), if_pos (by omega), rdU l i hi, if_pos (by omega), if_neg (by decide), wrapS i (by omega)]
    | true =>
      have hin := hc _ (List.getElem_mem hi) _ (List.getElem_mem hj)
      obtain ⟨ja, hja, hjl, hjx⟩ := at_in hl hin (l.length + 1) (by omega)
      have hev : Ev (fun k => codicilref19_at.f k l l[i].f1[j].f0 l[i].f1[j].f1) (ja : Int) := Ev.of (fun k => codicilref19_at.mono _ _ _ k) hja
      rw [usAt_get l ja hjl] at hjx
      have hdl := hd.1
      have hrd : rdOf false d (ja : Int) = decide (l[i].f1[j] ∈ D) := by rw [hd.2 ja hjl, hjx]
      refine Ev.step (fun k => ?_) (Ev.bind hev (f := fun k t => if 0 ≤ t then (if t < (d.length : Int) then codicilref19_circles.l2 k l d mo (i : Int) (rdOf false d t) ((j + 1 : Nat) : Int) else none) else none) (Ev.congr (f := fun k => codicilref19_circles.l2 k l d mo (i : Int) (rdOf false d (ja : Int)) ((j + 1 : Nat) : Int)) (fun k => by rw [if_pos (by omega), if_pos (by omega)]) (ci2 d D hd mo i hi r n (j + 1) (rdOf false d (ja : Int)) (by omega) (fun h => h2 (by rw [← h, hrd]; simp)) (fun h => h3 (by rw [← h, hrd]; simp)))))
      simp only [codicilref19_circles.l2]
      rw [if_pos (by omega), if_pos (by omega), rdU l i hi, if_pos (by omega), if_pos trivial, if_pos (by omega), rdN _ j hj, wrapS j (by omega)]
/-- One pass. -/
theorem ci1 (r : Bool) : ∀ n i (d : List Bool) (D : List Nd) (mo : Bool), l.length = i + n → RelD l d D →
    (∀ d', RelD l d' ((l.drop i).foldl doneStep D) → Ev (fun k => codicilref19_circles.l0 k l d' (mo || decide (D.length < ((l.drop i).foldl doneStep D).length))) r) →
    Ev (fun k => codicilref19_circles.l1 k l d mo (i : Int)) r
  | 0, i, d, D, mo, hn, hd, h => by
    rw [List.drop_of_length_le (by omega)] at h
    have h2 := h d hd
    simp only [List.foldl_nil, Nat.lt_irrefl, decide_false, Bool.or_false] at h2
    refine Ev.step (fun k => ?_) h2
    simp only [codicilref19_circles.l1]
    rw [if_neg (by omega)]
  | n + 1, i, d, D, mo, hn, hd, h => by
    have hi : i < l.length := by omega
    have hdl := hd.1
    obtain ⟨E, hE⟩ : ∃ E, E = (l.drop i).foldl doneStep D := ⟨_, rfl⟩
    rw [← hE] at h
    rw [List.drop_eq_getElem_cons hi, List.foldl_cons] at hE
    refine Ev.step (f := fun k => codicilref19_circles.l2 k l d mo (i : Int) (!(rdOf false d (i : Int))) ((0 : Nat) : Int)) (fun k => ?_) (ci2 hs hl hr hc d D hd mo i hi r l[i].f1.length 0 (!(rdOf false d (i : Int))) (by omega) (fun hm => ?_) (fun hm => ?_))
    · simp only [codicilref19_circles.l1]
      rw [if_pos (by omega), if_pos (by omega), if_pos (by omega)]
      rfl
    · rw [hd.2 i hi, List.drop_zero] at hm
      have e := doneStep_miss (D := D) (u := l[i]) (by rw [← hm]; simp)
      rw [e] at hE
      exact ci1 r n (i + 1) d D mo (by omega) hd (fun d' hd' => by rw [← hE] at hd' ⊢; exact h d' hd')
    · rw [hd.2 i hi, List.drop_zero] at hm
      have e := doneStep_hit (D := D) (u := l[i]) (by rw [← hm]; simp)
      rw [e] at hE
      refine ci1 r n (i + 1) (d.set i true) (D ++ [l[i].f0]) true (by omega) ⟨by rw [List.length_set]; exact hdl, fun j hj => ?_⟩ (fun d' hd' => ?_)
      · rw [rdOf_set d i j (by omega) (by omega), hd.2 j hj]
        by_cases hji : j = i
        · subst hji; rw [if_pos rfl, decide_eq_true (List.mem_append_right _ (List.mem_singleton.2 rfl))]
        · rw [if_neg hji, decide_eq_decide, List.mem_append, List.mem_singleton]
          exact ⟨.inl, fun h5 => h5.elim id (fun h6 => absurd (sorted_inj hs hj hi h6) hji)⟩
      · have hlen := fold_len (l.drop (i + 1)) (D ++ [l[i].f0])
        rw [← hE] at hd' hlen ⊢
        have h2 := h d' hd'
        rw [List.length_append, List.length_singleton] at hlen
        rw [decide_eq_true (by omega), Bool.or_true] at h2
        rw [Bool.true_or]
        exact h2
theorem ci3 (D : List Nd) (d : List Bool) (hd : RelD l d D) : ∀ n i, l.length = i + n → Ev (fun k => codicilref19_circles.l3 k l d (i : Int)) (!((l.drop i).all fun u => decide (u.f0 ∈ D)))
  | 0, i, hn => by
    rw [List.drop_of_length_le (by omega)]
    refine Ev.step (f := fun _ => some false) (fun k => ?_) (Ev.now _)
    simp only [codicilref19_circles.l3]
    rw [if_neg (by omega)]
  | n + 1, i, hn => by
    have hi : i < l.length := by omega
    have hdl := hd.1
    rw [List.drop_eq_getElem_cons hi, List.all_cons]
    by_cases h : l[i].f0 ∈ D
    · rw [decide_eq_true h, Bool.true_and]
      refine Ev.step (fun k => ?_) (ci3 D d hd n (i + 1) (by omega))
      simp only [codicilref19_circles.l3]
      rw [if_pos (by omega), if_pos (by omega), if_pos (by omega), hd.2 i hi, decide_eq_true h, if_pos rfl, wrapS i (by omega)]
    · rw [decide_eq_false h, Bool.false_and]
      refine Ev.step (f := fun _ => some true) (fun k => ?_) (Ev.now _)
      simp only [codicilref19_circles.l3]
      rw [if_pos (by omega), if_pos (by omega), if_pos (by omega), hd.2 i hi, decide_eq_false h, if_neg (by decide)]
theorem all_done {D : List Nd} (hg : GoodD l D) : (!(l.all fun u => decide (u.f0 ∈ D))) = decide (D.length < l.length) := by
  have key : (l.all fun u => decide (u.f0 ∈ D)) = decide (l.length ≤ D.length) := by
    rw [Bool.eq_iff_iff, List.all_eq_true, decide_eq_true_iff]
    constructor
    · intro h
      have hn : (l.map (·.f0)).Nodup := by
        refine List.pairwise_iff_getElem.2 fun i j hi hj hij => ?_
        rw [List.length_map] at hi hj
        rw [List.getElem_map, List.getElem_map]
        intro e
        have := sorted_inj hs hi hj e
        omega
      have := nodup_len_le (l.map (·.f0)) D hn (fun y hy => by
        obtain ⟨u, hu, rfl⟩ := List.mem_map.1 hy
        exact of_decide_eq_true (h u hu))
      rwa [List.length_map] at this
    · intro h u hu
      rw [decide_eq_true_iff]
      exact nodup_all (good_nodup hg) (good_sub hg) (by rw [List.length_map]; exact h) _ (List.mem_map_of_mem hu)
  rw [key, ← decide_not, decide_eq_decide]
  omega
/-- All is done: one pass more turns nothing. -/
theorem ci_full (D : List Nd) (d : List Bool) (hg : GoodD l D) (hd : RelD l d D) (hf : l.length ≤ D.length) : Ev (fun k => codicilref19_circles.l0 k l d true) (decide (D.length < l.length)) := by
  have hall : ∀ u ∈ l, u.f0 ∈ D := fun u hu => nodup_all (good_nodup hg) (good_sub hg) (by rw [List.length_map]; exact hf) _ (List.mem_map_of_mem hu)
  have hfix : ∀ (xs : List Us), (∀ u ∈ xs, u ∈ l) → xs.foldl doneStep D = D := by
    intro xs
    induction xs with
    | nil => intro _; rfl
    | cons u r ih =>
      intro h
      rw [List.foldl_cons, doneStep_miss (by rw [decide_eq_false (fun h2 => h2 (hall u (h u List.mem_cons_self))), Bool.false_and])]
      exact ih (fun v hv => h v (List.mem_cons_of_mem _ hv))
  refine Ev.step (f := fun k => codicilref19_circles.l1 k l d false ((0 : Nat) : Int)) (fun k => by simp only [codicilref19_circles.l0]; rw [if_pos trivial]; rfl) (ci1 hs hl hr hc _ l.length 0 d D false (by omega) hd (fun d' hd' => ?_))
  rw [List.drop_zero, hfix l (fun u hu => hu)] at hd' ⊢
  rw [Bool.false_or, decide_eq_false (Nat.lt_irrefl _), ← all_done hs hl hr hc hg]
  refine Ev.step (f := fun k => codicilref19_circles.l3 k l d' ((0 : Nat) : Int)) (fun k => by simp only [codicilref19_circles.l0]; rw [if_neg (by decide)]; rfl) ?_
  have := ci3 hs hl hr hc D d' hd' l.length 0 (by omega)
  rwa [List.drop_zero] at this
/-- The whole. -/
theorem ci0 : ∀ m (D : List Nd) (d : List Bool), GoodD l D → RelD l d D → l.length ≤ D.length + m → Ev (fun k => codicilref19_circles.l0 k l d true) (decide ((roundsN l (m + 1) D).length < l.length)) := by
  intro m
  induction m with
  | zero =>
    intro D d hg hd hm
    have e : roundsN l 1 D = D := by unfold roundsN; rw [if_pos (by omega)]
    rw [e]
    exact ci_full hs hl hr hc D d hg hd (by omega)
  | succ m ih =>
    intro D d hg hd hm
    by_cases hf : l.length ≤ D.length
    · have e : roundsN l (m + 1 + 1) D = D := by unfold roundsN; rw [if_pos hf]
      rw [e]
      exact ci_full hs hl hr hc D d hg hd hf
    · have hlen := fold_len l D
      have hg2 : GoodD l (roundN l D) := good_fold l D (fun u hu => hu) hg
      refine Ev.step (f := fun k => codicilref19_circles.l1 k l d false ((0 : Nat) : Int)) (fun k => by simp only [codicilref19_circles.l0]; rw [if_pos trivial]; rfl) (ci1 hs hl hr hc _ l.length 0 d D false (by omega) hd (fun d' hd' => ?_))
      rw [List.drop_zero] at hd' ⊢
      by_cases he : (roundN l D).length = D.length
      · have e : roundsN l (m + 1 + 1) D = roundN l D := by
          show (if l.length ≤ D.length then D else if (roundN l D).length = D.length then roundN l D else roundsN l (m + 1) (roundN l D)) = _
          rw [if_neg hf, if_pos he]
        rw [e, Bool.false_or, decide_eq_false (by show ¬ D.length < (roundN l D).length; omega), ← all_done hs hl hr hc hg2]
        refine Ev.step (f := fun k => codicilref19_circles.l3 k l d' ((0 : Nat) : Int)) (fun k => by simp only [codicilref19_circles.l0]; rw [if_neg (by decide)]; rfl) ?_
        have := ci3 hs hl hr hc (roundN l D) d' hd' l.length 0 (by omega)
        rwa [List.drop_zero] at this
      · have hlen2 : D.length ≤ (roundN l D).length := hlen
        have e : roundsN l (m + 1 + 1) D = roundsN l (m + 1) (roundN l D) := by
          show (if l.length ≤ D.length then D else if (roundN l D).length = D.length then roundN l D else roundsN l (m + 1) (roundN l D)) = _
          rw [if_neg hf, if_neg he]
        rw [e, Bool.false_or, decide_eq_true (by show D.length < (roundN l D).length; omega)]
        exact ih (roundN l D) d' hg2 hd' (by omega)
theorem circles_ev : Ev (fun k => codicilref19_circles.f k l) (decide ((roundsN l (l.length + 1) []).length < l.length)) := by
  have h := ci0 hs hl hr hc l.length [] (List.replicate l.length false) (good_nil l) ⟨List.length_replicate, fun i hi => by simp [rdOf, hi]⟩ (by simp)
  refine Ev.congr (fun k => ?_) h
  unfold codicilref19_circles.f
  rw [if_pos (by omega), if_pos (by omega), Int.toNat_natCast]
end
end Go.Proofs.Ytddjhmelniphgaa.Print
