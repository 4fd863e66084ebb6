/- Plain law: which rows may be. -/
import Derived.Test.YtddjhmelniphgaaQMay19
import Derived.Test.YtddjhmelniphgaaGOrdW
namespace Go.Proofs.Ytddjhmelniphgaa.Print
open Go Go.RowKit Go.Proofs.YtddjhmelniphgaaW.PrintWords Go.Proofs.YtddjhmelniphgaaW.PrintLast
set_option linter.unusedVariables false
set_option linter.unusedSimpArgs false
theorem refLess (a b : Nd) : codicilref19_Less.f a.f0 a.f1 b.f0 b.f1 = some (lessN a b) := by
  unfold codicilref19_Less.f
  have h := lessN_iff a b
  by_cases h1 : Op.bytesLess a.f0.toList b.f0.toList = true
  · rw [if_pos h1, h.2 (.inl h1)]
  · rw [if_neg h1]
    by_cases h2 : a.f0.toList = b.f0.toList
    · rw [if_pos h2]
      congr 1
      rw [Bool.eq_iff_iff, decide_eq_true_iff, h]
      exact ⟨fun h3 => .inr ⟨ba_ext h2, h3⟩, fun h3 => h3.elim (fun h4 => absurd h4 h1) And.right⟩
    · rw [if_neg h2]
      congr 1
      symm
      rw [Bool.eq_false_iff]
      intro h3
      rcases h.1 h3 with h4 | h4
      · exact h1 h4
      · exact h2 (by rw [h4.1])
/-- A row is wrong by itself, or behind the one ahead of it. -/
def bad1 (l : List Us) (k : Nat) : Bool := (decide (0 < k) && !lessN (usAt l (k - 1)).f0 (usAt l k).f0) || !formedN (usAt l k).f1
def bad2 (l : List Us) (k : Nat) : Bool := anyP (fun x => !inN l x) (usAt l k).f1
theorem bad_split (l : List Us) (k : Nat) : badRow l k = (bad1 l k || bad2 l k) := by
  unfold badRow bad1 bad2
  rw [← Bool.or_assoc]
  congr 2
  funext x
  rw [keys_in]
theorem formed_16 {l : List Nd} (h : 16 < l.length) : formedN l = false := by
  unfold formedN
  rw [decide_eq_false (by omega), Bool.false_and]
theorem formed_nd {l : List Nd} (h : l.length ≤ 16) : formedN l = decide l.Nodup := by
  unfold formedN
  rw [decide_eq_true h, Bool.true_and]
/-- Behind the test of the order: one row. -/
theorem mayRow (l : List Us) (i : Nat) (hi : i < l.length) (r : Int) (h8 : formedN l[i].f1 = false → r = 8) (hk : formedN l[i].f1 = true → Ev (fun k => codicilref19_May.l0 k l ((i + 1 : Nat) : Int)) r) (hb : i ≤ 2000) :
    Ev (fun k => if ((l[i].f1).length : Int) > 16 then (some 8) else ((codicilref19_twice.f k l[i].f1).bind fun t => (if t = true then (some 8) else (codicilref19_May.l0 k l (wrap64 ((i : Int) + 1)))))) r := by
  rw [wrapS i (by omega)]
  by_cases h : 16 < l[i].f1.length
  · have := h8 (formed_16 h)
    subst this
    exact Ev.congr (f := fun _ => some 8) (fun k => by rw [if_pos (by omega)]) (Ev.now _)
  · have hn : (fun k => if ((l[i].f1).length : Int) > 16 then (some (8 : Int)) else ((codicilref19_twice.f k l[i].f1).bind fun t => (if t = true then (some 8) else (codicilref19_May.l0 k l ((i + 1 : Nat) : Int))))) = fun k => (codicilref19_twice.f k l[i].f1).bind fun t => (if t = true then (some 8) else (codicilref19_May.l0 k l ((i + 1 : Nat) : Int))) := by
      funext k
      rw [if_neg (by omega)]
    rw [hn]
    refine Ev.bind (f := fun k t => if t = true then (some 8) else (codicilref19_May.l0 k l ((i + 1 : Nat) : Int))) (twice_ev l[i].f1 (by omega)) ?_
    rw [formed_nd (by omega)] at h8 hk
    cases hd : decide l[i].f1.Nodup with
    | true =>
      rw [hd] at hk
      exact Ev.congr (fun k => by rw [Bool.not_true, if_neg (by decide)]) (hk rfl)
    | false =>
      rw [hd] at h8
      have := h8 rfl
      subst this
      exact Ev.congr (f := fun _ => some 8) (fun k => by rw [Bool.not_false, if_pos rfl]) (Ev.now _)
theorem mayA (l : List Us) (hl : l.length ≤ 1024) (r : Int) : ∀ d i, l.length = i + d → (∀ k, i ≤ k → k < l.length → bad1 l k = true → r = 8) → ((∀ k, i ≤ k → k < l.length → bad1 l k = false) → Ev (fun k => codicilref19_May.l1 k l ((0 : Nat) : Int)) r) → Ev (fun k => codicilref19_May.l0 k l (i : Int)) r
  | 0, i, hd, _, h2 => by
    refine Ev.step (fun k => ?_) (h2 (fun k h3 h4 => by omega))
    simp only [codicilref19_May.l0]
    rw [if_neg (by omega)]
    rfl
  | d + 1, i, hd, h1, h2 => by
    have hi : i < l.length := by omega
    have hrec : bad1 l i = false → Ev (fun k => codicilref19_May.l0 k l ((i + 1 : Nat) : Int)) r := fun hb => mayA l hl r d (i + 1) (by omega) (fun k h3 h4 h5 => h1 k (by omega) h4 h5) (fun h3 => h2 (fun k h4 h5 => by
      rcases Nat.eq_or_lt_of_le h4 with e | e
      · rw [← e]; exact hb
      · exact h3 k e h5))
    by_cases h0 : 0 < i
    · have hbe : bad1 l i = (!lessN l[i - 1].f0 l[i].f0 || !formedN l[i].f1) := by
        unfold bad1
        rw [decide_eq_true h0, Bool.true_and, usAt_get l i hi, usAt_get l (i - 1) (by omega)]
      have hw : wrap64 ((i : Int) - 1) = ((i - 1 : Nat) : Int) := by unfold wrap64; omega
      cases hle : lessN l[i - 1].f0 l[i].f0 with
      | false =>
        have := h1 i (Nat.le_refl _) hi (by rw [hbe, hle]; rfl)
        subst this
        refine Ev.step (f := fun _ => some 8) (fun k => ?_) (Ev.now _)
        simp only [codicilref19_May.l0]
        rw [if_pos (by omega), if_pos (by omega), hw, if_pos (by omega), if_pos (by omega), if_pos (by omega), rdU l i hi, rdU l (i - 1) (by omega), refLess, hle, Option.bind_some, if_neg (by decide)]
      | true =>
        rw [hle] at hbe
        refine Ev.step (fun k => ?_) (mayRow l i hi r (fun h3 => h1 i (Nat.le_refl _) hi (by rw [hbe, h3]; rfl)) (fun h3 => hrec (by rw [hbe, h3]; rfl)) (by omega))
        simp only [codicilref19_May.l0]
        rw [if_pos (by omega), if_pos (by omega), hw, if_pos (by omega), if_pos (by omega), if_pos (by omega), rdU l i hi, rdU l (i - 1) (by omega), refLess, hle, Option.bind_some, if_pos rfl]
    · have hbe : bad1 l i = !formedN l[i].f1 := by
        unfold bad1
        rw [decide_eq_false h0, Bool.false_and, Bool.false_or, usAt_get l i hi]
      refine Ev.step (fun k => ?_) (mayRow l i hi r (fun h3 => h1 i (Nat.le_refl _) hi (by rw [hbe, h3]; rfl)) (fun h3 => hrec (by rw [hbe, h3]; rfl)) (by omega))
      simp only [codicilref19_May.l0]
      rw [if_pos (by omega), if_neg (by omega), if_pos (by omega), rdU l i hi]
theorem mayB2 (l : List Us) (hl : l.length ≤ 1024) (r : Int) (i : Nat) (hi : i < l.length) (hr : l[i].f1.length ≤ 16) : ∀ d j, l[i].f1.length = j + d → ((anyP (fun x => !inN l x) (l[i].f1.drop j)) = true → r = 8) → ((anyP (fun x => !inN l x) (l[i].f1.drop j)) = false → Ev (fun k => codicilref19_May.l1 k l ((i + 1 : Nat) : Int)) r) → Ev (fun k => codicilref19_May.l2 k l (i : Int) (j : Int)) r
  | 0, j, hd, _, h2 => by
    refine Ev.step (fun k => ?_) (h2 (by rw [List.drop_of_length_le (by omega)]; rfl))
    simp only [codicilref19_May.l2]
    rw [if_pos (by omega), if_pos (by omega), rdU l i hi, if_neg (by omega), wrapS i (by omega)]
  | d + 1, j, hd, h1, h2 => by
    have hj : j < l[i].f1.length := by omega
    have hc : anyP (fun x => !inN l x) (l[i].f1.drop j) = (!inN l l[i].f1[j] || anyP (fun x => !inN l x) (l[i].f1.drop (j + 1))) := by
      unfold anyP
      rw [List.drop_eq_getElem_cons hj, List.any_cons]
    cases hin : inN l l[i].f1[j] with
    | false =>
      have := h1 (by rw [hc, hin]; rfl)
      subst this
      have hev : Ev (fun k => codicilref19_at.f k l l[i].f1[j].f0 l[i].f1[j].f1) (-1) := Ev.of (fun k => codicilref19_at.mono _ _ _ k) (at_out (by omega) hin (l.length + 1) (by omega))
      refine Ev.step (fun k => ?_) (Ev.bind hev (f := fun k t => if t < 0 then (some 8) else codicilref19_May.l2 k l (i : Int) ((j + 1 : Nat) : Int)) (Ev.congr (f := fun _ => some 8) (fun k => by rw [if_pos (by decide)]) (Ev.now _)))
      simp only [codicilref19_May.l2]
      rw [if_pos (by omega), if_pos (by omega), rdU l i hi, if_pos (by omega), if_pos (by omega), rdN _ j hj, wrapS j (by omega)]
    | true =>
      rw [hin] at hc
      obtain ⟨ja, hja, hjl, hjx⟩ := at_in (by omega) hin (l.length + 1) (by omega)
      have hev : Ev (fun k => codicilref19_at.f k l l[i].f1[j].f0 l[i].f1[j].f1) (ja : Int) := Ev.of (fun k => codicilref19_at.mono _ _ _ k) hja
      refine Ev.step (fun k => ?_) (Ev.bind hev (f := fun k t => if t < 0 then (some 8) else codicilref19_May.l2 k l (i : Int) ((j + 1 : Nat) : Int)) (Ev.congr (fun k => by rw [if_neg (by omega)]) (mayB2 l hl r i hi hr d (j + 1) (by omega) (fun h => h1 (by rw [hc, h]; rfl)) (fun h => h2 (by rw [hc, h]; rfl)))))
      simp only [codicilref19_May.l2]
      rw [if_pos (by omega), if_pos (by omega), rdU l i hi, if_pos (by omega), if_pos (by omega), rdN _ j hj, wrapS j (by omega)]
theorem mayB (l : List Us) (hl : l.length ≤ 1024) (hr : ∀ u ∈ l, u.f1.length ≤ 16) (r : Int) : ∀ d i, l.length = i + d → (∀ k, i ≤ k → k < l.length → bad2 l k = true → r = 8) → ((∀ k, i ≤ k → k < l.length → bad2 l k = false) → Ev (fun k => (codicilref19_circles.f k l).bind fun t => (if t = true then (some 8) else (some 0))) r) → Ev (fun k => codicilref19_May.l1 k l (i : Int)) r
  | 0, i, hd, _, h2 => by
    refine Ev.step (fun k => ?_) (h2 (fun k h3 h4 => by omega))
    simp only [codicilref19_May.l1]
    rw [if_neg (by omega)]
  | d + 1, i, hd, h1, h2 => by
    have hi : i < l.length := by omega
    have hbe : bad2 l i = anyP (fun x => !inN l x) l[i].f1 := by unfold bad2; rw [usAt_get l i hi]
    refine Ev.step (f := fun k => codicilref19_May.l2 k l (i : Int) ((0 : Nat) : Int)) (fun k => ?_) (mayB2 l hl r i hi (hr _ (List.getElem_mem hi)) l[i].f1.length 0 (by omega) (fun h => h1 i (Nat.le_refl _) hi (by rw [hbe, ← h, List.drop_zero])) (fun h => mayB l hl hr r d (i + 1) (by omega) (fun k h3 h4 h5 => h1 k (by omega) h4 h5) (fun h3 => h2 (fun k h4 h5 => by
      rcases Nat.eq_or_lt_of_le h4 with e | e
      · rw [← e, hbe, ← h, List.drop_zero]
      · exact h3 k e h5))))
    simp only [codicilref19_May.l1]
    rw [if_pos (by omega)]
    rfl
theorem addN_fold : ∀ (xs acc : List Nd), (acc ++ xs).Nodup → xs.foldl addN acc = acc ++ xs
  | [], acc, _ => by simp
  | x :: r, acc, h => by
    have hx : x ∉ acc := fun hm => by
      rw [List.nodup_append] at h
      exact h.2.2 x hm x List.mem_cons_self rfl
    rw [List.foldl_cons]
    unfold addN
    rw [if_neg hx]
    have := addN_fold r (acc ++ [x]) (by simpa using h)
    unfold addN at this
    rw [this]
    simp
theorem sortedU_nodup {l : List Us} (hs : SortedU l) : (l.map (·.f0)).Nodup := by
  refine List.pairwise_iff_getElem.2 fun i j hi hj hij => ?_
  rw [List.length_map] at hi hj
  rw [List.getElem_map, List.getElem_map]
  intro e
  have := sorted_inj hs hi hj e
  omega
theorem keys_len {l : List Us} (hs : SortedU l) : (keysN l).length = l.length := by
  unfold keysN
  rw [addN_fold _ [] (by simpa using sortedU_nodup hs)]
  simp
/-- The reference's answer is the program's. -/
theorem may_ev (l : List Us) : Ev (fun k => codicilref19_May.f k l) (mayN l) := by
  by_cases h0 : 1024 < l.length
  · have e : mayN l = 8 := by unfold mayN badHead; rw [decide_eq_true h0]; rfl
    rw [e]
    refine Ev.congr (f := fun _ => some 8) (fun k => ?_) (Ev.now _)
    unfold codicilref19_May.f
    rw [if_pos (by omega)]
  · have hl : l.length ≤ 1024 := by omega
    refine Ev.congr (f := fun k => codicilref19_May.l0 k l ((0 : Nat) : Int)) (fun k => by unfold codicilref19_May.f; rw [if_neg (by omega)]; rfl) ?_
    have hany : ∀ k, k < l.length → badRow l k = true → mayN l = 8 := fun k hk hb => by
      unfold mayN
      split
      · rfl
      · rw [if_pos (List.any_eq_true.2 ⟨k, List.mem_range.2 hk, hb⟩)]
    refine mayA l hl (mayN l) l.length 0 (by omega) (fun k _ hk hb => hany k hk (by rw [bad_split, hb]; rfl)) (fun h1 => ?_)
    have hs : SortedU l := fun i hi => by
      have := h1 (i + 1) (Nat.zero_le _) hi
      unfold bad1 at this
      rw [Bool.or_eq_false_iff, Bool.and_eq_false_iff] at this
      rcases this.1 with h | h
      · rw [decide_eq_false_iff_not] at h; omega
      · rw [Nat.add_sub_cancel, Bool.not_eq_false'] at h; exact h
    have hr : ∀ u ∈ l, u.f1.length ≤ 16 := fun u hu => by
      obtain ⟨i, hi, rfl⟩ := List.getElem_of_mem hu
      have := h1 i (Nat.zero_le _) hi
      unfold bad1 at this
      rw [Bool.or_eq_false_iff, usAt_get l i hi] at this
      have h2 := this.2
      rw [Bool.not_eq_false'] at h2
      unfold formedN at h2
      rw [Bool.and_eq_true, decide_eq_true_iff] at h2
      exact h2.1
    refine mayB l hl hr (mayN l) l.length 0 (by omega) (fun k _ hk hb => hany k hk (by rw [bad_split, hb, Bool.or_true])) (fun h2 => ?_)
    have hc : ∀ u ∈ l, ∀ y ∈ u.f1, inN l y = true := fun u hu y hy => by
      obtain ⟨i, hi, rfl⟩ := List.getElem_of_mem hu
      have := h2 i (Nat.zero_le _) hi
      unfold bad2 anyP at this
      rw [List.any_eq_false, usAt_get l i hi] at this
      simpa using this y hy
    have hm : mayN l = if decide ((roundsN l (l.length + 1) []).length < l.length) = true then 8 else 0 := by
      unfold mayN
      rw [if_neg, if_neg]
      · simp only [decide_eq_true_eq]
      · rw [List.any_eq_true]
        rintro ⟨k, hk, hb⟩
        rw [List.mem_range] at hk
        rw [bad_split, h1 k (Nat.zero_le _) hk, h2 k (Nat.zero_le _) hk] at hb
        cases hb
      · unfold badHead
        rw [keys_len hs, decide_eq_false (by omega)]
        simp
    rw [hm]
    refine Ev.bind (f := fun _ t => if t = true then (some 8) else (some 0)) (circles_ev hs (by omega) (fun u hu => by have := hr u hu; omega) hc) ?_
    refine Ev.congr (f := fun _ => some (if decide ((roundsN l (l.length + 1) []).length < l.length) = true then 8 else 0)) (fun k => ?_) (Ev.now _)
    split <;> rfl
end Go.Proofs.Ytddjhmelniphgaa.Print
