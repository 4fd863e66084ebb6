/- Plain law: what comes of rows when one is added, or dropped. -/
import Derived.Test.YtddjhmelniphgaaQBase19
import Derived.Test.YtddjhmelniphgaaPrint10
import Derived.Test.YtddjhmelniphgaaPrint11
import Derived.Test.YtddjhmelniphgaaPrint12
namespace Go.Proofs.Ytddjhmelniphgaa.Print
open Go Go.RowKit Go.Proofs.YtddjhmelniphgaaW.PrintWords Go.Proofs.YtddjhmelniphgaaW.PrintLast
set_option linter.unusedVariables false
set_option linter.unusedSimpArgs false
/-! ### Copy -/
theorem copy_l0 (l : List Us) (hl : l.length ≤ 1048576) (hr : ∀ u ∈ l, u.f1.length ≤ 1048576) : ∀ d i, l.length = i + d → Ev (fun k => codicilref19_Copy.l0 k l (l.take i) (i : Int)) l
  | 0, i, hd => by
    rw [List.take_of_length_le (by omega)]
    refine Ev.step (f := fun _ => some l) (fun k => ?_) (Ev.now _)
    simp only [codicilref19_Copy.l0]
    rw [if_neg (by omega)]
  | d + 1, i, hd => by
    have hi : i < l.length := by omega
    have hrl := hr _ (List.getElem_mem hi)
    refine Ev.step (fun k => ?_) (copy_l0 l hl hr d (i + 1) (by omega))
    simp only [codicilref19_Copy.l0]
    rw [if_pos (by omega), if_pos (by omega), rdU l i hi, Option.bind_some, if_pos (by simp only [List.length_nil]; omega), if_pos (by rw [List.length_take]; omega), List.nil_append, wrapS i (by omega), List.take_succ_eq_append_getElem hi]
theorem copy_ev (l : List Us) (hl : l.length ≤ 1048576) (hr : ∀ u ∈ l, u.f1.length ≤ 1048576) : Ev (fun k => codicilref19_Copy.f k l) l := by
  have := copy_l0 l hl hr l.length 0 (by omega)
  rw [List.take_zero] at this
  exact this
/-! ### Same: rows are themselves -/
theorem same_l0 (l : List Us) (hl : l.length ≤ 1048576) (hr : ∀ u ∈ l, u.f1.length ≤ 1048576) : ∀ d i, l.length = i + d → Ev (fun k => codicilref19_Same.l0 k l l (i : Int)) true
  | 0, i, hd => by
    refine Ev.step (f := fun _ => some true) (fun k => ?_) (Ev.now _)
    simp only [codicilref19_Same.l0]
    rw [if_neg (by omega)]
  | d + 1, i, hd => by
    have hi : i < l.length := by omega
    refine Ev.step (fun k => ?_) (Ev.bind (nodes_ev l[i].f1 (hr _ (List.getElem_mem hi))) (f := fun k t => if t = true then codicilref19_Same.l0 k l l ((i + 1 : Nat) : Int) else some false) (Ev.congr (fun k => by rw [if_pos rfl]) (same_l0 l hl hr d (i + 1) (by omega))))
    simp only [codicilref19_Same.l0]
    rw [if_pos (by omega), if_pos (by omega), if_pos (by omega), if_neg (by simp), rdU l i hi, wrapS i (by omega)]
theorem same_ev (l : List Us) (hl : l.length ≤ 1048576) (hr : ∀ u ∈ l, u.f1.length ≤ 1048576) : Ev (fun k => codicilref19_Same.f k l l) true := by
  refine Ev.congr (fun k => ?_) (same_l0 l hl hr l.length 0 (by omega))
  unfold codicilref19_Same.f
  rw [if_pos rfl]
  rfl
/-! ### where a row stands -/
theorem split_at {l : List Us} (hs : SortedU l) (x : Nd) : ∀ m, m ≤ l.length → ∃ i, i ≤ m ∧ (∀ t, t < i → lessN (usAt l t).f0 x = true) ∧ (∀ t, i ≤ t → t < m → lessN (usAt l t).f0 x = false)
  | 0, _ => ⟨0, Nat.le_refl _, fun t h => absurd h (Nat.not_lt_zero _), fun t _ h => absurd h (Nat.not_lt_zero _)⟩
  | m + 1, hm => by
    obtain ⟨i, hi, h1, h2⟩ := split_at hs x m (by omega)
    cases h : lessN (usAt l m).f0 x with
    | true => exact ⟨m + 1, Nat.le_refl _, fun t ht => hs.mono (by omega) (by omega) h, fun t h3 h4 => by omega⟩
    | false =>
      refine ⟨i, by omega, h1, fun t h3 h4 => ?_⟩
      by_cases e : t = m
      · rw [e]; exact h
      · exact h2 t h3 (by omega)
theorem place_spec {l : List Us} (hs : SortedU l) (x : Nd) : (∀ t, t < placeN l x → lessN (usAt l t).f0 x = true) ∧ (∀ t, placeN l x ≤ t → t < l.length → lessN (usAt l t).f0 x = false) := by
  obtain ⟨i, hi, h1, h2⟩ := split_at hs x l.length (Nat.le_refl _)
  have : placeN l x = i := countP_split _ l i hi h1 h2
  rw [this]
  exact ⟨h1, h2⟩
theorem placeN_le (l : List Us) (x : Nd) : placeN l x ≤ l.length := List.countP_le_length
theorem less_tri {a b : Nd} (h : lessN a b = false) (hne : a ≠ b) : lessN b a = true := by
  cases h2 : lessN b a with
  | true => rfl
  | false =>
    exfalso
    apply hne
    have h3 := mt (lessN_iff a b).2 (by rw [h]; decide)
    have h4 := mt (lessN_iff b a).2 (by rw [h2]; decide)
    have e : a.f0 = b.f0 := ba_ext (bl_tri _ _ (Bool.eq_false_iff.2 (fun h5 => h3 (.inl h5))) (Bool.eq_false_iff.2 (fun h5 => h4 (.inl h5))))
    have e2 : a.f1 = b.f1 := by
      have h5 : ¬ a.f1 < b.f1 := fun h6 => h3 (.inr ⟨e, h6⟩)
      have h6 : ¬ b.f1 < a.f1 := fun h7 => h4 (.inr ⟨e.symm, h7⟩)
      omega
    obtain ⟨a0, a1⟩ := a
    obtain ⟨b0, b1⟩ := b
    simp only at e e2
    rw [e, e2]
theorem less_asymm {a b : Nd} (h : lessN a b = true) : lessN b a = false := by
  cases h2 : lessN b a with
  | false => rfl
  | true => have := lessN_trans h h2; rw [lessN_irrefl] at this; cases this
/-! ### Add -/
section
variable (l : List Us) (u : Us) (hl : l.length ≤ 1048576)
include hl
theorem add_T : ∀ d i acc, l.length = i + d → acc.length ≤ i + 1 → Ev (fun k => codicilref19_Add.l1 k l acc true (i : Int) u.f0.f0 u.f0.f1 u.f1) (acc ++ l.drop i, 0)
  | 0, i, acc, hd, ha => by
    rw [List.drop_of_length_le (by omega), List.append_nil]
    refine Ev.step (f := fun _ => some (acc, 0)) (fun k => ?_) (Ev.now _)
    simp only [codicilref19_Add.l1]
    rw [if_neg (by omega), if_pos trivial]
  | d + 1, i, acc, hd, ha => by
    have hi : i < l.length := by omega
    rw [List.drop_eq_getElem_cons hi]
    have h := add_T d (i + 1) (acc ++ [l[i]]) (by omega) (by rw [List.length_append, List.length_singleton]; omega)
    rw [List.append_assoc, List.singleton_append] at h
    refine Ev.step (fun k => ?_) h
    simp only [codicilref19_Add.l1]
    rw [if_pos (by omega), if_pos trivial, if_pos (by omega), if_pos (by omega), rdU l i hi, wrapS i (by omega)]
theorem add_F (hs : SortedU l) (hn : inN l u.f0 = false) : ∀ d i, l.length = i + d → i ≤ placeN l u.f0 → Ev (fun k => codicilref19_Add.l1 k l (l.take i) false (i : Int) u.f0.f0 u.f0.f1 u.f1) (addAt l (placeN l u.f0) u, 0)
  | 0, i, hd, hp => by
    have hpl := placeN_le l u.f0
    have e : placeN l u.f0 = i := by omega
    rw [e]
    refine Ev.step (f := fun _ => some (l.take i ++ [u], 0)) (fun k => ?_) (by
      unfold addAt
      rw [List.drop_of_length_le (by omega)]
      exact Ev.now _)
    simp only [codicilref19_Add.l1]
    rw [if_neg (by omega), if_neg (by decide), if_pos (by rw [List.length_take]; omega)]
  | d + 1, i, hd, hp => by
    have hi : i < l.length := by omega
    have hsp := place_spec hs u.f0
    by_cases hlt : i < placeN l u.f0
    · have h1 := hsp.1 i hlt
      rw [usAt_get l i hi] at h1
      have h2 := add_F hs hn d (i + 1) (by omega) (by omega)
      refine Ev.step (fun k => ?_) h2
      simp only [codicilref19_Add.l1]
      rw [if_pos (by omega), if_neg (by decide), if_pos (by omega), rdU l i hi, refLess, less_asymm h1, Option.bind_some, if_neg (by decide), if_pos (by rw [List.length_take]; omega), wrapS i (by omega), List.take_succ_eq_append_getElem hi]
    · have e : placeN l u.f0 = i := by omega
      have h1 := hsp.2 i (by omega) hi
      rw [usAt_get l i hi] at h1
      have hne : l[i].f0 ≠ u.f0 := fun h => by
        unfold inN at hn
        rw [decide_eq_false_iff_not] at hn
        exact hn (h ▸ List.mem_map_of_mem (List.getElem_mem hi))
      have h2 := add_T l u hl d (i + 1) (l.take i ++ [u] ++ [l[i]]) (by omega) (by simp; omega)
      have e2 : l.take i ++ [u] ++ [l[i]] ++ l.drop (i + 1) = addAt l (placeN l u.f0) u := by
        unfold addAt
        rw [e, List.drop_eq_getElem_cons hi]
        simp
      rw [e2] at h2
      refine Ev.step (fun k => ?_) h2
      simp only [codicilref19_Add.l1]
      rw [if_pos (by omega), if_neg (by decide), if_pos (by omega), rdU l i hi, refLess, less_tri h1 hne, Option.bind_some, if_pos rfl, if_pos (by rw [List.length_take]; omega), Option.bind_some, if_pos (by simp; omega), wrapS i (by omega)]
theorem add_l0 (hs : SortedU l) (hn : inN l u.f0 = false) (hr : u.f1.length ≤ 1048576) : ∀ d j, u.f1.length = j + d →
    Ev (fun k => codicilref19_Add.l0 k l (j : Int) u.f0.f0 u.f0.f1 u.f1) (if anyP (fun x => !inN l x) (u.f1.drop j) = true then ([], 5) else if 1024 ≤ l.length then ([], 6) else (addAt l (placeN l u.f0) u, 0))
  | 0, j, hd => by
    rw [List.drop_of_length_le (by omega), if_neg (by unfold anyP; simp)]
    by_cases h : 1024 ≤ l.length
    · rw [if_pos h]
      refine Ev.step (f := fun _ => some ([], 6)) (fun k => ?_) (Ev.now _)
      simp only [codicilref19_Add.l0]
      rw [if_neg (by omega), if_pos (by omega)]
    · rw [if_neg h]
      have h2 := add_F l u hl hs hn l.length 0 (by omega) (Nat.zero_le _)
      rw [List.take_zero] at h2
      refine Ev.step (fun k => ?_) h2
      simp only [codicilref19_Add.l0]
      rw [if_neg (by omega), if_neg (by omega)]
      rfl
  | d + 1, j, hd => by
    have hj : j < u.f1.length := by omega
    have hc : anyP (fun x => !inN l x) (u.f1.drop j) = (!inN l u.f1[j] || anyP (fun x => !inN l x) (u.f1.drop (j + 1))) := by
      unfold anyP
      rw [List.drop_eq_getElem_cons hj, List.any_cons]
    rw [hc]
    cases hin : inN l u.f1[j] with
    | false =>
      have hev : Ev (fun k => codicilref19_at.f k l u.f1[j].f0 u.f1[j].f1) (-1) := Ev.of (fun k => codicilref19_at.mono _ _ _ k) (at_out hl hin (l.length + 1) (by omega))
      rw [Bool.not_false, Bool.true_or, if_pos rfl]
      refine Ev.step (fun k => ?_) (Ev.bind hev (f := fun k t => if t < 0 then (some (([] : List Us), (5 : Int))) else codicilref19_Add.l0 k l ((j + 1 : Nat) : Int) u.f0.f0 u.f0.f1 u.f1) (Ev.congr (f := fun _ => some ([], 5)) (fun k => by rw [if_pos (by decide)]) (Ev.now _)))
      simp only [codicilref19_Add.l0]
      rw [if_pos (by omega), if_pos (by omega), rdN _ j hj, wrapS j (by omega)]
    | true =>
      obtain ⟨ja, hja, hjl, hjx⟩ := at_in hl hin (l.length + 1) (by omega)
      have hev : Ev (fun k => codicilref19_at.f k l u.f1[j].f0 u.f1[j].f1) (ja : Int) := Ev.of (fun k => codicilref19_at.mono _ _ _ k) hja
      rw [Bool.not_true, Bool.false_or]
      refine Ev.step (fun k => ?_) (Ev.bind hev (f := fun k t => if t < 0 then (some (([] : List Us), (5 : Int))) else codicilref19_Add.l0 k l ((j + 1 : Nat) : Int) u.f0.f0 u.f0.f1 u.f1) (Ev.congr (fun k => by rw [if_neg (by omega)]) (add_l0 hs hn hr d (j + 1) (by omega))))
      simp only [codicilref19_Add.l0]
      rw [if_pos (by omega), if_pos (by omega), rdN _ j hj, wrapS j (by omega)]
theorem radd_ev (hr : u.f1.length ≤ 1048576) : Ev (fun k => codicilref19_Add.f k l u.f0.f0 u.f0.f1 u.f1) (addU l u) := by
  unfold addU
  by_cases hm : mayN l = 0
  · rw [if_neg (by simp [hm])]
    have hmev := may_ev l
    rw [hm] at hmev
    have hs := sorted_may hm
    refine Ev.bind (f := fun k t287 => (if t287 = 0 then ((codicilref19_at.f k l u.f0.f0 u.f0.f1).bind fun t288 => (if t288 ≥ 0 then (some (([] : List Us), (7 : Int))) else (if (u.f1.length : Int) > 16 then (codicilref19_Add.j0 k l true u.f0.f0 u.f0.f1 u.f1) else ((codicilref19_twice.f k u.f1).bind fun t289 => (codicilref19_Add.j0 k l t289 u.f0.f0 u.f0.f1 u.f1))))) else (some (([] : List Us), (8 : Int))))) hmev (Ev.congr (fun k => by rw [if_pos rfl]) ?_)
    cases hin : inN l u.f0 with
    | true =>
      rw [if_pos rfl]
      obtain ⟨ja, hja, hjl, hjx⟩ := at_in hl hin (l.length + 1) (by omega)
      have hev : Ev (fun k => codicilref19_at.f k l u.f0.f0 u.f0.f1) (ja : Int) := Ev.of (fun k => codicilref19_at.mono _ _ _ k) hja
      exact Ev.bind (f := fun k t288 => (if t288 ≥ 0 then (some (([] : List Us), (7 : Int))) else (if (u.f1.length : Int) > 16 then (codicilref19_Add.j0 k l true u.f0.f0 u.f0.f1 u.f1) else ((codicilref19_twice.f k u.f1).bind fun t289 => (codicilref19_Add.j0 k l t289 u.f0.f0 u.f0.f1 u.f1))))) hev (Ev.congr (f := fun _ => some ([], 7)) (fun k => by rw [if_pos (by omega)]) (Ev.now _))
    | false =>
      rw [if_neg (by decide)]
      have hev : Ev (fun k => codicilref19_at.f k l u.f0.f0 u.f0.f1) (-1) := Ev.of (fun k => codicilref19_at.mono _ _ _ k) (at_out hl hin (l.length + 1) (by omega))
      refine Ev.bind (f := fun k t288 => (if t288 ≥ 0 then (some (([] : List Us), (7 : Int))) else (if (u.f1.length : Int) > 16 then (codicilref19_Add.j0 k l true u.f0.f0 u.f0.f1 u.f1) else ((codicilref19_twice.f k u.f1).bind fun t289 => (codicilref19_Add.j0 k l t289 u.f0.f0 u.f0.f1 u.f1))))) hev (Ev.congr (f := fun k => (if (u.f1.length : Int) > 16 then (codicilref19_Add.j0 k l true u.f0.f0 u.f0.f1 u.f1) else ((codicilref19_twice.f k u.f1).bind fun t289 => (codicilref19_Add.j0 k l t289 u.f0.f0 u.f0.f1 u.f1)))) (fun k => by rw [if_neg (by decide)]) ?_)
      have hj1 : Ev (fun k => codicilref19_Add.j0 k l true u.f0.f0 u.f0.f1 u.f1) ([], 2) := by
        refine Ev.step (f := fun _ => some ([], 2)) (fun k => ?_) (Ev.now _)
        simp only [codicilref19_Add.j0]
        rw [if_pos trivial]
      by_cases h16 : 16 < u.f1.length
      · rw [formed_16 h16, if_pos rfl]
        exact Ev.congr (fun k => by rw [if_pos (by omega)]) hj1
      · rw [formed_nd (by omega)]
        refine Ev.congr (f := fun k => (codicilref19_twice.f k u.f1).bind fun t289 => (codicilref19_Add.j0 k l t289 u.f0.f0 u.f0.f1 u.f1)) (fun k => by rw [if_neg (by omega)]) ?_
        refine Ev.bind (f := fun k t289 => codicilref19_Add.j0 k l t289 u.f0.f0 u.f0.f1 u.f1) (twice_ev u.f1 hr) ?_
        cases hd : decide u.f1.Nodup with
        | false => rw [if_pos rfl]; exact hj1
        | true =>
          rw [if_neg (by decide)]
          have h3 := add_l0 l u hl hs hin hr u.f1.length 0 (by omega)
          rw [List.drop_zero] at h3
          refine Ev.step (fun k => ?_) h3
          simp only [Bool.not_true, codicilref19_Add.j0]
          rw [if_neg (by decide)]
          rfl
  · rw [if_pos hm]
    exact Ev.bind (f := fun k t287 => (if t287 = 0 then ((codicilref19_at.f k l u.f0.f0 u.f0.f1).bind fun t288 => (if t288 ≥ 0 then (some (([] : List Us), (7 : Int))) else (if (u.f1.length : Int) > 16 then (codicilref19_Add.j0 k l true u.f0.f0 u.f0.f1 u.f1) else ((codicilref19_twice.f k u.f1).bind fun t289 => (codicilref19_Add.j0 k l t289 u.f0.f0 u.f0.f1 u.f1))))) else (some (([] : List Us), (8 : Int))))) (may_ev l) (Ev.congr (f := fun _ => some ([], 8)) (fun k => by rw [if_neg hm]) (Ev.now _))
end
end Go.Proofs.Ytddjhmelniphgaa.Print
