/- Plain law: small functions of the laws of layer 19. -/
import Derived.Test.YtddjhmelniphgaaQMay19b
import Derived.Test.YtddjhmelniphgaaHGAdd
import Derived.Test.YtddjhmelniphgaaHGDrop
import Derived.Test.YtddjhmelniphgaaHAlive19
import Derived.Test.YtddjhmelniphgaaOpnT
import Derived.Test.YtddjhmelniphgaaPrint2
import Derived.Test.YtddjhmelniphgaaPrint8
namespace Go.Proofs.Ytddjhmelniphgaa.Print
open Go Go.RowKit Go.Proofs.YtddjhmelniphgaaW.PrintWords Go.Proofs.YtddjhmelniphgaaW.PrintLast
set_option linter.unusedVariables false
set_option linter.unusedSimpArgs false
theorem okN_of {x : Nd} (h : G24 x) : okN x := ⟨by have := h.1; unfold maxLen; omega, h.2⟩
theorem okNB_of {x : Nd} (h : G24 x) : okNB x = true := okNB_iff.2 (okN_of h)
theorem okAll {l : List Nd} (h : ∀ x ∈ l, G24 x) : l.all okNB = true := List.all_eq_true.2 fun x hx => okNB_of (h x hx)
theorem fit_of {l : List Us} (hl : l.length ≤ 1048576) (h : ∀ u ∈ l, u.f1.length ≤ 1048576 ∧ G40 u) : fitUB l = true := fitUB_iff.2 ⟨hl, fun u hu => okN_of (h u hu).2.1, fun u hu => (h u hu).1, fun u hu x hx => okN_of ((h u hu).2.2.2.2 x hx)⟩
/-! ### Less -/
theorem or2 (x y : Int) : cmp_Or_int.f 3 [x, y] = some (orI x y) := by
  unfold cmp_Or_int.f
  simp only [cmp_Or_int.l0, List.length_cons, List.length_nil]
  have w1 : wrap64 ((0 : Int) + 1) = 1 := by unfold wrap64; omega
  have w2 : wrap64 ((1 : Int) + 1) = 2 := by unfold wrap64; omega
  have r0 : rd [x, y] 0 = x := rfl
  have r1 : rd [x, y] 1 = y := rfl
  simp only [w1, w2, r0, r1]
  unfold orI
  by_cases hx : x = 0
  · subst hx
    by_cases hy : y = 0
    · subst hy; simp
    · simp [hy]
  · simp [hx]
theorem cmpi_eq (x y : Int) : cmp_Compare_int.f x y = some (cmpI x y) := by
  unfold cmp_Compare_int.f cmp_isNaN_int.f cmpI
  simp only [bne_self_eq_false, Option.bind_some]
  rw [if_neg (by decide), if_neg (by decide)]
  split
  · rfl
  · split
    · rfl
    · rfl
theorem less_ev (a b : Nd) : Ev (fun k => graph_Less.f k a.f0 a.f1 b.f0 b.f1) (lessN a b) := by
  refine Ev.of (fun k => graph_Less.mono _ _ _ _ k) (k := 3) ?_
  unfold graph_Less.f graph_order.f cmp_Compare_string.f
  rw [Option.bind_some, cmpi_eq, Option.bind_some, or2]
  rfl
/-! ### Heavy -/
theorem heavy_l0 (l : List Us) (hl : l.length ≤ 60) : ∀ d i, l.length = i + d → ∃ b, Ev (fun k => codicillaw19_Heavy.l0 k l (i : Int)) b ∧ (b = false → ∀ u ∈ l.drop i, u.f1.length ≤ 40 ∧ u.f0.f0.size ≤ 1024)
  | 0, i, hd => by
    refine ⟨false, Ev.step (f := fun _ => some false) (fun k => ?_) (Ev.now _), fun _ u hu => ?_⟩
    · simp only [codicillaw19_Heavy.l0]
      rw [if_neg (by omega)]
    · rw [List.drop_of_length_le (by omega)] at hu; cases hu
  | d + 1, i, hd => by
    have hi : i < l.length := by omega
    by_cases h1 : 40 < l[i].f1.length
    · refine ⟨true, Ev.step (f := fun _ => some true) (fun k => ?_) (Ev.now _), fun h => by cases h⟩
      simp only [codicillaw19_Heavy.l0]
      rw [if_pos (by omega), if_pos (by omega), rdU l i hi, if_pos (by omega)]
    · by_cases h2 : 1024 < l[i].f0.f0.size
      · refine ⟨true, Ev.step (f := fun _ => some true) (fun k => ?_) (Ev.now _), fun h => by cases h⟩
        simp only [codicillaw19_Heavy.l0]
        rw [if_pos (by omega), if_pos (by omega), rdU l i hi, if_neg (by omega), if_pos (by omega)]
      · obtain ⟨b, hb, hf⟩ := heavy_l0 l hl d (i + 1) (by omega)
        refine ⟨b, Ev.step (fun k => ?_) hb, fun h u hu => ?_⟩
        · simp only [codicillaw19_Heavy.l0]
          rw [if_pos (by omega), if_pos (by omega), rdU l i hi, if_neg (by omega), if_neg (by omega), wrapS i (by omega)]
        · rw [List.drop_eq_getElem_cons hi] at hu
          rcases List.mem_cons.1 hu with rfl | hu
          · exact ⟨by omega, by omega⟩
          · exact hf h u hu
theorem heavy_ev (l : List Us) : ∃ b, Ev (fun k => codicillaw19_Heavy.f k l) b ∧ (b = false → l.length ≤ 60 ∧ ∀ u ∈ l, u.f1.length ≤ 40 ∧ u.f0.f0.size ≤ 1024) := by
  by_cases h : 60 < l.length
  · refine ⟨true, Ev.congr (f := fun _ => some true) (fun k => ?_) (Ev.now _), fun h => by cases h⟩
    unfold codicillaw19_Heavy.f
    rw [if_pos (by omega)]
  · obtain ⟨b, hb, hf⟩ := heavy_l0 l (by omega) l.length 0 (by omega)
    refine ⟨b, Ev.congr (fun k => ?_) hb, fun h2 => ⟨by omega, by simpa using hf h2⟩⟩
    unfold codicillaw19_Heavy.f
    rw [if_neg (by omega)]
    rfl
/-! ### Nodes: a list is itself -/
theorem nodes_l0 (l : List Nd) (hl : l.length ≤ 1048576) : ∀ d i, l.length = i + d → Ev (fun k => codicilref19_Nodes.l0 k l l (i : Int)) true
  | 0, i, hd => by
    refine Ev.step (f := fun _ => some true) (fun k => ?_) (Ev.now _)
    simp only [codicilref19_Nodes.l0]
    rw [if_neg (by omega)]
  | d + 1, i, hd => by
    refine Ev.step (fun k => ?_) (nodes_l0 l hl d (i + 1) (by omega))
    simp only [codicilref19_Nodes.l0]
    rw [if_pos (by omega), if_pos (by omega), if_pos (by omega), if_neg (by simp), wrapS i (by omega)]
theorem nodes_ev (l : List Nd) (hl : l.length ≤ 1048576) : Ev (fun k => codicilref19_Nodes.f k l l) true := by
  refine Ev.congr (fun k => ?_) (nodes_l0 l hl l.length 0 (by omega))
  unfold codicilref19_Nodes.f
  rw [if_pos rfl]
  rfl
/-! ### Users -/
theorem ru1 (l : List Us) (hl : l.length ≤ 1048576) (x : Nd) (i : Nat) (hi : i < l.length) (hr : l[i].f1.length ≤ 1048576) (acc : List Nd) (ha : acc.length ≤ 1048576) (r : List Nd) : ∀ d j (is : Bool), l[i].f1.length = j + d →
    Ev (fun k => codicilref19_Users.l0 k l (if is || decide (x ∈ l[i].f1.drop j) then acc ++ [l[i].f0] else acc) ((i + 1 : Nat) : Int) x.f0 x.f1) r → Ev (fun k => codicilref19_Users.l1 k l acc (i : Int) is (j : Int) x.f0 x.f1) r
  | 0, j, is, hd, h => by
    rw [List.drop_of_length_le (by omega)] at h
    refine Ev.step (fun k => ?_) h
    simp only [codicilref19_Users.l1]
    rw [if_pos (by omega), if_pos (by omega), rdU l i hi, if_neg (by omega), wrapS i (by omega), if_pos (show acc.length < 5864062014805 by omega)]
    cases is <;> simp
  | d + 1, j, is, hd, h => by
    have hj : j < l[i].f1.length := by omega
    rw [List.drop_eq_getElem_cons hj] at h
    cases is with
    | true =>
      refine Ev.step (fun k => ?_) (ru1 l hl x i hi hr acc ha r d (j + 1) true (by omega) (by simpa using h))
      simp only [codicilref19_Users.l1]
      rw [if_pos (by omega), if_pos (by omega), rdU l i hi, if_pos (by omega), if_pos trivial, wrapS j (by omega)]
    | false =>
      have e : (false || decide (x ∈ l[i].f1[j] :: l[i].f1.drop (j + 1))) = (decide (l[i].f1[j] = x) || decide (x ∈ l[i].f1.drop (j + 1))) := by
        rw [Bool.false_or, Bool.eq_iff_iff, Bool.or_eq_true, decide_eq_true_iff, decide_eq_true_iff, decide_eq_true_iff, List.mem_cons]
        exact ⟨fun h => h.imp Eq.symm id, fun h => h.imp Eq.symm id⟩
      rw [e] at h
      refine Ev.step (fun k => ?_) (ru1 l hl x i hi hr acc ha r d (j + 1) (decide (l[i].f1[j] = x)) (by omega) h)
      simp only [codicilref19_Users.l1]
      rw [if_pos (by omega), if_pos (by omega), rdU l i hi, if_pos (by omega), if_neg (by decide), if_pos (by omega), rdN _ j hj, ndEq l[i].f1[j] x, wrapS j (by omega)]
theorem ru0 (l : List Us) (hl : l.length ≤ 1048576) (hr : ∀ u ∈ l, u.f1.length ≤ 1048576) (x : Nd) : ∀ d i acc, l.length = i + d → acc.length ≤ i → Ev (fun k => codicilref19_Users.l0 k l acc (i : Int) x.f0 x.f1) (acc ++ usersN (l.drop i) x)
  | 0, i, acc, hd, ha => by
    rw [List.drop_of_length_le (by omega)]
    refine Ev.step (f := fun _ => some acc) (fun k => ?_) (by simp only [usersN, List.filter_nil, List.map_nil, List.append_nil]; exact Ev.now _)
    simp only [codicilref19_Users.l0]
    rw [if_neg (by omega)]
  | d + 1, i, acc, hd, ha => by
    have hi : i < l.length := by omega
    refine Ev.step (f := fun k => codicilref19_Users.l1 k l acc (i : Int) false ((0 : Nat) : Int) x.f0 x.f1) (fun k => ?_) (ru1 l hl x i hi (hr _ (List.getElem_mem hi)) acc (by omega) _ l[i].f1.length 0 false (by omega) ?_)
    · simp only [codicilref19_Users.l0]
      rw [if_pos (by omega)]
      rfl
    · rw [List.drop_zero, Bool.false_or, List.drop_eq_getElem_cons hi]
      unfold usersN
      by_cases h : x ∈ l[i].f1
      · rw [if_pos (decide_eq_true h), List.filter_cons_of_pos (by simpa using h)]
        have := ru0 l hl hr x d (i + 1) (acc ++ [l[i].f0]) (by omega) (by rw [List.length_append, List.length_singleton]; omega)
        unfold usersN at this
        simpa using this
      · rw [if_neg (by simpa using h), List.filter_cons_of_neg (by simpa using h)]
        have := ru0 l hl hr x d (i + 1) acc (by omega) (by omega)
        unfold usersN at this
        exact this
theorem rusers_ev (l : List Us) (hl : l.length ≤ 1048576) (hr : ∀ u ∈ l, u.f1.length ≤ 1048576) (x : Nd) : Ev (fun k => codicilref19_Users.f k l x.f0 x.f1) (usersN l x) := by
  have := ru0 l hl hr x l.length 0 [] (by omega) (Nat.le_refl _)
  rw [List.drop_zero, List.nil_append] at this
  exact this
theorem users_ev (l : List Us) (hl : l.length ≤ 1048576) (hr : ∀ u ∈ l, u.f1.length ≤ 1048576) (x : Nd) : Ev (fun k => graph_Users.f k l x.f0 x.f1) (usersN l x) := Ev.of (fun k => graph_Users.mono _ _ _ k) (users_some l x hl hr (l.length + 1048578) (by omega))
theorem usersN_len (l : List Us) (x : Nd) : (usersN l x).length ≤ l.length := by
  unfold usersN
  rw [List.length_map]
  exact List.length_filter_le _ _
end Go.Proofs.Ytddjhmelniphgaa.Print
