/- Plain law: GraphUsers is true. -/
import Derived.Test.YtddjhmelniphgaaQPlaceL
import Derived.Test.YtddjhmelniphgaaQSame19
import Derived.Test.YtddjhmelniphgaaPrint7
namespace Go.Proofs.Ytddjhmelniphgaa.Print
open Go Go.RowKit Go.Proofs.YtddjhmelniphgaaW.PrintWords Go.Proofs.YtddjhmelniphgaaW.PrintLast
set_option linter.unusedVariables false
set_option linter.unusedSimpArgs false
theorem users_row {m : List Us} (hs : SortedU m) (n : Nd) {j : Nat} (hj : j < m.length) : m[j].f0 ∈ usersN m n ↔ n ∈ m[j].f1 := by
  unfold usersN
  rw [List.mem_map]
  constructor
  · rintro ⟨v, hv, he⟩
    have h2 := List.mem_filter.1 hv
    obtain ⟨t, ht, rfl⟩ := List.getElem_of_mem h2.1
    have := sorted_inj hs ht hj he
    subst this
    simpa using h2.2
  · intro h
    exact ⟨m[j], List.mem_filter.2 ⟨List.getElem_mem hj, by simpa using h⟩, rfl⟩
theorem users_l1 {l : List Us} {u : Us} (h : Added l u) (hfm : fitUB (addAt l (placeN l u.f0) u) = true) (i : Nat) (n : Nd) (next : Ev (fun k => codicillaw19_GraphUsers.l0 k l (addAt l (placeN l u.f0) u) ((i + 1 : Nat) : Int) u.f0.f0 u.f0.f1 u.f1) true) (hi : i ≤ 2000) : ∀ d j, (addAt l (placeN l u.f0) u).length = j + d →
    Ev (fun k => codicillaw19_GraphUsers.l1 k l (addAt l (placeN l u.f0) u) (i : Int) (usersN (addAt l (placeN l u.f0) u) n) (j : Int) u.f0.f0 u.f0.f1 u.f1 n.f0 n.f1) true
  | 0, j, hd => by
    refine Ev.step (fun k => ?_) next
    simp only [codicillaw19_GraphUsers.l1]
    rw [if_neg (by omega), wrapS i (by omega)]
  | d + 1, j, hd => by
    have hM := fitUB_iff.1 hfm
    have hj : j < (addAt l (placeN l u.f0) u).length := by omega
    have hs := sorted_may (add_good h)
    have hlm := hM.len
    obtain ⟨K1, h1⟩ := placeL_ev (addAt l (placeN l u.f0) u)[j].f1 (hM.refs _ (List.getElem_mem hj)) n
    obtain ⟨K2, h2⟩ := placeL_ev (usersN (addAt l (placeN l u.f0) u) n) (by have := usersN_len (addAt l (placeN l u.f0) u) n; omega) (addAt l (placeN l u.f0) u)[j].f0
    obtain ⟨K3, h3⟩ := users_l1 h hfm i n next hi d (j + 1) (by omega)
    (try dsimp only at h1)
    (try dsimp only at h2)
    (try dsimp only at h3)
    have hb : (decide (idxN (addAt l (placeN l u.f0) u)[j].f1 n ≥ 0) != decide (idxN (usersN (addAt l (placeN l u.f0) u) n) (addAt l (placeN l u.f0) u)[j].f0 ≥ 0)) = false := by
      have e : decide ((addAt l (placeN l u.f0) u)[j].f0 ∈ usersN (addAt l (placeN l u.f0) u) n) = decide (n ∈ (addAt l (placeN l u.f0) u)[j].f1) := decide_eq_decide.2 (users_row hs n hj)
      rw [idxN_ge, idxN_ge, e]
      simp
    refine ⟨K1 + K2 + K3 + 1, fun k hk => ?_⟩
    obtain ⟨k, rfl⟩ : ∃ q, k = q + 1 := ⟨k - 1, by omega⟩
    show codicillaw19_GraphUsers.l1 (k + 1) l (addAt l (placeN l u.f0) u) (i : Int) (usersN (addAt l (placeN l u.f0) u) n) (j : Int) u.f0.f0 u.f0.f1 u.f1 n.f0 n.f1 = some true
    simp only [codicillaw19_GraphUsers.l1]
    rw [if_pos (by omega), if_pos (by omega), rdU _ j hj, h1 k (by omega), Option.bind_some, h2 k (by omega), Option.bind_some, hb, if_neg (by decide), wrapS j (by omega)]
    exact h3 k (by omega)
section
variable {l : List Us} {u : Us} (h : Added l u) (hfl : fitUB l = true) (hfm : fitUB (addAt l (placeN l u.f0) u) = true) (hr : u.f1.length ≤ 40) (hok : u.f1.all okNB = true) (hok0 : okNB u.f0 = true)
include h hfl hfm hr hok hok0
theorem users_end (i : Nat) (hi : (addAt l (placeN l u.f0) u).length ≤ i) : Ev (fun k => codicillaw19_GraphUsers.l0 k l (addAt l (placeN l u.f0) u) (i : Int) u.f0.f0 u.f0.f1 u.f1) true := by
  have hF := fitUB_iff.1 hfl
  have hl := (good_may h.may).len
  have hlen := addAt_len (l := l) (i := placeN l u.f0) (u := u) (placeN_le l u.f0)
  obtain ⟨ho1, ho2⟩ := order_add h
  have e0 := order_ok h.may h.refs
  obtain ⟨A, hA⟩ : ∃ A, A = (orderU l u.f1).1 := ⟨_, rfl⟩
  have eA : orderU l u.f1 = (A, 0) := by rw [hA, e0]
  have hAl : A.length ≤ l.length := by
    rw [hA, e0]
    have h3 := visN_len (closed_may h.may) (l.length + 1) u.f1 ([], []) l.length h.refs (by have := List.countP_le_length (p := fun u : Us => decide (u.f0 ∉ ([] : List Nd))) (l := l); show 0 + unmet l [] ≤ l.length; unfold unmet; omega)
    show (visN l (l.length + 1) u.f1 ([], [])).2.length ≤ l.length
    omega
  rw [eA] at ho1 ho2
  have g1 : graph_Order.f l u.f1 = some (A, 0) := by rw [← eA]; exact gorder hfl (by omega) hok
  have g2 : graph_Order.f (addAt l (placeN l u.f0) u) u.f1 = some (A, 0) := by rw [← ho1]; exact gorder hfm (by omega) hok
  have g3 : graph_Order.f (addAt l (placeN l u.f0) u) [u.f0] = some (A ++ [u.f0], 0) := by rw [← ho2]; exact gorder hfm (by simp) (by simp [hok0])
  have g4 : graph_Drop.f (addAt l (placeN l u.f0) u) u.f0.f0 u.f0.f1 = some (l, 0) := by
    unfold graph_Drop.f
    rw [if_pos hfm]
    have : dropU (addAt l (placeN l u.f0) u) u.f0 = (l, 0) := by rw [dropU_ok (added_dropped h), place_add h, drop_add (placeN_le l _)]
    exact congrArg some this
  obtain ⟨K1, h1⟩ := nodes_ev A (by omega)
  obtain ⟨K2, h2⟩ := same_ev l hF.len hF.refs
  obtain ⟨K3, h3⟩ := alive19_ev
  (try dsimp only at h1)
  (try dsimp only at h2)
  (try dsimp only at h3)
  have w1 : wrap64 ((A.length : Int) + 1) = ((A.length + 1 : Nat) : Int) := wrapS A.length (by omega)
  have w2 : wrap64 (((A.length + 1 : Nat) : Int) - 1) = (A.length : Int) := by unfold wrap64; omega
  refine ⟨K1 + K2 + K3 + 1, fun k hk => ?_⟩
  obtain ⟨k, rfl⟩ : ∃ q, k = q + 1 := ⟨k - 1, by omega⟩
  show codicillaw19_GraphUsers.l0 (k + 1) l (addAt l (placeN l u.f0) u) (i : Int) u.f0.f0 u.f0.f1 u.f1 = some true
  simp only [codicillaw19_GraphUsers.l0]
  rw [if_neg (by omega), g1, Option.bind_some, g2, Option.bind_some, g3, Option.bind_some, g4, Option.bind_some]
  simp only [if_true]
  rw [h1 k (by omega), Option.bind_some, if_pos rfl, List.length_append, List.length_singleton, w1, w2, if_pos rfl, if_pos (by omega), if_pos (by omega), Int.toNat_natCast, List.take_left, h1 k (by omega), Option.bind_some, if_pos rfl, h2 k (by omega), Option.bind_some, if_pos rfl, h3 k (by omega)]
  rfl
theorem gusers_l0 : ∀ d i, (addAt l (placeN l u.f0) u).length = i + d → Ev (fun k => codicillaw19_GraphUsers.l0 k l (addAt l (placeN l u.f0) u) (i : Int) u.f0.f0 u.f0.f1 u.f1) true
  | 0, i, hd => users_end h hfl hfm hr hok hok0 i (by omega)
  | d + 1, i, hd => by
    have hM := fitUB_iff.1 hfm
    have hi : i < (addAt l (placeN l u.f0) u).length := by omega
    have hlm := (good_may (add_good h)).len
    refine Ev.step (fun k => ?_) (Ev.bind (users_ev (addAt l (placeN l u.f0) u) hM.len hM.refs (addAt l (placeN l u.f0) u)[i].f0) (f := fun k t => codicillaw19_GraphUsers.l1 k l (addAt l (placeN l u.f0) u) (i : Int) t ((0 : Nat) : Int) u.f0.f0 u.f0.f1 u.f1 (addAt l (placeN l u.f0) u)[i].f0.f0 (addAt l (placeN l u.f0) u)[i].f0.f1) (users_l1 h hfm i _ (gusers_l0 d (i + 1) (by omega)) (by omega) (addAt l (placeN l u.f0) u).length 0 (by omega)))
    simp only [codicillaw19_GraphUsers.l0]
    rw [if_pos (by omega), if_pos (by omega), rdU _ i hi]
    rfl
end
theorem users_pure (l : List Us) (hl : l.length * Try.prog.bytesOf 40 ≤ 140737488351232 ∧ l.length ≤ 9223372036854775807 ∧ ∀ x_ ∈ l, G40 x_) (u : Us) (hu : G40 u) : ∃ k, codicillaw19_GraphUsers.f k l u.f0.f0 u.f0.f1 u.f1 = some true := by
  refine Ev.rounds (g := fun k => codicillaw19_GraphUsers.f k l u.f0.f0 u.f0.f1 u.f1) ?_
  obtain ⟨b, hb, hf⟩ := heavy_ev l
  have hal : Ev (fun k => (codicillaw19_alive.f k).bind fun t => some t) true := Ev.bind (f := fun _ t => some t) alive19_ev (Ev.now _)
  have hj : ∀ c : Bool, (c = false → b = false ∧ u.f1.length ≤ 40) → Ev (fun k => codicillaw19_GraphUsers.j0 k l c u.f0.f0 u.f0.f1 u.f1) true := fun c hc => by
    cases c with
    | true =>
      refine Ev.step (fun k => ?_) hal
      simp only [codicillaw19_GraphUsers.j0]
      rw [if_pos trivial]
    | false =>
      obtain ⟨h1, h2⟩ := hc rfl
      obtain ⟨h3, h4⟩ := hf h1
      have hfl : fitUB l = true := fit_of (by omega) (fun v hv => ⟨by have := (h4 v hv).1; omega, hl.2.2 v hv⟩)
      have ha : graph_Add.f l u.f0.f0 u.f0.f1 u.f1 = some (addU l u) := by unfold graph_Add.f; rw [if_pos (by rw [hfl, decide_eq_true (by omega)]; rfl)]
      by_cases h0 : (addU l u).2 = 0
      · obtain ⟨hA, hm⟩ := added_of (show addU l u = ((addU l u).1, 0) by rw [← h0])
        have hfm : fitUB (addAt l (placeN l u.f0) u) = true := fit_of (by rw [addAt_len (placeN_le l _)]; omega) (fun v hv => by
          rcases addAt_mem.1 hv with rfl | hv
          · exact ⟨by omega, hu⟩
          · exact ⟨by have := (h4 v hv).1; omega, hl.2.2 v hv⟩)
        refine Ev.step (fun k => ?_) (gusers_l0 hA hfl hfm h2 (okAll hu.2.2.2) (okNB_of hu.1) (addAt l (placeN l u.f0) u).length 0 (by omega))
        simp only [codicillaw19_GraphUsers.j0]
        rw [if_neg (by decide), ha, Option.bind_some, if_pos h0, hm]
        rfl
      · refine Ev.step (fun k => ?_) hal
        simp only [codicillaw19_GraphUsers.j0]
        rw [if_neg (by decide), ha, Option.bind_some, if_neg h0]
  unfold codicillaw19_GraphUsers.f
  refine Ev.bind hb ?_
  cases b with
  | true => exact Ev.congr (fun k => by rw [if_pos rfl]) (hj true (fun h => by cases h))
  | false => exact Ev.congr (fun k => by rw [if_neg (by decide)]) (hj _ (fun h => ⟨rfl, by rw [decide_eq_false_iff_not] at h; omega⟩))
end Go.Proofs.Ytddjhmelniphgaa.Print
