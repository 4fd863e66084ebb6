/- Plain law: GraphTurns is true. -/
import Derived.Test.YtddjhmelniphgaaQTurns19
namespace Go.Proofs.Ytddjhmelniphgaa.Print
open Go Go.RowKit Go.Proofs.YtddjhmelniphgaaW.PrintWords Go.Proofs.YtddjhmelniphgaaW.PrintLast
set_option linter.unusedVariables false
set_option linter.unusedSimpArgs false
theorem at_place {l : List Us} (hs : SortedU l) {x : Nd} {j : Nat} (hj : j < l.length) (hx : (usAt l j).f0 = x) : j = placeN l x := by
  have hsp := place_spec hs x
  rcases Nat.lt_trichotomy j (placeN l x) with h | h | h
  · have := hsp.1 j h
    rw [hx, lessN_irrefl] at this; cases this
  · exact h
  · have h1 := hsp.2 (placeN l x) (Nat.le_refl _) (by omega)
    have h2 := hs.lt (j - placeN l x - 1) (placeN l x) (by omega)
    rw [show placeN l x + (j - placeN l x - 1) + 1 = j by omega, hx, h1] at h2; cases h2
theorem rdrop_ev (l : List Us) (x : Nd) (hl : l.length ≤ 1048576) (hr : ∀ u ∈ l, u.f1.length ≤ 1048576) : Ev (fun k => codicilref19_Drop.f k l x.f0 x.f1) (dropU l x) := by
  obtain ⟨K1, h1⟩ := may_ev l
  (try dsimp only at h1)
  unfold dropU
  by_cases hm : mayN l = 0
  · rw [if_neg (by simp [hm])]
    rw [hm] at h1
    have hs := sorted_may hm
    cases hin : inN l x with
    | false =>
      have ha := at_out hl hin (l.length + 1) (by omega)
      refine ⟨max K1 (l.length + 1), fun k hk => ?_⟩
      show codicilref19_Drop.f k l x.f0 x.f1 = _
      unfold codicilref19_Drop.f
      rw [h1 k (by omega), Option.bind_some, if_pos rfl, at_rounds (fun k => codicilref19_at.mono _ _ _ k) (show l.length + 1 ≤ k by omega) ha, Option.bind_some, if_pos (by decide), if_pos rfl]
    | true =>
      obtain ⟨ja, hja, hjl, hjx⟩ := at_in hl hin (l.length + 1) (by omega)
      obtain ⟨K2, h2⟩ := rusers_ev l hl hr x
      (try dsimp only at h2)
      have hjp := at_place hs hjl hjx
      rw [if_neg (by decide)]
      refine ⟨max K1 (max K2 (l.length + 1)), fun k hk => ?_⟩
      show codicilref19_Drop.f k l x.f0 x.f1 = _
      unfold codicilref19_Drop.f
      rw [h1 k (by omega), Option.bind_some, if_pos rfl, at_rounds (fun k => codicilref19_at.mono _ _ _ k) (show l.length + 1 ≤ k by omega) hja, Option.bind_some, if_neg (by omega), h2 k (by omega), Option.bind_some]
      by_cases hu : 0 < (usersN l x).length
      · rw [if_pos (by omega), if_pos hu]
      · rw [if_neg (by omega), if_neg hu, if_pos (by omega), if_pos (by omega), Option.bind_some, Int.toNat_natCast, if_pos (by simp only [List.length_nil, List.length_take]; omega), Option.bind_some, wrapS ja (by omega), if_pos (by omega), if_pos (by omega), Option.bind_some, Int.toNat_natCast, if_pos (by simp only [List.nil_append, List.length_take, List.length_drop]; omega), List.nil_append, ← hjp]
        rfl
  · rw [if_pos hm]
    refine ⟨K1, fun k hk => ?_⟩
    show codicilref19_Drop.f k l x.f0 x.f1 = _
    unfold codicilref19_Drop.f
    rw [h1 k hk, Option.bind_some, if_neg hm]
theorem addU_mem {l : List Us} {u v : Us} (h : v ∈ (addU l u).1) : v ∈ l ∨ v = u := by
  unfold addU at h
  repeat' split at h
  all_goals first | cases h | skip
  unfold addAt at h
  rcases List.mem_append.1 h with h | h
  · exact .inl (List.mem_of_mem_take h)
  · rcases List.mem_cons.1 h with h | h
    · exact .inr h
    · exact .inl (List.mem_of_mem_drop h)
theorem addU_len (l : List Us) (u : Us) : (addU l u).1.length ≤ l.length + 1 := by
  unfold addU
  repeat' split
  all_goals first | exact Nat.zero_le _ | skip
  rw [addAt_len (placeN_le l _)]
  exact Nat.le_refl _
theorem dropU_mem {l : List Us} {x : Nd} {v : Us} (h : v ∈ (dropU l x).1) : v ∈ l := by
  unfold dropU at h
  repeat' split at h
  all_goals first | cases h | skip
  unfold dropAt at h
  rcases List.mem_append.1 h with h | h
  · exact List.mem_of_mem_take h
  · exact List.mem_of_mem_drop h
theorem dropU_len (l : List Us) (x : Nd) : (dropU l x).1.length ≤ l.length := by
  unfold dropU
  repeat' split
  all_goals first | exact Nat.zero_le _ | skip
  show (dropAt l (placeN l x)).length ≤ l.length
  unfold dropAt
  rw [List.length_append, List.length_take, List.length_drop]
  omega
theorem turns_j0 (l : List Us) (u : Us) (x : Nd) (hf : fitUB l = true) (hl : l.length ≤ 60) (hr : u.f1.length ≤ 40) : Ev (fun k => codicillaw19_GraphTurns.j0 k l false u.f0.f0 u.f0.f1 u.f1 x.f0 x.f1) true := by
  have hF := fitUB_iff.1 hf
  obtain ⟨K1, h1⟩ := copy_ev l hF.len hF.refs
  obtain ⟨K2, h2⟩ := radd_ev l u hF.len (by omega)
  obtain ⟨K3, h3⟩ := rdrop_ev l x hF.len hF.refs
  obtain ⟨K4, h4⟩ := same_ev (addU l u).1 (by have := addU_len l u; omega) (fun v hv => by
    rcases addU_mem hv with h | rfl
    · exact hF.refs v h
    · omega)
  obtain ⟨K5, h5⟩ := same_ev (dropU l x).1 (by have := dropU_len l x; omega) (fun v hv => hF.refs v (dropU_mem hv))
  obtain ⟨K6, h6⟩ := same_ev l hF.len hF.refs
  obtain ⟨K7, h7⟩ := alive19_ev
  (try dsimp only at h1)
  (try dsimp only at h2)
  (try dsimp only at h3)
  (try dsimp only at h4)
  (try dsimp only at h5)
  (try dsimp only at h6)
  (try dsimp only at h7)
  have ha : graph_Add.f l u.f0.f0 u.f0.f1 u.f1 = some (addU l u) := by unfold graph_Add.f; rw [if_pos (by rw [hf, decide_eq_true (by omega)]; rfl)]
  have hd : graph_Drop.f l x.f0 x.f1 = some (dropU l x) := by unfold graph_Drop.f; rw [if_pos hf]
  refine Ev.step (f := fun k => (codicilref19_Copy.f k l).bind fun t343 => ((graph_Add.f t343 u.f0.f0 u.f0.f1 u.f1).bind fun bt346 => ((codicilref19_Add.f k l u.f0.f0 u.f0.f1 u.f1).bind fun bt350 => ((graph_Drop.f t343 x.f0 x.f1).bind fun bt354 => ((codicilref19_Drop.f k l x.f0 x.f1).bind fun bt358 => ((codicilref19_Same.f k bt346.1 bt350.1).bind fun t362 => (if t362 = true then (if bt346.2 = bt350.2 then ((codicilref19_Same.f k bt354.1 bt358.1).bind fun t363 => (if t363 = true then (if bt354.2 = bt358.2 then ((codicilref19_Same.f k t343 l).bind fun t364 => (if t364 = true then ((codicillaw19_alive.f k).bind fun t365 => (some t365)) else (some false))) else (some false)) else (some false))) else (some false)) else (some false))))))))
    (fun k => ?_) ⟨K1 + K2 + K3 + K4 + K5 + K6 + K7, fun k hk => ?_⟩
  · simp only [codicillaw19_GraphTurns.j0]
    rw [if_neg (by decide)]
  · show ((codicilref19_Copy.f k l).bind fun t343 => _) = some true
    rw [h1 k (by omega), Option.bind_some, ha, Option.bind_some, h2 k (by omega), Option.bind_some, hd, Option.bind_some, h3 k (by omega), Option.bind_some, h4 k (by omega), Option.bind_some, if_pos rfl, if_pos rfl, h5 k (by omega), Option.bind_some, if_pos rfl, if_pos rfl, h6 k (by omega), Option.bind_some, if_pos rfl, h7 k (by omega)]
    rfl
theorem turns_pure (l : List Us) (hl : l.length * Try.prog.bytesOf 40 ≤ 140737488351232 ∧ l.length ≤ 9223372036854775807 ∧ ∀ x_ ∈ l, G40 x_) (u : Us) (hu : G40 u) (n : Nd) (hn : G24 n) :
    ∃ k, codicillaw19_GraphTurns.f k l u.f0.f0 u.f0.f1 u.f1 n.f0 n.f1 = some true := by
  refine Ev.rounds (g := fun k => codicillaw19_GraphTurns.f k l u.f0.f0 u.f0.f1 u.f1 n.f0 n.f1) ?_
  obtain ⟨b, hb, hf⟩ := heavy_ev l
  have hj : ∀ c : Bool, (c = false → b = false ∧ u.f1.length ≤ 40) → Ev (fun k => codicillaw19_GraphTurns.j0 k l c u.f0.f0 u.f0.f1 u.f1 n.f0 n.f1) true := fun c hc => by
    cases c with
    | true =>
      refine Ev.step (f := fun k => (codicillaw19_alive.f k).bind fun t => some t) (fun k => ?_) (Ev.bind (f := fun _ t => some t) alive19_ev (Ev.now _))
      simp only [codicillaw19_GraphTurns.j0]
      rw [if_pos trivial]
    | false =>
      obtain ⟨h1, h2⟩ := hc rfl
      obtain ⟨h3, h4⟩ := hf h1
      exact turns_j0 l u n (fit_of (by omega) (fun v hv => ⟨by have := (h4 v hv).1; omega, hl.2.2 v hv⟩)) h3 h2
  unfold codicillaw19_GraphTurns.f
  refine Ev.bind hb ?_
  cases b with
  | true => exact Ev.congr (fun k => by rw [if_pos rfl]) (hj true (fun h => by cases h))
  | false => exact Ev.congr (fun k => by rw [if_neg (by decide)]) (hj _ (fun h => ⟨rfl, by rw [decide_eq_false_iff_not] at h; omega⟩))
end Go.Proofs.Ytddjhmelniphgaa.Print
