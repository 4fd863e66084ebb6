/- Plain law: GraphTells is true. -/
import Derived.Test.YtddjhmelniphgaaQBase19
import Derived.Test.YtddjhmelniphgaaPrint9
namespace Go.Proofs.Ytddjhmelniphgaa.Print
open Go Go.RowKit Go.Proofs.YtddjhmelniphgaaW.PrintWords Go.Proofs.YtddjhmelniphgaaW.PrintLast
set_option linter.unusedVariables false
set_option linter.unusedSimpArgs false
theorem alive_ev' : Ev (fun k => (codicillaw19_alive.f k).bind fun t => some t) true := Ev.bind (f := fun _ t => some t) alive19_ev (Ev.now _)
theorem order_len {l : List Us} (hl : l.length ≤ 60) (ids : List Nd) : (orderU l ids).1.length ≤ 1048576 := by
  unfold orderU
  split
  · simp
  · rename_i h
    split
    · simp
    · rename_i h2
      have hm : mayN l = 0 := by simpa using h
      have h3 := visN_len (closed_may hm) (l.length + 1) ids ([], []) l.length (fun x hx => by
        rw [Bool.not_eq_true] at h2
        unfold anyP at h2
        rw [List.any_eq_false] at h2
        simpa using h2 x hx) (by have := List.countP_le_length (p := fun u : Us => decide (u.f0 ∉ ([] : List Nd))) (l := l); show 0 + unmet l [] ≤ l.length; unfold unmet; omega)
      show (visN l (l.length + 1) ids ([], [])).2.length ≤ 1048576
      omega
theorem tells_l0 (l : List Us) (n : Nd) (ids : List Nd) (hf : fitUB l = true) (hl : l.length ≤ 60) (hr : ids.length ≤ 40) : ∀ d i, ids.length = i + d →
    Ev (fun k => codicillaw19_GraphTells.l0 k l ids (orderU l ids).1 (orderU l ids).2 (orderU l ids).1 (orderU l ids).2 true (i : Int) n.f0 n.f1) true
  | 0, i, hd => by
    have hF := fitUB_iff.1 hf
    have e3 : Ev (fun k => ((codicilref19_Nodes.f k (orderU l ids).1 (orderU l ids).1).bind fun t273 => (if t273 = true then ((codicillaw19_alive.f k).bind fun t274 => (some t274)) else (some false)))) true := Ev.bind (f := fun k t273 => (if t273 = true then ((codicillaw19_alive.f k).bind fun t274 => (some t274)) else (some false))) (nodes_ev (orderU l ids).1 (order_len hl ids)) (Ev.congr (fun k => by rw [if_pos rfl]) alive_ev')
    have e2 : Ev (fun k => (codicilref19_Nodes.f k (usersN l n) (usersN l n)).bind fun t272 => (if t272 = true then ((codicilref19_Nodes.f k (orderU l ids).1 (orderU l ids).1).bind fun t273 => (if t273 = true then ((codicillaw19_alive.f k).bind fun t274 => (some t274)) else (some false))) else (some false))) true := Ev.bind (f := fun k t272 => (if t272 = true then ((codicilref19_Nodes.f k (orderU l ids).1 (orderU l ids).1).bind fun t273 => (if t273 = true then ((codicillaw19_alive.f k).bind fun t274 => (some t274)) else (some false))) else (some false))) (nodes_ev (usersN l n) (by have := usersN_len l n; omega)) (Ev.congr (fun k => by rw [if_pos rfl]) e3)
    have e1 : Ev (fun k => (graph_Users.f k l n.f0 n.f1).bind fun t266 => ((codicilref19_Users.f k l n.f0 n.f1).bind fun t269 => ((codicilref19_Nodes.f k t266 t269).bind fun t272 => (if t272 = true then ((codicilref19_Nodes.f k (orderU l ids).1 (orderU l ids).1).bind fun t273 => (if t273 = true then ((codicillaw19_alive.f k).bind fun t274 => (some t274)) else (some false))) else (some false))))) true := Ev.bind (f := fun k t266 => ((codicilref19_Users.f k l n.f0 n.f1).bind fun t269 => ((codicilref19_Nodes.f k t266 t269).bind fun t272 => (if t272 = true then ((codicilref19_Nodes.f k (orderU l ids).1 (orderU l ids).1).bind fun t273 => (if t273 = true then ((codicillaw19_alive.f k).bind fun t274 => (some t274)) else (some false))) else (some false))))) (users_ev l hF.len hF.refs n) (Ev.bind (f := fun k t269 => ((codicilref19_Nodes.f k (usersN l n) t269).bind fun t272 => (if t272 = true then ((codicilref19_Nodes.f k (orderU l ids).1 (orderU l ids).1).bind fun t273 => (if t273 = true then ((codicillaw19_alive.f k).bind fun t274 => (some t274)) else (some false))) else (some false)))) (rusers_ev l hF.len hF.refs n) e2)
    have e0 : Ev (fun k => (codicilref19_May.f k l).bind fun t265 => if mayN l = t265 then ((graph_Users.f k l n.f0 n.f1).bind fun t266 => ((codicilref19_Users.f k l n.f0 n.f1).bind fun t269 => ((codicilref19_Nodes.f k t266 t269).bind fun t272 => (if t272 = true then ((codicilref19_Nodes.f k (orderU l ids).1 (orderU l ids).1).bind fun t273 => (if t273 = true then ((codicillaw19_alive.f k).bind fun t274 => (some t274)) else (some false))) else (some false))))) else (some false)) true := Ev.bind (f := fun k t265 => if mayN l = t265 then ((graph_Users.f k l n.f0 n.f1).bind fun t266 => ((codicilref19_Users.f k l n.f0 n.f1).bind fun t269 => ((codicilref19_Nodes.f k t266 t269).bind fun t272 => (if t272 = true then ((codicilref19_Nodes.f k (orderU l ids).1 (orderU l ids).1).bind fun t273 => (if t273 = true then ((codicillaw19_alive.f k).bind fun t274 => (some t274)) else (some false))) else (some false))))) else (some false)) (may_ev l) (Ev.congr (fun k => by rw [if_pos rfl]) e1)
    have hmf : graph_May.f l = some (mayN l) := by unfold graph_May.f; rw [if_pos hf]
    refine Ev.step (fun k => ?_) e0
    simp only [codicillaw19_GraphTells.l0]
    rw [if_neg (by omega), hmf, Option.bind_some]
    simp only [if_pos trivial, if_true]
  | d + 1, i, hd => by
    have hi : i < ids.length := by omega
    refine Ev.step (fun k => ?_) (Ev.bind (less_ev n ids[i]) (f := fun k t => (codicilref19_Less.f n.f0 n.f1 ids[i].f0 ids[i].f1).bind fun t263 => (codicillaw19_GraphTells.l0 k l ids (orderU l ids).1 (orderU l ids).2 (orderU l ids).1 (orderU l ids).2 (t == t263) ((i + 1 : Nat) : Int) n.f0 n.f1)) (Ev.congr (fun k => by rw [refLess, Option.bind_some, beq_self_eq_true]) (tells_l0 l n ids hf hl hr d (i + 1) (by omega))))
    simp only [codicillaw19_GraphTells.l0]
    rw [if_pos (by omega), if_pos trivial, if_pos (by omega), rdN ids i hi, wrapS i (by omega)]
theorem tells_pure (l : List Us) (hl : l.length * Try.prog.bytesOf 40 ≤ 140737488351232 ∧ l.length ≤ 9223372036854775807 ∧ ∀ x_ ∈ l, G40 x_) (n : Nd) (hn : G24 n) (ids : List Nd) (hi : ids.length * Try.prog.bytesOf 24 ≤ 140737488351232 ∧ ids.length ≤ 9223372036854775807 ∧ ∀ x_ ∈ ids, G24 x_) :
    ∃ k, codicillaw19_GraphTells.f k l n.f0 n.f1 ids = some true := by
  refine Ev.rounds (g := fun k => codicillaw19_GraphTells.f k l n.f0 n.f1 ids) ?_
  obtain ⟨b, hb, hf⟩ := heavy_ev l
  have hj : ∀ c : Bool, (c = false → b = false ∧ ids.length ≤ 40) → Ev (fun k => codicillaw19_GraphTells.j0 k l ids c n.f0 n.f1) true := fun c hc => by
    cases c with
    | true =>
      refine Ev.step (fun k => ?_) alive_ev'
      simp only [codicillaw19_GraphTells.j0]
      rw [if_pos trivial]
    | false =>
      obtain ⟨h1, h2⟩ := hc rfl
      obtain ⟨h3, h4⟩ := hf h1
      have hfit : fitUB l = true := fit_of (by omega) (fun u hu => ⟨by have := (h4 u hu).1; omega, hl.2.2 u hu⟩)
      have ho := order_both (ids := ids) hfit (by omega) (okAll hi.2.2)
      refine Ev.step (fun k => ?_) (tells_l0 l n ids hfit h3 h2 ids.length 0 (by omega))
      simp only [codicillaw19_GraphTells.j0]
      rw [if_neg (by decide), ho.1, ho.2, Option.bind_some, Option.bind_some]
      rfl
  unfold codicillaw19_GraphTells.f
  refine Ev.bind hb ?_
  cases b with
  | true => exact Ev.congr (fun k => by rw [if_pos rfl]) (hj true (fun h => by cases h))
  | false => exact Ev.congr (fun k => by rw [if_neg (by decide)]) (hj _ (fun h => ⟨rfl, by rw [decide_eq_false_iff_not] at h; omega⟩))
end Go.Proofs.Ytddjhmelniphgaa.Print
