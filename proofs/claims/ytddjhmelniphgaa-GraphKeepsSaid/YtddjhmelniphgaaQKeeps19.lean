/- Plain law: GraphKeeps is true. -/
import Derived.Test.YtddjhmelniphgaaQKeepA
import Derived.Test.YtddjhmelniphgaaQPlaceL
import Derived.Test.YtddjhmelniphgaaQNodes19
import Derived.Test.YtddjhmelniphgaaPrint5
namespace Go.Proofs.Ytddjhmelniphgaa.Print
open Go Go.RowKit Go.Proofs.YtddjhmelniphgaaW.PrintWords Go.Proofs.YtddjhmelniphgaaW.PrintLast
set_option linter.unusedVariables false
set_option linter.unusedSimpArgs false
/-- What holds of the rows between calls. -/
structure KeepsI (m : List Us) : Prop where
  may : mayN m = 0
  refs : ∀ v ∈ m, v.f1.length ≤ 40
  good : ∀ v ∈ m, G40 v
theorem KeepsI.len {m : List Us} (h : KeepsI m) : m.length ≤ 1024 := (good_may h.may).len
theorem KeepsI.fit {m : List Us} (h : KeepsI m) : fitUB m = true := fit_of (by have := h.len; omega) (fun v hv => ⟨by have := h.refs v hv; omega, h.good v hv⟩)
theorem KeepsI.nil : KeepsI [] := ⟨may_of (rk := fun _ => 0) ⟨by simp, fun j hj => absurd hj (by simp), by simp, by simp, by simp⟩, by simp, by simp⟩
section
variable {m : List Us} (hm : KeepsI m) {o : List Nd} (ho : Behind m o) (hall : ∀ u ∈ m, u.f0 ∈ o) (hol : o.length = m.length)
include hm ho hall hol
theorem kp3 (i : Nat) (hi : i < m.length) (next : Ev (fun k => codicillaw19_GraphKeeps.l2 k m o ((i + 1 : Nat) : Int)) true) : ∀ d j, m[i].f1.length = j + d → Ev (fun k => codicillaw19_GraphKeeps.l3 k m o (i : Int) (j : Int)) true
  | 0, j, hd => by
    have hl := hm.len
    refine Ev.step (fun k => ?_) next
    simp only [codicillaw19_GraphKeeps.l3]
    rw [if_pos (by omega), if_pos (by omega), rdU m i hi, if_neg (by omega), wrapS i (by omega)]
  | d + 1, j, hd => by
    have hl := hm.len
    have hr := hm.refs _ (List.getElem_mem hi)
    have hj : j < m[i].f1.length := by omega
    obtain ⟨K1, h1⟩ := placeL_ev o (by omega) m[i].f1[j]
    obtain ⟨K2, h2⟩ := placeL_ev o (by omega) m[i].f0
    obtain ⟨K3, h3⟩ := kp3 i hi next d (j + 1) (by omega)
    (try dsimp only at h1)
    (try dsimp only at h2)
    (try dsimp only at h3)
    have hx := hall _ (List.getElem_mem hi)
    obtain ⟨hy, hlt⟩ := behind_idx ho hx (y := m[i].f1[j]) (by rw [refsOf_row (sorted_may hm.may) (List.getElem_mem hi)]; exact List.getElem_mem hj)
    have e1 : idxN o m[i].f1[j] = ((o.idxOf m[i].f1[j] : Nat) : Int) := by unfold idxN; rw [if_pos hy]
    have e2 : idxN o m[i].f0 = ((o.idxOf m[i].f0 : Nat) : Int) := by unfold idxN; rw [if_pos hx]
    rw [e1] at h1
    rw [e2] at h2
    refine ⟨K1 + K2 + K3 + 1, fun k hk => ?_⟩
    obtain ⟨k, rfl⟩ : ∃ q, k = q + 1 := ⟨k - 1, by omega⟩
    show codicillaw19_GraphKeeps.l3 (k + 1) m o (i : Int) (j : Int) = some true
    simp only [codicillaw19_GraphKeeps.l3]
    rw [if_pos (by omega), if_pos (by omega), rdU m i hi, if_pos (by omega), if_pos (by omega), rdN _ j hj, h1 k (by omega), Option.bind_some, if_neg (by omega), h2 k (by omega), Option.bind_some, if_neg (by omega), wrapS j (by omega)]
    exact h3 k (by omega)
theorem kp2 : ∀ d i, m.length = i + d → Ev (fun k => codicillaw19_GraphKeeps.l2 k m o (i : Int)) true
  | 0, i, hd => by
    refine Ev.step (fun k => ?_) (Ev.bind (f := fun _ t => some t) alive19_ev (Ev.now _))
    simp only [codicillaw19_GraphKeeps.l2]
    rw [if_neg (by omega)]
  | d + 1, i, hd => by
    have hi : i < m.length := by omega
    refine Ev.step (f := fun k => codicillaw19_GraphKeeps.l3 k m o (i : Int) ((0 : Nat) : Int)) (fun k => ?_) (kp3 hm ho hall hol i hi (kp2 d (i + 1) (by omega)) m[i].f1.length 0 (by omega))
    simp only [codicillaw19_GraphKeeps.l2]
    rw [if_pos (by omega)]
    rfl
end
theorem kp1 {m : List Us} (hm : KeepsI m) : ∀ d i, m.length = i + d → Ev (fun k => codicillaw19_GraphKeeps.l1 k m ((m.reverse.map (·.f0)).take i) (i : Int)) true
  | 0, i, hd => by
    have hl := hm.len
    have hids : (m.reverse.map (·.f0)).take i = m.reverse.map (·.f0) := List.take_of_length_le (by rw [List.length_map, List.length_reverse]; omega)
    have hin : ∀ x ∈ m.reverse.map (·.f0), inN m x = true := fun x hx => by
      obtain ⟨u, hu, rfl⟩ := List.mem_map.1 hx
      unfold inN
      rw [decide_eq_true_iff]
      exact List.mem_map_of_mem (List.mem_reverse.1 hu)
    obtain ⟨o, e, ho, hall⟩ := order_behind hm.may hin
    have hall2 : ∀ u ∈ m, u.f0 ∈ o := fun u hu => hall _ (List.mem_map_of_mem (List.mem_reverse.2 hu))
    have hol := behind_len (sorted_may hm.may) ho hall2
    have hg : graph_Order.f m (m.reverse.map (·.f0)) = some (o, 0) := by
      rw [← e]
      refine gorder hm.fit (by rw [List.length_map, List.length_reverse]; omega) (okAll fun x hx => ?_)
      obtain ⟨u, hu, rfl⟩ := List.mem_map.1 hx
      exact (hm.good u (List.mem_reverse.1 hu)).1
    rw [hids]
    have hj : Ev (fun k => codicillaw19_GraphKeeps.j3 k m o false) true := by
      refine Ev.step (f := fun k => codicillaw19_GraphKeeps.l2 k m o ((0 : Nat) : Int)) (fun k => ?_) (kp2 hm ho hall2 hol m.length 0 (by omega))
      simp only [codicillaw19_GraphKeeps.j3]
      rw [if_neg (by decide)]
      rfl
    refine Ev.step (fun k => ?_) hj
    simp only [codicillaw19_GraphKeeps.l1]
    rw [if_neg (by omega), hg, Option.bind_some, if_pos rfl, hol]
    simp
  | d + 1, i, hd => by
    have hl := hm.len
    have hi : i < m.length := by omega
    have hw : wrap64 (wrap64 ((m.length : Int) - 1) - (i : Int)) = ((m.length - 1 - i : Nat) : Int) := by unfold wrap64; omega
    have hr : m.length - 1 - i < m.length := by omega
    have et : (m.reverse.map (·.f0)).take (i + 1) = (m.reverse.map (·.f0)).take i ++ [m[m.length - 1 - i].f0] := by
      rw [List.take_succ_eq_append_getElem (by rw [List.length_map, List.length_reverse]; exact hi), List.getElem_map, List.getElem_reverse]
    refine Ev.step (fun k => ?_) (kp1 hm d (i + 1) (by omega))
    simp only [codicillaw19_GraphKeeps.l1]
    rw [if_pos (by omega), hw, if_pos (by omega), if_pos (by omega), rdU m _ hr, if_pos (by rw [List.length_take]; omega), et, wrapS i (by omega)]
theorem used_drop {m : List Us} (hm : mayN m = 0) {x : Nd} (h : 0 < (usersN m x).length) : (dropU m x).2 = 3 := by
  obtain ⟨y, hy⟩ := List.exists_mem_of_length_pos h
  unfold usersN at hy
  obtain ⟨v, hv, _⟩ := List.mem_map.1 hy
  have h3 := List.mem_filter.1 hv
  have hx : x ∈ v.f1 := by simpa using h3.2
  have hin := (good_may hm).closed v h3.1 x hx
  unfold dropU
  rw [if_neg (by simp [hm]), if_neg (by simp [hin]), if_pos h]
theorem keepsI_add {m : List Us} {u : Us} (hm : KeepsI m) (hA : Added m u) (hu : u.f1.length ≤ 40) (hg : G40 u) : KeepsI (addAt m (placeN m u.f0) u) := ⟨add_good hA, fun v hv => by
    rcases addAt_mem.1 hv with rfl | hv
    · exact hu
    · exact hm.refs v hv, fun v hv => by
    rcases addAt_mem.1 hv with rfl | hv
    · exact hg
    · exact hm.good v hv⟩
theorem keepsI_drop {m : List Us} {x : Nd} (hm : KeepsI m) (hD : Dropped m x) : KeepsI (dropAt m (placeN m x)) := ⟨drop_good hD, fun v hv => hm.refs v (dropAt_mem hv), fun v hv => hm.good v (dropAt_mem hv)⟩
theorem mayF {m : List Us} (hm : KeepsI m) : graph_May.f m = some 0 := by
  unfold graph_May.f
  rw [if_pos hm.fit, hm.may]
theorem kp0 (l : List S52) (hl : l.length ≤ 40) (hg : ∀ s ∈ l, G40 s.f1) : ∀ d i m, l.length = i + d → KeepsI m → Ev (fun k => codicillaw19_GraphKeeps.l0 k l m (i : Int)) true
  | 0, i, m, hd, hm => by
    refine Ev.step (f := fun k => codicillaw19_GraphKeeps.l1 k m ((m.reverse.map (·.f0)).take 0) ((0 : Nat) : Int)) (fun k => ?_) (kp1 hm m.length 0 (by omega))
    simp only [codicillaw19_GraphKeeps.l0]
    rw [if_neg (by omega), List.take_zero]
    rfl
  | d + 1, i, m, hd, hm => by
    have hi : i < l.length := by omega
    have hrd : rd_T52 l (i : Int) = l[i] := by simp [rd_T52, List.getElem?_eq_getElem hi]
    have hu := hg _ (List.getElem_mem hi)
    have hrec := fun m hm => kp0 l hl hg d (i + 1) m (by omega) hm
    by_cases h1 : 40 < l[i].f1.f1.length
    · refine Ev.step (fun k => ?_) (Ev.bind (f := fun _ t => some t) alive19_ev (Ev.now _))
      simp only [codicillaw19_GraphKeeps.l0]
      rw [if_pos (by omega), if_pos (by omega), hrd, if_pos (by omega)]
    · have hfit := hm.fit
      have hlen := hm.len
      by_cases h2 : Int.tmod l[i].f0 3 < 2
      · have ha : graph_Add.f m l[i].f1.f0.f0 l[i].f1.f0.f1 l[i].f1.f1 = some (addU m l[i].f1) := by unfold graph_Add.f; rw [if_pos (by rw [hfit, decide_eq_true (by omega)]; rfl)]
        by_cases h0 : (addU m l[i].f1).2 = 0
        · obtain ⟨hA, hme⟩ := added_of (show addU m l[i].f1 = ((addU m l[i].f1).1, 0) by rw [← h0])
          have hm2 : KeepsI (addU m l[i].f1).1 := by rw [hme]; exact keepsI_add hm hA (by omega) hu
          refine Ev.step (fun k => ?_) (hrec _ hm2)
          simp only [codicillaw19_GraphKeeps.l0]
          rw [if_pos (by omega), if_pos (by omega), hrd, if_neg (by omega), if_pos h2, ha, Option.bind_some, if_pos h0, mayF hm2, Option.bind_some, if_pos rfl, wrapS i (by omega)]
        · refine Ev.step (fun k => ?_) (hrec _ hm)
          simp only [codicillaw19_GraphKeeps.l0]
          rw [if_pos (by omega), if_pos (by omega), hrd, if_neg (by omega), if_pos h2, ha, Option.bind_some, if_neg h0, mayF hm, Option.bind_some, if_pos rfl, wrapS i (by omega)]
      · have ha : graph_Drop.f m l[i].f1.f0.f0 l[i].f1.f0.f1 = some (dropU m l[i].f1.f0) := by unfold graph_Drop.f; rw [if_pos hfit]
        have hj : Ev (fun k => codicillaw19_GraphKeeps.j1 k l m (i : Int) (dropU m l[i].f1.f0).1 (dropU m l[i].f1.f0).2 false) true := by
          by_cases h0 : (dropU m l[i].f1.f0).2 = 0
          · obtain ⟨hD, hme⟩ := dropped_of (show dropU m l[i].f1.f0 = ((dropU m l[i].f1.f0).1, 0) by rw [← h0])
            have hm2 : KeepsI (dropU m l[i].f1.f0).1 := by rw [hme]; exact keepsI_drop hm hD
            refine Ev.step (fun k => ?_) (hrec _ hm2)
            simp only [codicillaw19_GraphKeeps.j1]
            rw [if_neg (by decide), if_pos h0, mayF hm2, Option.bind_some, if_pos rfl, wrapS i (by omega)]
          · refine Ev.step (fun k => ?_) (hrec _ hm)
            simp only [codicillaw19_GraphKeeps.j1]
            rw [if_neg (by decide), if_neg h0, mayF hm, Option.bind_some, if_pos rfl, wrapS i (by omega)]
        have hused : (((usersN m l[i].f1.f0).length : Int) > 0) → ((dropU m l[i].f1.f0).2 != 3) = false := fun h => by
          rw [used_drop hm.may (by omega)]; rfl
        obtain ⟨K1, e1⟩ := users_ev m (by omega) (fun u hu => by have := hm.refs u hu; omega) l[i].f1.f0
        obtain ⟨K2, e2⟩ := hj
        (try dsimp only at e1)
        (try dsimp only at e2)
        refine ⟨K1 + K2 + 1, fun k hk => ?_⟩
        obtain ⟨k, rfl⟩ : ∃ q, k = q + 1 := ⟨k - 1, by omega⟩
        show codicillaw19_GraphKeeps.l0 (k + 1) l m (i : Int) = some true
        simp only [codicillaw19_GraphKeeps.l0]
        rw [if_pos (by omega), if_pos (by omega), hrd, if_neg (by omega), if_neg h2, e1 k (by omega), Option.bind_some, ha, Option.bind_some]
        by_cases h3 : ((usersN m l[i].f1.f0).length : Int) > 0
        · rw [if_pos h3, hused h3]; exact e2 k (by omega)
        · rw [if_neg h3]; exact e2 k (by omega)
theorem keeps_pure (l : List S52) (hl : l.length * Try.prog.bytesOf 52 ≤ 140737488351232 ∧ l.length ≤ 9223372036854775807 ∧ ∀ x_ ∈ l, G52 x_) : ∃ k, codicillaw19_GraphKeeps.f k l = some true := by
  refine Ev.rounds (g := fun k => codicillaw19_GraphKeeps.f k l) ?_
  by_cases h : 40 < l.length
  · refine Ev.congr (fun k => ?_) (Ev.bind (f := fun _ t => some t) alive19_ev (Ev.now _))
    unfold codicillaw19_GraphKeeps.f
    rw [if_pos (by omega)]
  · refine Ev.congr (f := fun k => codicillaw19_GraphKeeps.l0 k l [] ((0 : Nat) : Int)) (fun k => ?_) (kp0 l (by omega) (fun s hs => (hl.2.2 s hs).2) l.length 0 [] (by omega) KeepsI.nil)
    unfold codicillaw19_GraphKeeps.f
    rw [if_neg (by omega)]
    rfl
end Go.Proofs.Ytddjhmelniphgaa.Print
