/- Plain: small functions of the laws of layer 19. -/
import Derived.Test.YtddjhmelniphgaaQRows19
import Derived.Test.YtddjhmelniphgaaHGAdd
import Derived.Test.YtddjhmelniphgaaHGDrop
import Derived.Test.YtddjhmelniphgaaHAlive19
import Derived.Test.YtddjhmelniphgaaOpnT
import Derived.Test.YtddjhmelniphgaaPrint6
import Derived.Test.YtddjhmelniphgaaPrint2
namespace Go.Proofs.Ytddjhmelniphgaa.Print
open Go Go.RowKit Go.Proofs.YtddjhmelniphgaaW.PrintWords Go.Proofs.YtddjhmelniphgaaW.PrintLast
set_option linter.unusedVariables false
set_option linter.unusedSimpArgs false
theorem okN_of {x : Nd} (h : G24 x) : okN x := ⟨by have := h.1; unfold maxLen; omega, h.2⟩
theorem okNB_of {x : Nd} (h : G24 x) : okNB x = true := okNB_iff.2 (okN_of h)
theorem okAll {l : List Nd} (h : ∀ x ∈ l, G24 x) : l.all okNB = true := List.all_eq_true.2 fun x hx => okNB_of (h x hx)
theorem fit_of {l : List Us} (hl : l.length ≤ 1048576) (h : ∀ u ∈ l, u.f1.length ≤ 1048576 ∧ G40 u) : fitUB l = true := fitUB_iff.2 ⟨hl, fun u hu => okN_of (h u hu).2.1, fun u hu => (h u hu).1, fun u hu x hx => okN_of ((h u hu).2.2.2.2 x hx)⟩
theorem heavy_l0 (l : List Us) (hl : l.length ≤ 60) : ∀ d i, l.length = i + d → ∃ b, Ev (fun k => codicillaw19_Heavy.l0 k l (i : Int)) b ∧ (b = false → ∀ u ∈ l.drop i, u.f1.length ≤ 40 ∧ u.f0.f0.size ≤ 1024)
  | 0, i, hd => by
    refine ⟨false, Ev.step (f := fun _ => some false) (fun k => ?_) (Ev.now _), fun _ u hu => ?_⟩
    · simp only [codicillaw19_Heavy.l0]
      rw [if_neg (by omega)]
    · rw [List.drop_of_length_le (by omega)] at hu; cases hu
  | d + 1, i, hd => by
    have hi : i < l.length := by omega
    by_cases h1 : 40 < l[i].f1.length
    · refine ⟨true, Ev.step (f := fun _ => some true) (fun k => ?_) (Ev.now _), fun h => by cases h⟩
      simp only [codicillaw19_Heavy.l0]
      rw [if_pos (by omega), if_pos (by omega), rdU l i hi, if_pos (by omega)]
    · by_cases h2 : 1024 < l[i].f0.f0.size
      · refine ⟨true, Ev.step (f := fun _ => some true) (fun k => ?_) (Ev.now _), fun h => by cases h⟩
        simp only [codicillaw19_Heavy.l0]
        rw [if_pos (by omega), if_pos (by omega), rdU l i hi, if_neg (by omega), if_pos (by omega)]
      · obtain ⟨b, hb, hf⟩ := heavy_l0 l hl d (i + 1) (by omega)
        refine ⟨b, Ev.step (fun k => ?_) hb, fun h u hu => ?_⟩
        · simp only [codicillaw19_Heavy.l0]
          rw [if_pos (by omega), if_pos (by omega), rdU l i hi, if_neg (by omega), if_neg (by omega), wrapS i (by omega)]
        · rw [List.drop_eq_getElem_cons hi] at hu
          rcases List.mem_cons.1 hu with rfl | hu
          · exact ⟨by omega, by omega⟩
          · exact hf h u hu
theorem heavy_ev (l : List Us) : ∃ b, Ev (fun k => codicillaw19_Heavy.f k l) b ∧ (b = false → l.length ≤ 60 ∧ ∀ u ∈ l, u.f1.length ≤ 40 ∧ u.f0.f0.size ≤ 1024) := by
  by_cases h : 60 < l.length
  · refine ⟨true, Ev.congr (f := fun _ => some true) (fun k => ?_) (Ev.now _), fun h => by cases h⟩
    unfold codicillaw19_Heavy.f
    rw [if_pos (by omega)]
  · obtain ⟨b, hb, hf⟩ := heavy_l0 l (by omega) l.length 0 (by omega)
    refine ⟨b, Ev.congr (fun k => ?_) hb, fun h2 => ⟨by omega, by simpa using hf h2⟩⟩
    unfold codicillaw19_Heavy.f
    rw [if_neg (by omega)]
    rfl
theorem nodes_l0 (l : List Nd) (hl : l.length ≤ 1048576) : ∀ d i, l.length = i + d → Ev (fun k => codicilref19_Nodes.l0 k l l (i : Int)) true
  | 0, i, hd => by
    refine Ev.step (f := fun _ => some true) (fun k => ?_) (Ev.now _)
    simp only [codicilref19_Nodes.l0]
    rw [if_neg (by omega)]
  | d + 1, i, hd => by
    refine Ev.step (fun k => ?_) (nodes_l0 l hl d (i + 1) (by omega))
    simp only [codicilref19_Nodes.l0]
    rw [if_pos (by omega), if_pos (by omega), if_pos (by omega), if_neg (by simp), wrapS i (by omega)]
theorem nodes_ev (l : List Nd) (hl : l.length ≤ 1048576) : Ev (fun k => codicilref19_Nodes.f k l l) true := by
  refine Ev.congr (fun k => ?_) (nodes_l0 l hl l.length 0 (by omega))
  unfold codicilref19_Nodes.f
  rw [if_pos rfl]
  rfl
theorem users_ev (l : List Us) (hl : l.length ≤ 1048576) (hr : ∀ u ∈ l, u.f1.length ≤ 1048576) (x : Nd) : Ev (fun k => graph_Users.f k l x.f0 x.f1) (usersN l x) := Ev.of (fun k => graph_Users.mono _ _ _ k) (users_some l x hl hr (l.length + 1048578) (by omega))
theorem usersN_len (l : List Us) (x : Nd) : (usersN l x).length ≤ l.length := by
  unfold usersN
  rw [List.length_map]
  exact List.length_filter_le _ _
end Go.Proofs.Ytddjhmelniphgaa.Print
