/- What the closures of graph.May answer: is a node away; is it not done. -/
import Derived.Test.YtddjhmelniphgaaGRefs
namespace Go.Proofs.Ytddjhmelniphgaa.Print
open Go Go.RowKit Go.Maps Go.ChangeMaps Go.Proofs.YtddjhmelniphgaaW.PrintWords Go.Proofs.YtddjhmelniphgaaW.PrintLast
set_option linter.unusedVariables false
set_option linter.unusedSimpArgs false
theorem look_isSome {l : List (Nd × Value)} (hn : (l.map (·.1)).Nodup) (x : Nd) : (look x l).isSome = decide (x ∈ l.map (·.1)) := by
  by_cases h : x ∈ l.map (·.1)
  · obtain ⟨p, hp, rfl⟩ := List.mem_map.1 h
    rw [look_at hn hp, decide_eq_true h]; rfl
  · rw [look_none h, decide_eq_false h]; rfl
/-- A set of nodes as a map. -/
def setM (l : List Nd) : List (Nd × Value) := l.map fun x => (x, .bool true)
theorem setM_keys (l : List Nd) : (setM l).map (·.1) = l := by simp [setM, Function.comp_def]
theorem setM_look (l : List Nd) (x : Nd) : (look x (setM l)).getD (.bool false) = .bool (decide (x ∈ l)) := by
  by_cases h : x ∈ l
  · rw [decide_eq_true h]
    obtain ⟨u, hu⟩ : ∃ u, look x (setM l) = some u := by
      cases hl : look x (setM l) with
      | some u => exact ⟨u, rfl⟩
      | none =>
        exfalso
        unfold look at hl
        rw [Option.map_eq_none_iff, List.find?_eq_none] at hl
        have := hl (x, .bool true) (List.mem_map.2 ⟨x, h, rfl⟩)
        simp at this
    have hm := look_mem hu
    obtain ⟨y, _, e⟩ := List.mem_map.1 hm
    injection e with e1 e2
    rw [hu, ← e2]; rfl
  · rw [decide_eq_false h, look_none (by rw [setM_keys]; exact h)]; rfl
theorem setM_put (l : List Nd) (x : Nd) : putL x (.bool true) (setM l) = setM (addN l x) := by
  unfold putL addN
  rw [setM_keys]
  split
  · unfold setM
    rw [List.map_map]
    apply List.map_congr_left
    intro y _
    simp only [Function.comp_apply]
    split
    · rename_i e; rw [e]
    · rfl
  · unfold setM
    rw [List.map_append]; rfl
set_option maxRecDepth 100000 in
theorem pred_away (B b : Nat) (m : List (Nd × Value)) (w : World) (hB : B < w.heap.size) (hcell : w.cell? ⟨B, 0, none⟩ = some (.map (some b))) (hm : MapAt encN w b m) (hok : ∀ p ∈ m, okN p.1) :
    PredN 31 #[.pointer (some ⟨B, 0, none⟩)] (fun x => !decide (x ∈ m.map (·.1))) w := fun W x hx hb => by
  have hc : W.cell? ⟨B, 0, none⟩ = some (.map (some b)) := (hb.cell (p := ⟨B, 0, none⟩) hB).trans hcell
  have hBW : B < W.heap.size := Nat.lt_of_lt_of_le hB hb.size
  have hne : B ≠ W.heap.size := by omega
  have HM := Aside0.mk (hm.below hb)
  have HOK := Aside0.mk hok
  have HX := Aside0.mk hx
  have HI := Aside0.mk (look_isSome hm.2 x)
  clear hb hcell hm hok hx
  obtain ⟨is, his⟩ : ∃ is, is = decide (x ∈ m.map (·.1)) := ⟨_, rfl⟩
  dsimp only
  rw [← his] at HI ⊢
  clear his
  obtain ⟨u, hu⟩ : ∃ u, u = (look x m).getD (.slice none 0 0) := ⟨_, rfl⟩
  have HU := Aside0.mk hu.symm
  clear hu
  obtain ⟨x0, x1⟩ := x
  go_enter Try.func31, Try.ntmps31
  go_wp2_with (at_lookup; refine wpList_mapLookOk _ rfl _ _ 57 rfl kN 25 Try.underlying57 (.slice none 0 0) (Try.zeroValue25 _) b m rfl (HM.out.alloc _) HOK.out ⟨x0, x1⟩ rfl HX.out u HU.out is HI.out ?_)
  go_ret
  exact ⟨rfl, (Below.refl _ _).alloc (Nat.le_refl _) _⟩
set_option maxRecDepth 100000 in
theorem pred_undone (B b : Nat) (l : List Nd) (w : World) (hB : B < w.heap.size) (hcell : w.cell? ⟨B, 0, none⟩ = some (.map (some b))) (hm : MapAt encN w b (setM l)) (hok : ∀ x ∈ l, okN x) :
    PredN 34 #[.pointer (some ⟨B, 0, none⟩)] (fun x => !decide (x ∈ l)) w := fun W x hx hb => by
  have hc : W.cell? ⟨B, 0, none⟩ = some (.map (some b)) := (hb.cell (p := ⟨B, 0, none⟩) hB).trans hcell
  have hBW : B < W.heap.size := Nat.lt_of_lt_of_le hB hb.size
  have hne : B ≠ W.heap.size := by omega
  have HM := Aside0.mk (hm.below hb)
  have HOK := Aside0.mk (show ∀ p ∈ setM l, okN p.1 from fun p hp => by obtain ⟨y, hy, rfl⟩ := List.mem_map.1 hp; exact hok y hy)
  have HX := Aside0.mk hx
  have HI := Aside0.mk (setM_look l x)
  clear hb hcell hm hok hx
  obtain ⟨is, his⟩ : ∃ is, is = decide (x ∈ l) := ⟨_, rfl⟩
  dsimp only
  rw [← his] at HI ⊢
  clear his
  obtain ⟨x0, x1⟩ := x
  go_enter Try.func34, Try.ntmps34
  go_wp2_with (at_lookup; refine wpList_mapLook _ rfl _ _ 59 rfl kN 4 Try.underlying59 (.bool false) (Try.zeroValue4 _) b (setM l) rfl (HM.out.alloc _) HOK.out ⟨x0, x1⟩ rfl HX.out (.bool is) HI.out ?_)
  go_ret
  exact ⟨rfl, (Below.refl _ _).alloc (Nat.le_refl _) _⟩
end Go.Proofs.Ytddjhmelniphgaa.Print
