/- Plain: where the reference finds a row. -/
import Derived.Test.YtddjhmelniphgaaGUsers
import Derived.Test.YtddjhmelniphgaaGRank
import Derived.Test.YtddjhmelniphgaaPrint5
namespace Go.Proofs.Ytddjhmelniphgaa.Print
open Go Go.RowKit Go.Proofs.YtddjhmelniphgaaW.PrintWords Go.Proofs.YtddjhmelniphgaaW.PrintLast
set_option linter.unusedVariables false
set_option linter.unusedSimpArgs false
theorem at_l0 (l : List Us) (x : Nd) (hl : l.length ≤ 1048576) : ∀ d i fuel, l.length = i + d → d < fuel → ∃ r, codicilref19_at.l0 fuel l (i : Int) x.f0 x.f1 = some r ∧ ((inN (l.drop i) x = true ∧ ∃ j : Nat, r = (j : Int) ∧ j < l.length ∧ (usAt l j).f0 = x) ∨ (inN (l.drop i) x = false ∧ r = -1))
  | 0, i, fuel, hd, hf => by
    obtain ⟨fuel, rfl⟩ : ∃ q, fuel = q + 1 := ⟨fuel - 1, by omega⟩
    refine ⟨-1, ?_, .inr ⟨?_, rfl⟩⟩
    · unfold codicilref19_at.l0
      rw [if_neg (by omega)]
    · rw [List.drop_of_length_le (by omega)]; rfl
  | d + 1, i, fuel, hd, hf => by
    obtain ⟨fuel, rfl⟩ : ∃ q, fuel = q + 1 := ⟨fuel - 1, by omega⟩
    have hi : i < l.length := by omega
    have hg : rd_T40 l (i : Int) = l[i] := by
      simp [rd_T40, List.getElem?_eq_getElem hi]
    have hu : usAt l i = l[i] := by unfold usAt; rw [List.getD_eq_getElem?_getD, List.getElem?_eq_getElem hi]; rfl
    unfold codicilref19_at.l0
    rw [if_pos (by omega), if_pos (by omega), hg, ndEq l[i].f0 x, List.drop_eq_getElem_cons hi]
    by_cases h : l[i].f0 = x
    · rw [if_pos (decide_eq_true h)]
      exact ⟨_, rfl, .inl ⟨by unfold inN; rw [decide_eq_true_iff, List.map_cons]; exact h ▸ List.mem_cons_self, i, rfl, hi, by rw [hu]; exact h⟩⟩
    · rw [if_neg (by simp [h]), wrapS i (by omega)]
      obtain ⟨r, h1, h2⟩ := at_l0 l x hl d (i + 1) fuel (by omega) (by omega)
      have he : inN (l[i] :: l.drop (i + 1)) x = inN (l.drop (i + 1)) x := by
        unfold inN
        rw [decide_eq_decide, List.map_cons, List.mem_cons]
        exact ⟨fun h3 => h3.resolve_left (fun e => h e.symm), .inr⟩
      rw [he]
      exact ⟨r, h1, h2⟩
theorem at_in {l : List Us} {x : Nd} (hl : l.length ≤ 1048576) (hx : inN l x = true) (fuel : Nat) (hf : l.length < fuel) : ∃ j : Nat, codicilref19_at.f fuel l x.f0 x.f1 = some (j : Int) ∧ j < l.length ∧ (usAt l j).f0 = x := by
  obtain ⟨r, h1, h2⟩ := at_l0 l x hl l.length 0 fuel (by omega) hf
  rw [List.drop_zero] at h2
  rcases h2 with ⟨_, j, rfl, h3, h4⟩ | ⟨h3, _⟩
  · exact ⟨j, h1, h3, h4⟩
  · rw [hx] at h3; cases h3
theorem at_out {l : List Us} {x : Nd} (hl : l.length ≤ 1048576) (hx : inN l x = false) (fuel : Nat) (hf : l.length < fuel) : codicilref19_at.f fuel l x.f0 x.f1 = some (-1) := by
  obtain ⟨r, h1, h2⟩ := at_l0 l x hl l.length 0 fuel (by omega) hf
  rw [List.drop_zero] at h2
  rcases h2 with ⟨h3, _⟩ | ⟨_, rfl⟩
  · rw [hx] at h3; cases h3
  · exact h1
end Go.Proofs.Ytddjhmelniphgaa.Print
