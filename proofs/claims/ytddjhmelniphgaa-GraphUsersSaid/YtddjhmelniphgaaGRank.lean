/- Plain: rows that may be have a rank: every reference stands lower. -/
import Derived.Test.YtddjhmelniphgaaGVisN
namespace Go.Proofs.Ytddjhmelniphgaa.Print
open Go Go.RowKit
set_option linter.unusedVariables false
set_option linter.unusedSimpArgs false
theorem nodup_len_le {α : Type} [DecidableEq α] : ∀ (D K : List α), D.Nodup → (∀ y ∈ D, y ∈ K) → D.length ≤ K.length
  | [], _, _, _ => Nat.zero_le _
  | d :: r, K, hn, hs => by
    rw [List.nodup_cons] at hn
    have h1 : r.length ≤ (K.erase d).length := nodup_len_le r (K.erase d) hn.2 (fun y hy => by
      have hne : y ≠ d := fun e => hn.1 (e ▸ hy)
      exact (List.mem_erase_of_ne hne).2 (hs y (List.mem_cons_of_mem _ hy)))
    have h2 := List.length_erase_of_mem (hs d List.mem_cons_self)
    have h3 : 0 < K.length := List.length_pos_of_mem (hs d List.mem_cons_self)
    rw [List.length_cons]
    omega
theorem nodup_all {α : Type} [DecidableEq α] {D K : List α} (hn : D.Nodup) (hs : ∀ y ∈ D, y ∈ K) (hl : K.length ≤ D.length) : ∀ x ∈ K, x ∈ D := fun x hx => by
  by_cases h : x ∈ D
  · exact h
  · have h1 := nodup_len_le D (K.erase x) hn (fun y hy => (List.mem_erase_of_ne (fun e => h (by rw [← e]; exact hy))).2 (hs y hy))
    rw [List.length_erase_of_mem hx] at h1
    have h3 : 0 < K.length := List.length_pos_of_mem hx
    omega
/-- What the rounds have done: each node once, behind all that it refers to. -/
def GoodD (l : List Us) (D : List Nd) : Prop := ∀ a x b, D = a ++ x :: b → x ∉ a ∧ ∃ u ∈ l, u.f0 = x ∧ ∀ y ∈ u.f1, y ∈ a
theorem good_nil (l : List Us) : GoodD l [] := fun a x b h => by cases a <;> cases h
theorem good_step {l : List Us} {D : List Nd} (h : GoodD l D) {u : Us} (hu : u ∈ l) : GoodD l (doneStep D u) := by
  unfold doneStep
  split
  · exact h
  · rename_i hr
    unfold addN
    split
    · exact h
    · rename_i hn
      have hr2 : ∀ y ∈ u.f1, y ∈ D := fun y hy => by
        rw [Bool.not_eq_true] at hr
        unfold anyP at hr
        rw [List.any_eq_false] at hr
        have := hr y hy
        rw [Bool.not_eq_true, Bool.not_eq_false', decide_eq_true_iff] at this
        exact this
      intro a x b he
      rcases List.eq_nil_or_concat b with rfl | ⟨b', z, rfl⟩
      · have h1 : D ++ [u.f0] = a ++ [x] := he
        obtain ⟨h2, h3⟩ := List.append_inj' h1 rfl
        subst h2
        injection h3 with h3 _
        subst h3
        exact ⟨hn, u, hu, rfl, hr2⟩
      · have h1 : D ++ [u.f0] = (a ++ x :: b') ++ [z] := by rw [he]; simp
        obtain ⟨h2, h3⟩ := List.append_inj' h1 rfl
        exact h a x b' h2
theorem good_fold {l : List Us} : ∀ (xs : List Us) (D : List Nd), (∀ u ∈ xs, u ∈ l) → GoodD l D → GoodD l (xs.foldl doneStep D)
  | [], _, _, h => h
  | u :: r, D, hs, h => good_fold r _ (fun v hv => hs v (List.mem_cons_of_mem _ hv)) (good_step h (hs u List.mem_cons_self))
theorem good_rounds {l : List Us} : ∀ (k : Nat) (D : List Nd), GoodD l D → GoodD l (roundsN l k D)
  | 0, _, h => h
  | k + 1, D, h => by
    unfold roundsN
    have h2 : GoodD l (roundN l D) := good_fold l D (fun u hu => hu) h
    split
    · exact h
    · split
      · exact h2
      · exact good_rounds k _ h2
theorem good_nodup {l : List Us} {D : List Nd} (h : GoodD l D) : D.Nodup := by
  have key : ∀ (b a : List Nd), GoodD l (a ++ b) → a.Nodup → (a ++ b).Nodup := by
    intro b
    induction b with
    | nil => intro a _ ha; simpa using ha
    | cons x r ih =>
      intro a hg ha
      have h1 := (hg a x r rfl).1
      have h2 := ih (a ++ [x]) (by simpa using hg) (by
        rw [List.nodup_append]
        exact ⟨ha, by simp, fun p hp q hq e => by rw [List.mem_singleton] at hq; exact h1 (hq ▸ e ▸ hp)⟩)
      simpa using h2
  exact key D [] (by simpa using h) List.nodup_nil
theorem good_sub {l : List Us} {D : List Nd} (h : GoodD l D) : ∀ y ∈ D, y ∈ l.map (·.f0) := fun y hy => by
  obtain ⟨a, b, rfl⟩ := List.append_of_mem hy
  obtain ⟨_, u, hu, e, _⟩ := h a y b rfl
  exact e ▸ List.mem_map_of_mem hu
def doneU (l : List Us) : List Nd := roundsN l (l.length + 1) []
def rkU (l : List Us) (x : Nd) : Nat := (doneU l).idxOf x
theorem done_all {l : List Us} (h : mayN l = 0) : GoodD l (doneU l) ∧ ∀ x, inN l x = true → x ∈ doneU l := by
  have hg : GoodD l (doneU l) := good_rounds _ _ (good_nil l)
  refine ⟨hg, fun x hx => ?_⟩
  unfold inN at hx
  rw [decide_eq_true_iff] at hx
  refine nodup_all (good_nodup hg) (good_sub hg) ?_ x hx
  rw [List.length_map]
  unfold mayN at h
  split at h
  · cases h
  · split at h
    · cases h
    · split at h
      · cases h
      · rename_i h3
        exact Nat.le_of_not_lt h3
/-- Every reference stands lower. -/
def RankU (l : List Us) (rk : Nd → Nat) : Prop := ∀ x, inN l x = true → ∀ y ∈ refsOf l x, rk y < rk x
theorem idx_split {a b : List Nd} {x : Nd} (hx : x ∉ a) : (a ++ x :: b).idxOf x = a.length := by
  rw [List.idxOf_append, if_neg hx]
  simp
theorem idx_in {a b : List Nd} {y : Nd} (hy : y ∈ a) : (a ++ b).idxOf y < a.length := by
  rw [List.idxOf_append, if_pos hy]
  exact List.idxOf_lt_length_of_mem hy
theorem rank_may {l : List Us} (h : mayN l = 0) : RankU l (rkU l) ∧ ∀ x, inN l x = true → rkU l x < (doneU l).length := by
  obtain ⟨hg, hall⟩ := done_all h
  refine ⟨fun x hx y hy => ?_, fun x hx => List.idxOf_lt_length_of_mem (hall x hx)⟩
  obtain ⟨a, b, he⟩ := List.append_of_mem (hall x hx)
  obtain ⟨hxa, u, hu, e, hr⟩ := hg a x b he
  subst e
  rw [refsOf_row (sorted_may h) hu] at hy
  unfold rkU
  rw [he, idx_split hxa]
  exact idx_in (hr y hy)
end Go.Proofs.Ytddjhmelniphgaa.Print
