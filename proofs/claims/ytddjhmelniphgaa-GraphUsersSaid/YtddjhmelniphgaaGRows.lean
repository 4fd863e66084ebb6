/- Rows of rows: one put in, one taken out; and their reading. -/
import Derived.Test.YtddjhmelniphgaaGInsert2
import Derived.Test.YtddjhmelniphgaaGDelete
import Derived.Test.YtddjhmelniphgaaGPlace
namespace Go.Proofs.Ytddjhmelniphgaa.Print
open Go Go.RowKit Go.Proofs.YtddjhmelniphgaaW.PrintWords Go.Proofs.YtddjhmelniphgaaW.PrintLast
set_option linter.unusedVariables false
set_option linter.unusedSimpArgs false
section
variable {α : Type} {R : α → List Value → Prop} {s : Nat} {xs ys : List α} {a b : List Value}
theorem reps_append (h : Reps R s xs a) (h2 : Reps R s ys b) : Reps R s (xs ++ ys) (a ++ b) := by
  refine ⟨by rw [List.length_append, List.length_append, h.1, h2.1, Nat.add_mul], fun j p hj => ?_⟩
  rcases Nat.lt_or_ge j xs.length with hx | hx
  · rw [List.getElem?_append_left hx] at hj
    have hle : j * s + s ≤ a.length := by rw [h.1, ← Nat.succ_mul]; exact Nat.mul_le_mul_right _ hx
    rw [List.drop_append_of_le_length (by omega), List.take_append_of_le_length (by rw [List.length_drop]; omega)]
    exact h.2 j p hj
  · rw [List.getElem?_append_right hx] at hj
    obtain ⟨k, rfl⟩ : ∃ k, j = xs.length + k := ⟨j - xs.length, by omega⟩
    rw [Nat.add_sub_cancel_left] at hj
    rw [Nat.add_mul, ← h.1, ← List.drop_drop, List.drop_left]
    exact h2.2 k p hj
theorem reps_take (h : Reps R s xs a) {i : Nat} (hi : i ≤ xs.length) : Reps R s (xs.take i) (a.take (i * s)) := by
  have hle : i * s ≤ xs.length * s := Nat.mul_le_mul_right _ hi
  refine ⟨by rw [List.length_take, List.length_take, h.1, Nat.min_eq_left hi, Nat.min_eq_left hle], fun j p hj => ?_⟩
  rw [List.getElem?_take] at hj
  split at hj
  · rename_i hji
    have hle2 : j * s + s ≤ i * s := by rw [← Nat.succ_mul]; exact Nat.mul_le_mul_right _ hji
    rw [List.drop_take, List.take_take, Nat.min_eq_left (by omega)]
    exact h.2 j p hj
  · cases hj
theorem reps_drop (h : Reps R s xs a) (i : Nat) : Reps R s (xs.drop i) (a.drop (i * s)) := by
  refine ⟨by rw [List.length_drop, List.length_drop, h.1, Nat.sub_mul], fun j p hj => ?_⟩
  rw [List.getElem?_drop] at hj
  rw [List.drop_drop, ← Nat.add_mul]
  exact h.2 _ p hj
theorem reps_one {x : α} {c : List Value} (hp : R x c) (hc : c.length = s) : Reps R s [x] c := by
  have := (Reps.none R s).snoc hp hc
  simpa using this
end
/-- A row of the call's own whose elements' cells are told, read. -/
theorem own_V {α : Type} {d : Kd α} {e : Nat} {w w' : World} {base : Nat} {P : Nat → Prop} {v : Value} {xs : List α} {inner : List Value} (ho : w'.ownsRow base e d.sz v xs.length inner) (hr : Reps (fun x c => Kd.FK d w P x c ∧ ∀ k, P k → k < base) d.sz xs inner) (hb : Below w.heap.size w w') (hbase : base = w.heap.size) :
    Kd.V d e w' base (fun k => P k ∨ base ≤ k) v xs := by
  have hob : ∀ k, v.ownBlock = some k → base ≤ k := fun k hk => by
    rcases ho.2 with ⟨h, _⟩ | ⟨g, cap, cur, h, hg, _⟩
    · rw [h] at hk; cases hk
    · rw [h] at hk; exact (Option.some.inj hk) ▸ hg
  have hraw := Kd.reps_raw (hr.imp_ fun x c h => h.1) (fun x c h => ⟨d.K_len (Kd.FK_now h), d.K_one (Kd.FK_now h)⟩)
  exact Kd.N_V (base := base) ⟨fun k hk => .inr (hob k hk), Kd.chunks d.sz xs.length inner, Kd.chunks_length _ _ _, ⟨fun k hk => hk.symm, inner, by rw [Kd.chunks_length]; exact ho, hraw⟩, fun j x c hx hc => by
    rw [Kd.chunks_get hc]
    have h1 := hr.2 j x hx
    exact Kd.FK_mono (Kd.FK_below h1.1 hb) (fun k hk => ⟨.inl hk, fun he => by have := hob k he.symm; have := h1.2 k hk; omega⟩)⟩
/-- A row that is read: its cells. -/
theorem F_inner {α : Type} {d : Kd α} {w : World} {P : Nat → Prop} {ad : Addr} {n : Nat} {xs : List α} (h : Kd.F d w P (some ad) n xs) :
    ∃ inner, Reps (fun x c => Kd.FK d w P x c) d.sz xs inner ∧ (∀ j u, inner[j]? = some u → w.cell? (ad.add j) = some u) ∧ (∀ u ∈ inner, u.oneCell' = true) := by
  obtain ⟨inner, hr, hc⟩ := ReadsRow.inner_ (Kd.F_rows h)
  refine ⟨inner, hr, hc, fun u hu => ?_⟩
  obtain ⟨i, hi, rfl⟩ := List.getElem_of_mem hu
  rcases Nat.eq_zero_or_pos d.sz with h0 | h0
  · rw [hr.1, h0, Nat.mul_zero] at hi; omega
  · have hj : i / d.sz < xs.length := by
      rw [hr.1] at hi
      exact Nat.div_lt_of_lt_mul (by rw [Nat.mul_comm]; exact hi)
    have h1 := d.K_one (Kd.FK_now (hr.2 (i / d.sz) _ (List.getElem?_eq_getElem hj))) inner[i]
    refine h1 ?_
    rw [List.mem_iff_getElem?]
    refine ⟨i % d.sz, ?_⟩
    rw [List.getElem?_take, if_pos (Nat.mod_lt _ h0), List.getElem?_drop, Nat.div_add_mod', List.getElem?_eq_getElem hi]
/-- The new row in the middle. -/
def addAt (l : List Us) (i : Nat) (u : Us) : List Us := l.take i ++ u :: l.drop i
theorem addAt_reps {R : Us → List Value → Prop} {l : List Us} {cs vs : List Value} {i : Nat} {u : Us} (h : Reps R 3 l cs) (hu : R u vs) (hv : vs.length = 3) (hi : i ≤ l.length) : Reps R 3 (addAt l i u) (cs.take (i * 3) ++ vs ++ cs.drop (i * 3)) := by
  have := reps_append (reps_append (reps_take h hi) (reps_one hu hv)) (reps_drop h i)
  unfold addAt
  rw [List.append_assoc] at this
  simpa using this
theorem addAt_len {l : List Us} {i : Nat} {u : Us} (hi : i ≤ l.length) : (addAt l i u).length = l.length + 1 := by
  unfold addAt
  rw [List.length_append, List.length_take, List.length_cons, List.length_drop]; omega
/-- A row away. -/
def dropAt (l : List Us) (i : Nat) : List Us := l.take i ++ l.drop (i + 1)
theorem dropAt_reps {R : Us → List Value → Prop} {l : List Us} {cs : List Value} {i : Nat} (h : Reps R 3 l cs) (hi : i ≤ l.length) : Reps R 3 (dropAt l i) (cs.take (i * 3) ++ cs.drop ((i + 1) * 3)) :=
  reps_append (reps_take h hi) (reps_drop h (i + 1))
theorem dropAt_len {l : List Us} {i : Nat} (hi : i < l.length) : (dropAt l i).length + 1 = l.length := by
  unfold dropAt
  rw [List.length_append, List.length_take, List.length_drop]; omega
/-- Rows that may be stand in order. -/
theorem sorted_may {l : List Us} (h : mayN l = 0) : SortedU l := by
  intro i hi
  unfold mayN at h
  split at h
  · cases h
  · split at h
    · cases h
    · rename_i h2
      rw [Bool.not_eq_true, List.any_eq_false] at h2
      have h3 := h2 (i + 1) (List.mem_range.2 hi)
      rw [Bool.not_eq_true] at h3
      unfold badRow at h3
      rw [Bool.or_eq_false_iff, Bool.and_eq_false_iff] at h3
      rcases h3.1 with h4 | h4
      · rw [decide_eq_false_iff_not] at h4; omega
      · rw [Nat.add_sub_cancel, Bool.not_eq_false'] at h4; exact h4
end Go.Proofs.Ytddjhmelniphgaa.Print
