/- graph.order: which of two nodes is first; the exact world behind it (for the library's sort). -/
import Derived.Test.YtddjhmelniphgaaHCmpS
import Derived.Test.YtddjhmelniphgaaGMap
import Derived.Test.YtddjhmelniphgaaPrint2
import Derived.StillTailTactics
import Derived.Sort.Grow
namespace Go.Proofs.Ytddjhmelniphgaa.Print
open Go Go.RowKit Go.Proofs.YtddjhmelniphgaaW.PrintWords Go.Proofs.YtddjhmelniphgaaW.PrintLast
set_option linter.unusedVariables false
set_option linter.unusedSimpArgs false
def cmpI (a b : Int) : Int := if a < b then -1 else if b < a then 1 else 0
def orI (x y : Int) : Int := if x ≠ 0 then x else y
def ordN (a b : Nd) : Int := orI (cmpS a.f0 b.f0) (cmpI a.f1 b.f1)
theorem isNaNi (a : Int) (w : World) : Calls Try.prog 55 #[.int .i64 a] w fun e w' => e = .returned (.bool false) ∧ w = w' := by
  go_enter Try.func55, Try.ntmps55
  go_wp2
  go_ret
  exact ⟨by simp, rfl⟩
theorem cmpI_any (a b : Int) (w : World) : Calls Try.prog 44 #[.int .i64 a, .int .i64 b] w fun e w' => e = .returned (.int .i64 (cmpI a b)) ∧ w = w' := by
  have hN := fun x W => isNaNi x W
  unfold cmpI
  by_cases h1 : a < b
  · rw [if_pos h1]
    go_enter Try.func44, Try.ntmps44
    go_wp2_with (go_at_call 55; refine (hN _ _).mono ?_; rintro e w' ⟨rfl, rfl⟩)
    go_ret
    exact ⟨rfl, rfl⟩
  · rw [if_neg h1]
    by_cases h2 : b < a
    · rw [if_pos h2]
      go_enter Try.func44, Try.ntmps44
      go_wp2_with (go_at_call 55; refine (hN _ _).mono ?_; rintro e w' ⟨rfl, rfl⟩)
      go_ret
      exact ⟨rfl, rfl⟩
    · rw [if_neg h2]
      go_enter Try.func44, Try.ntmps44
      go_wp2_with (go_at_call 55; refine (hN _ _).mono ?_; rintro e w' ⟨rfl, rfl⟩)
      go_ret
      exact ⟨rfl, rfl⟩
set_option maxRecDepth 100000 in
/-- cmp.Or of two numbers that lie in a new block. -/
theorem or_any (x y : Int) (w : World) (g : Nat) (h0 : w.cell? ⟨g, 0, none⟩ = some (.int .i64 x)) (h1 : w.cell? ⟨g, 1, none⟩ = some (.int .i64 y)) :
    Calls Try.prog 42 #[.slice (some ⟨g, 0, none⟩) 2 2] w fun e w' => e = .returned (.int .i64 (orI x y)) ∧ w = w' := by
  unfold orI
  have e0 : (⟨g, 0, none⟩ : Addr).add 0 = ⟨g, 0, none⟩ := rfl
  by_cases hx : x = 0
  · subst hx
    rw [if_neg (by simp)]
    by_cases hy : y = 0
    · subst hy
      go_enter Try.func42, Try.ntmps42
      go_wp2
      refine wp_loop_rounds 3 ?_
      rw [rounds_succ]
      go_wp2
      rw [rounds_succ]
      go_wp2
      rw [rounds_succ]
      go_wp2
      go_ret
      exact ⟨rfl, rfl⟩
    · have hyb : (y == 0) = false := by simp [hy]
      have hyn : (y != 0) = true := by simp [hy]
      go_enter Try.func42, Try.ntmps42
      go_wp2
      refine wp_loop_rounds 2 ?_
      rw [rounds_succ]
      go_wp2
      rw [rounds_succ]
      go_wp2
      go_ret
      exact ⟨rfl, rfl⟩
  · rw [if_pos hx]
    have hxb : (x == 0) = false := by simp [hx]
    have hxn : (x != 0) = true := by simp [hx]
    go_enter Try.func42, Try.ntmps42
    go_wp2
    refine wp_loop_rounds 1 ?_
    rw [rounds_succ]
    go_wp2
    go_ret
    exact ⟨rfl, rfl⟩
set_option maxRecDepth 100000 in
set_option maxHeartbeats 1000000 in
theorem order_any (a b : Nd) (w : World) : Calls Try.prog 30 #[encN a, encN b] w fun e w' => e = .returned (.int .i64 (ordN a b)) ∧ ∃ q os', w' = Sort.grow (w.drewN q) os' := by
  obtain ⟨a0, a1⟩ := a
  obtain ⟨b0, b1⟩ := b
  unfold encN ordN
  obtain ⟨x, hx⟩ : ∃ x, x = cmpS a0 b0 := ⟨_, rfl⟩
  obtain ⟨y, hy⟩ : ∃ y, y = cmpI a1 b1 := ⟨_, rfl⟩
  have h1 : ∀ W : World, Calls Try.prog 43 #[.string a0, .string b0] W fun e w' => e = .returned (.int .i64 x) ∧ w' = W := fun W => by rw [hx]; exact (cmpS_any a0 b0 W).mono fun e w' ⟨h, h2⟩ => ⟨h, h2.symm⟩
  have h2 : ∀ W : World, Calls Try.prog 44 #[.int .i64 a1, .int .i64 b1] W fun e w' => e = .returned (.int .i64 y) ∧ w' = W := fun W => by rw [hy]; exact (cmpI_any a1 b1 W).mono fun e w' ⟨h, h2⟩ => ⟨h, h2.symm⟩
  rw [show cmpS a0 b0 = x from hx.symm, show cmpI a1 b1 = y from hy.symm]
  clear hx hy
  go_enter Try.func30, Try.ntmps30
  go_wp2
  refine wp_region_still_tail 10 (by kernel_rfl) (by kernel_rfl) ?_
  simp only [List.take_succ_cons, List.take_zero, List.drop_succ_cons, List.drop_zero]
  have hf : ∀ W : World, { W with drawn := W.drawn + 1 } = W.drew := fun W => rfl
  rw [hf]
  clear hf
  iterate 4 still_step
  still_call (h1 _)
  iterate 4 still_step
  still_call (h2 _)
  refine wpStill_nil ?_
  have h3 := or_any x y
  clear h1 h2
  go_wp2_with (go_at_call 42; refine (h3 _ _ (by go_simp) (by go_simp)).mono ?_; rintro e w' ⟨rfl, rfl⟩)
  go_ret
  exact ⟨rfl, 1, _, by rw [Sort.alloc_eq_grow, Sort.alloc_eq_grow, Sort.alloc_eq_grow, Sort.grow_grow, Sort.grow_grow]; rfl⟩

/-! ### the order of nodes -/
theorem cmpS_zero {a b : ByteArray} (h : cmpS a b = 0) : a = b := by
  unfold cmpS at h
  split at h
  · cases h
  · rename_i h1
    split at h
    · cases h
    · rename_i h2
      exact ba_ext (bl_tri _ _ (Bool.eq_false_iff.2 h1) (Bool.eq_false_iff.2 h2))
theorem cmpS_self (a : ByteArray) : cmpS a a = 0 := by
  unfold cmpS
  rw [bl_irrefl]
  simp
def lessN (a b : Nd) : Bool := decide (ordN a b < 0)
theorem lessN_iff (a b : Nd) : lessN a b = true ↔ Op.bytesLess a.f0.toList b.f0.toList = true ∨ (a.f0 = b.f0 ∧ a.f1 < b.f1) := by
  unfold lessN ordN orI
  rw [decide_eq_true_iff]
  by_cases h1 : Op.bytesLess a.f0.toList b.f0.toList = true
  · have e : cmpS a.f0 b.f0 = -1 := by unfold cmpS; rw [if_pos h1]
    rw [e]
    simp [h1]
  · by_cases h2 : Op.bytesLess b.f0.toList a.f0.toList = true
    · have e : cmpS a.f0 b.f0 = 1 := by unfold cmpS; rw [if_neg h1, if_pos h2]
      rw [e]
      simp [h1]
      intro e3
      rw [e3, bl_irrefl] at h2
      cases h2
    · have e0 : a.f0 = b.f0 := ba_ext (bl_tri _ _ (Bool.eq_false_iff.2 h1) (Bool.eq_false_iff.2 h2))
      rw [e0, cmpS_self, bl_irrefl]
      unfold cmpI
      simp
      split
      · rename_i h; simp [h]
      · rename_i h
        simp only [h, iff_false]
        split <;> omega
theorem ordN_zero {a b : Nd} : ordN a b = 0 ↔ a = b := by
  constructor
  · intro h
    unfold ordN orI at h
    split at h
    · rename_i h1; exact absurd h h1
    · rename_i h1
      have h2 := cmpS_zero (by simpa using h1)
      obtain ⟨a0, a1⟩ := a
      obtain ⟨b0, b1⟩ := b
      simp only at h2 h
      subst h2
      unfold cmpI at h
      have : a1 = b1 := by
        split at h
        · cases h
        · split at h
          · cases h
          · omega
      rw [this]
  · rintro rfl
    unfold ordN orI
    rw [cmpS_self]
    simp [cmpI]
theorem lessN_irrefl (a : Nd) : lessN a a = false := by
  rw [Bool.eq_false_iff]
  intro h
  rcases (lessN_iff a a).1 h with h | h
  · rw [bl_irrefl] at h; cases h
  · omega
theorem lessN_trans {a b c : Nd} (h1 : lessN a b = true) (h2 : lessN b c = true) : lessN a c = true := by
  rw [lessN_iff] at *
  rcases h1 with h1 | ⟨e1, h1⟩
  · rcases h2 with h2 | ⟨e2, h2⟩
    · exact .inl (bl_trans _ _ _ h1 h2)
    · rw [← e2]; exact .inl h1
  · rcases h2 with h2 | ⟨e2, h2⟩
    · rw [e1]; exact .inl h2
    · exact .inr ⟨e1.trans e2, by omega⟩
theorem lessN_tri {a b : Nd} (h1 : lessN a b = false) (h2 : lessN b a = false) : a = b := by
  rw [Bool.eq_false_iff] at h1 h2
  have k1 := fun h => h1 ((lessN_iff a b).2 h)
  have k2 := fun h => h2 ((lessN_iff b a).2 h)
  have e : a.f0 = b.f0 := ba_ext (bl_tri _ _ (Bool.eq_false_iff.2 fun h => k1 (.inl h)) (Bool.eq_false_iff.2 fun h => k2 (.inl h)))
  have e2 : a.f1 = b.f1 := by
    have h3 : ¬ a.f1 < b.f1 := fun h => k1 (.inr ⟨e, h⟩)
    have h4 : ¬ b.f1 < a.f1 := fun h => k2 (.inr ⟨e.symm, h⟩)
    omega
  obtain ⟨a0, a1⟩ := a
  obtain ⟨b0, b1⟩ := b
  simp only at e e2
  rw [e, e2]
end Go.Proofs.Ytddjhmelniphgaa.Print
