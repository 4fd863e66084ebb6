/- An append onto a slice that has no room ('append(s[:n:n], xs...)'): what is made is read as both rows, one behind the other. -/
import Derived.Test.YtkcjekboakoejaaHVer
import Derived.ArgAppend
namespace Go.Proofs.Ytkcjekboakoejaa.Print
open Go.RowKit Go.Proofs.YtkcjekboakoejaaW.PrintWords Go.Proofs.YtkcjekboakoejaaW.PrintLast
set_option linter.unusedVariables false
set_option linter.unusedSimpArgs false

/-- Nothing is appended: nothing happens. -/
theorem run_append_zero {P : Program} (W : World) (t ty e : TypeId) {i : TypeInfo} (ht : P.underlying t = some (.slice e)) (hi : P.info? e = some i) (A B : Option Addr) (n c c' : Nat) (hc : n ≤ c) :
    (Builtin.append_ #[t, t] ty #[.slice A n c, .slice B 0 c']).run P W = .ok (.slice A n c) W := by
  cases A <;> cases B <;> simp [Builtin.append_, run_underlying ht, sizeOf, typeInfo, hi, Builtin.lenOf, Builtin.firstCells, loadCells, loadCellsFrom, storeCells, hc]

theorem reps_app {α : Type} {R : α → List Value → Prop} {size : Nat} {xs ys : List α} {a b : List Value} (hx : Reps R size xs a) (hy : Reps R size ys b) : Reps R size (xs ++ ys) (a ++ b) := by
  refine ⟨by rw [List.length_append, hx.1, hy.1, List.length_append, Nat.add_mul], fun j q hq => ?_⟩
  rcases Nat.lt_or_ge j xs.length with hj | hj
  · rw [List.getElem?_append_left hj] at hq
    have h1 : j * size + size ≤ a.length := by rw [hx.1, ← Nat.succ_mul]; exact Nat.mul_le_mul_right _ hj
    rw [List.drop_append_of_le_length (by omega), List.take_append_of_le_length (by rw [List.length_drop]; omega)]
    exact hx.2 j q hq
  · rw [List.getElem?_append_right hj] at hq
    have h2 := hy.2 _ q hq
    have e : j * size = a.length + (j - xs.length) * size := by rw [hx.1, ← Nat.add_mul]; congr 1; omega
    rw [e, ← List.drop_drop, List.drop_left]
    exact h2

theorem clip_append {α : Type} (d : Kd α) {P : Program} (t e : TypeId) {i : TypeInfo} {z : Value} {bytes : Nat} (ht : P.underlying t = some (.slice e)) (hi : P.info? e = some i) (hz : i.zero = some z) (hsize : i.size = d.sz) (hby : i.bytes = bytes) (hzs : z.cells.size = d.sz) (h0 : 0 < d.sz)
    (W : World) (b a : Addr) (n m c : Nat) (xs ys : List α) (hn : xs.length = n) (hm : ys.length = m) (hx : d.C W (some b) n xs) (hy : d.C W (some a) m ys) (hl : (n + m) * bytes ≤ 140737488355328) (hl2 : n + m ≤ 1048576 * 2) :
    ∃ x cap w', (∀ ty, (Builtin.append_ #[t, t] ty #[.slice (some b) n n, .slice (some a) m c]).run P W = .ok (.slice (some x) (n + m) cap) w') ∧ n + m ≤ cap ∧ d.C w' (some x) (n + m) (xs ++ ys) ∧ Below W.heap.size W w' ∧ (x = b ∨ W.heap.size ≤ x.block) := by
  by_cases h : m = 0
  · subst h
    obtain rfl : ys = [] := List.eq_nil_of_length_eq_zero hm
    refine ⟨b, n, W, fun ty => run_append_zero W t ty e ht hi _ _ _ _ _ (Nat.le_refl _), Nat.le_refl _, by simpa using hx, Below.refl _ _, .inl rfl⟩
  · obtain ⟨olds, hr1, hc1⟩ := ReadsRow.inner_ hx
    obtain ⟨news, hr2, hc2⟩ := ReadsRow.inner_ hy
    have e1 : olds.length = n * d.sz := by rw [hr1.1, hn]
    have e2 : news.length = m * d.sz := by rw [hr2.1, hm]
    obtain ⟨v', w', hrun, hown, hg⟩ := run_append_arg_grows (P := P) W t t e i z d.sz bytes ht hi hz hsize hby hzs h0 b n n olds e1 hc1 a m c news e2 hc2 (by omega) (by unfold maxLen; omega) hl
    have hb : Below W.heap.size W w' := ⟨hg.os, hg.tape, hg.output, hg.size, fun k hk => hg.block k hk (by simp)⟩
    obtain ⟨g, cap, rfl, hg1, hg2⟩ := hown.form (by omega)
    have hK1 : Reps (d.K w') d.sz xs olds := hr1.imp_ (fun _ _ hp => d.K_below hb hp)
    have hK2 : Reps (d.K w') d.sz ys news := hr2.imp_ (fun _ _ hp => d.K_below hb hp)
    obtain ⟨A2, c2, e3, hread⟩ := own_reads_row hown (reps_app hK1 hK2) (by rw [List.length_append, hn, hm])
    injection e3 with e4 _ e6
    refine ⟨_, _, w', fun ty => (show (Builtin.append_ #[t, t] ty _).run P W = (Builtin.append_ #[t, t] t _).run P W from rfl).trans hrun, own_le hown, ?_, hb, .inr hg1⟩
    rw [e4]
    exact hread

theorem clip_one {α : Type} (d : Kd α) {P : Program} (t e : TypeId) {i : TypeInfo} {z : Value} {bytes : Nat} (ht : P.underlying t = some (.slice e)) (hi : P.info? e = some i) (hz : i.zero = some z) (hsize : i.size = d.sz) (hby : i.bytes = bytes) (hzs : z.cells.size = d.sz) (h0 : 0 < d.sz)
    (W : World) (A : Option Addr) (a : Addr) (n c : Nat) (xs : List α) (y : α) (hn : xs.length = n) (hx : d.C W A n xs) (hy : d.C W (some a) 1 [y]) (hl : (n + 1) * bytes ≤ 140737488355328) (hl2 : n + 1 ≤ 1048576 * 2) :
    ∃ x cap w', (∀ ty, (Builtin.append_ #[t, t] ty #[.slice A n n, .slice (some a) 1 c]).run P W = .ok (.slice (some x) (n + 1) cap) w') ∧ n + 1 ≤ cap ∧ d.C w' (some x) (n + 1) (xs ++ [y]) ∧ Below W.heap.size W w' ∧ W.heap.size ≤ x.block := by
  obtain ⟨news, hr2, hc2⟩ := ReadsRow.inner_ hy
  have e2 : news.length = 1 * d.sz := by rw [hr2.1]; rfl
  have h1 : ∀ u ∈ news, u.oneCell' = true := fun u hu => by
    have := hr2.2 0 y rfl
    simp only [Nat.zero_mul, List.drop_zero] at this
    rw [List.take_of_length_le (by omega)] at this
    exact d.K_one this u hu
  obtain ⟨olds, hr1, v', w', hrun, hown, hg⟩ : ∃ olds, Reps (d.K W) d.sz xs olds ∧ ∃ v' w', (Builtin.append_ #[t, t] t #[.slice A n n, .slice (some a) 1 c]).run P W = .ok v' w' ∧ w'.ownsRow W.heap.size e d.sz v' (n + 1) (olds ++ news) ∧ W.grownBy w' none := by
    cases A with
    | some b =>
      obtain ⟨olds, hr1, hc1⟩ := ReadsRow.inner_ hx
      obtain ⟨v', w', hrun, hown, hg⟩ := run_append_arg_grows (P := P) W t t e i z d.sz bytes ht hi hz hsize hby hzs h0 b n n olds (by rw [hr1.1, hn]) hc1 a 1 c news e2 hc2 (by omega) (by unfold maxLen; omega) hl
      exact ⟨olds, hr1, v', w', hrun, hown, hg⟩
    | none =>
      have hn0 : n = 0 := by
        rcases Nat.eq_zero_or_pos n with h | h
        · exact h
        · obtain ⟨_, h2, _⟩ := hx.2.2 h
          cases h2
      subst hn0
      obtain rfl : xs = [] := List.eq_nil_of_length_eq_zero hn
      obtain ⟨v', w', hrun, r1, r2, _⟩ := run_append_own (P := P) W W.heap.size t t e i z d.sz bytes ht hi hz hsize hby hzs h0 (.slice none 0 0) 0 [] (World.ownsRow_nil W _ e d.sz) a 1 c news e2 hc2 h1 (by unfold maxLen; omega) hl (Nat.le_refl _)
      exact ⟨[], Reps.none _ _, v', w', hrun, r1, by simpa [Value.ownBlock] using r2⟩
  have hb : Below W.heap.size W w' := ⟨hg.os, hg.tape, hg.output, hg.size, fun k hk => hg.block k hk (by simp)⟩
  obtain ⟨g, cap, rfl, hg1, hg2⟩ := hown.form (by omega)
  have hK1 : Reps (d.K w') d.sz xs olds := hr1.imp_ (fun _ _ hp => d.K_below hb hp)
  have hK2 : Reps (d.K w') d.sz [y] news := hr2.imp_ (fun _ _ hp => d.K_below hb hp)
  obtain ⟨A2, c2, e3, hread⟩ := own_reads_row hown (reps_app hK1 hK2) (by rw [List.length_append, hn]; rfl)
  injection e3 with e4 _ e6
  refine ⟨_, _, w', fun ty => (show (Builtin.append_ #[t, t] ty _).run P W = (Builtin.append_ #[t, t] t _).run P W from rfl).trans hrun, own_le hown, ?_, hb, hg1⟩
  rw [e4]
  exact hread

/-- A store into another block leaves versions as they are read. -/
theorem c_set {w : World} {A : Option Addr} {n : Nat} {xs : List V30} (h : Kd.C k30 w A n xs) {g j : Nat} (hf : ∀ ad, A = some ad → 0 < n → ad.block ≠ g) (u : Value) : Kd.C k30 (w.setCell ⟨g, j, none⟩ u) A n xs :=
  Kd.C_foot_ne (fun h => h) h hf _ (KeepBut.set_ (KeepBut.refl _ _ _) _ _)

/-- An append whose run is known, as one step of a region that draws its order. -/
theorem step_append_run {P : Program} {ops : Array Oper} {o : Oper} {a : Act} {w w1 : World} {K : Act → World → Prop} {Q : Exit → Act → World → Prop} {E : Prop}
    (hg : o.guard = none) (s x : Operand) (t : TypeId) (hop : o.op = Op.call { callee := Callee.builtin Builtin.append, args := #[s, x], argTypes := #[t, t] }) (v u v1 : Value) (hs : a.eval s = v) (hx : a.eval x = u)
    (hrun : ∀ ty, (Builtin.append_ #[t, t] ty #[v, u]).run P w = .ok v1 w1) (hK : K (a.put o.dst v1) w1) :
    if Region.wanted o (yielded ops a.tmps) = true then Oper.wp P o a w K Q else E := by
  have hw : Region.wanted o (yielded ops a.tmps) = true := by simp [Region.wanted, hg]
  rw [if_pos hw]
  unfold Oper.wp
  simp [execOp, hop, resolve, invoke, builtin, hs, hx, hrun, Result.andThen]
  exact hK
end Go.Proofs.Ytkcjekboakoejaa.Print
