/- Plain law: which subjects may be; the reference's two loops are what the program's one pass comes to. -/
import Derived.Test.YtkcjekboakoejaaQName18
import Derived.Test.YtkcjekboakoejaaPrint4
namespace Go.Proofs.Ytkcjekboakoejaa.Print
open Go.RowKit Go.Proofs.YtkcjekboakoejaaW.PrintWords Go.Proofs.YtkcjekboakoejaaW.PrintLast
set_option linter.unusedVariables false
set_option linter.unusedSimpArgs false

theorem rd_nat (l : List V30) (j : Nat) (h : j < l.length) : rd_T30 l (j : Int) = l[j] := by simp [rd_T30, List.getD_eq_getElem?_getD, List.getElem?_eq_getElem h]
theorem drop_at (l : List V30) (j : Nat) (h : j < l.length) : l.drop j = l[j] :: l.drop (j + 1) := List.drop_eq_getElem_cons h
theorem fold_false (next : Int) : ∀ (l : List V30) (st : Bool × Int × List Int), st.1 = false → (l.foldl (mayStep next) st).1 = false := by
  intro l
  induction l with
  | nil => intro st h; exact h
  | cons x r ih =>
    intro st h
    exact ih _ (by simp [mayStep, h])

def clash (l : List V30) (i m : Nat) (v : V30) : Bool := ((l.take i).drop m).any fun u => !v.f2 && (!u.f2 && (u.f1 == v.f1))

theorem may_inner (a0 : ByteArray) (a1 : Int) (l : List V30) (hl : l.length ≤ 1048576) (v : V30) (i : Nat) (hi : i ≤ l.length) (r : Int) (d : Nat) : ∀ m, m ≤ i → i - m = d →
    (clash l i m v = false → Ev (fun k => codicilref18_May.l0 k (wrap64 ((i : Int) + 1)) a0 a1 l) r) → (clash l i m v = true → r = 8) →
    Ev (fun k => codicilref18_May.l1 k (i : Int) (m : Int) a0 a1 l v.f0 v.f1 v.f2) r := by
  induction d with
  | zero =>
    intro m hm hd h1 h2
    refine Ev.step (fun k => ?_) (h1 ?_)
    · simp only [codicilref18_May.l1]
      rw [if_neg (by omega)]
    · simp only [clash]
      rw [List.drop_eq_nil_of_le (by simp; omega)]
      rfl
  | succ d ih =>
    intro m hm hd h1 h2
    have hlt : m < l.length := by omega
    have hc : clash l i m v = ((!v.f2 && (!(l[m]).f2 && ((l[m]).f1 == v.f1))) || clash l i (m + 1) v) := by
      simp only [clash]
      rw [List.drop_eq_getElem_cons (by simp; omega), List.any_cons, List.getElem_take]
    have e1 : (m : Int) < (i : Int) := by omega
    have e2 : (0 : Int) ≤ (m : Int) := by omega
    have e3 : (m : Int) < (l.length : Int) := by omega
    have hw : wrap64 ((m : Int) + 1) = ((m + 1 : Nat) : Int) := wrap_nat (by omega)
    cases hv : v.f2 with
    | true =>
      rw [hv] at hc ih
      have hc' : clash l i m v = clash l i (m + 1) v := by rw [hc]; simp
      refine Ev.step (fun k => ?_) (ih (m + 1) (by omega) (by omega) (fun h => h1 (by rw [hc', h])) (fun h => h2 (by rw [hc', h])))
      simp only [codicilref18_May.l1]
      rw [if_pos e1, if_pos trivial, hw]
    | false =>
      rw [hv] at hc ih
      cases hu : (l[m]).f2 with
      | true =>
        rw [hu] at hc
        have hc' : clash l i m v = clash l i (m + 1) v := by rw [hc]; simp
        refine Ev.step (fun k => ?_) (ih (m + 1) (by omega) (by omega) (fun h => h1 (by rw [hc', h])) (fun h => h2 (by rw [hc', h])))
        simp only [codicilref18_May.l1]
        rw [if_pos e1, if_neg (by decide), if_pos e2, if_pos e3, rd_nat l m hlt, hu, if_pos rfl, hw]
      | false =>
        rw [hu] at hc
        by_cases hf : (l[m]).f1 = v.f1
        · rw [h2 (by rw [hc]; simp [hf])]
          refine Ev.step (f := fun _ => some 8) (fun k => ?_) (Ev.now _)
          simp only [codicilref18_May.l1]
          rw [if_pos e1, if_neg (by decide), if_pos e2, if_pos e3, rd_nat l m hlt, hu, if_neg (by decide), if_pos hf]
        · have hc' : clash l i m v = clash l i (m + 1) v := by rw [hc]; simp [hf]
          refine Ev.step (fun k => ?_) (ih (m + 1) (by omega) (by omega) (fun h => h1 (by rw [hc', h])) (fun h => h2 (by rw [hc', h])))
          simp only [codicilref18_May.l1]
          rw [if_pos e1, if_neg (by decide), if_pos e2, if_pos e3, rd_nat l m hlt, hu, if_neg (by decide), if_neg hf, hw]

theorem may_outer (a0 : ByteArray) (a1 : Int) (l : List V30) (hl : l.length ≤ 1048576) (d : Nat) : ∀ (i : Nat) (st : Bool × Int × List Int), i ≤ l.length → l.length - i = d → st.1 = true → 0 ≤ st.2.1 →
    (∀ h : i - 1 < l.length, 0 < i → st.2.1 = (l[i - 1]).f0) → (i = 0 → st.2.1 = 0) → (∀ id, st.2.2.contains id = (l.take i).any (fun u => !u.f2 && (u.f1 == id))) →
    Ev (fun k => codicilref18_May.l0 k (i : Int) a0 a1 l) (mayE ((l.drop i).foldl (mayStep a1) st).1) := by
  induction d with
  | zero =>
    intro i st hi hd h0 hs h1 h2 h3
    rw [List.drop_eq_nil_of_le (by omega)]
    refine Ev.step (f := fun _ => some _) (fun k => ?_) (Ev.now _)
    simp only [codicilref18_May.l0]
    rw [if_neg (by omega)]
    simp [mayE, h0]
  | succ d ih =>
    intro i st hi hd h0 hs h1 h2 h3
    have hlt : i < l.length := by omega
    have e1 : (i : Int) < (l.length : Int) := by omega
    have e2 : (0 : Int) ≤ (i : Int) := by omega
    have hw : wrap64 ((i : Int) + 1) = ((i + 1 : Nat) : Int) := wrap_nat (by omega)
    rw [drop_at l i hlt, List.foldl_cons]
    generalize hv : l[i] = v at *
    have hr := rd_nat l i hlt
    rw [hv] at hr
    have bad : ∀ x : Bool, (mayStep a1 st v).1 = false → Ev (fun k => codicilref18_May.j2 k (i : Int) true a0 a1 l v.f0 v.f1 v.f2) (mayE ((l.drop (i + 1)).foldl (mayStep a1) (mayStep a1 st v)).1) := fun _ hb => by
      rw [fold_false a1 _ _ hb]
      exact Ev.step (f := fun _ => some _) (fun k => by simp only [codicilref18_May.j2]; rw [if_pos trivial]; rfl) (Ev.now _)
    have good : st.2.1 < v.f0 → v.f0 < a1 → v.f1 ≠ 0 → Ev (fun k => codicilref18_May.j2 k (i : Int) false a0 a1 l v.f0 v.f1 v.f2) (mayE ((l.drop (i + 1)).foldl (mayStep a1) (mayStep a1 st v)).1) := fun g1 g2 g3 => by
      refine Ev.step (f := fun k => codicilref18_May.l1 k (i : Int) ((0 : Nat) : Int) a0 a1 l v.f0 v.f1 v.f2) (fun k => by simp only [codicilref18_May.j2]; rw [if_neg (by decide)]; rfl) ?_
      have hcl : clash l i 0 v = (!v.f2 && st.2.2.contains v.f1) := by
        rw [h3]
        simp only [clash, List.drop_zero]
        cases v.f2 <;> simp
      refine may_inner a0 a1 l hl v i (by omega) _ i 0 (by omega) (by omega) (fun hc => ?_) (fun hc => ?_)
      · rw [hcl] at hc
        rw [hw]
        have hst : (mayStep a1 st v).1 = true := by
          simp only [mayStep, h0, g1, g2, decide_true, Bool.true_and, Bool.and_eq_true, Bool.not_eq_true', beq_eq_false_iff_ne, ne_eq, Bool.or_eq_true]
          refine ⟨g3, ?_⟩
          revert hc
          cases v.f2 <;> simp
        refine ih (i + 1) _ (by omega) (by omega) hst (by simp only [mayStep]; omega) (fun h _ => ?_) (fun h => by omega) (fun id => ?_)
        · simp only [mayStep, Nat.add_sub_cancel, hv]
        · rw [List.take_succ_eq_append_getElem hlt, List.any_append, hv]
          simp only [mayStep, List.any_cons, List.any_nil, Bool.or_false]
          rw [← h3]
          cases hf : v.f2 with
          | true => simp
          | false =>
            simp only [Bool.not_false, Bool.true_and]
            rw [if_neg (by decide), List.contains_cons, Bool.or_comm, Bool.beq_comm (a := id)]
      · rw [hcl] at hc
        have hst : (mayStep a1 st v).1 = false := by
          simp only [Bool.and_eq_true, Bool.not_eq_true'] at hc
          simp only [mayStep, hc.1, hc.2]
          simp
        rw [fold_false a1 _ _ hst]
        rfl
    by_cases c1 : v.f0 < 1
    · refine Ev.step (fun k => ?_) (bad true ?_)
      · simp only [codicilref18_May.l0]
        rw [if_pos e1, if_pos e2, hr, if_pos c1]
      · have : ¬ st.2.1 < v.f0 := by omega
        simp [mayStep, this]
    by_cases c2 : v.f0 ≥ a1
    · refine Ev.step (fun k => ?_) (bad true ?_)
      · simp only [codicilref18_May.l0]
        rw [if_pos e1, if_pos e2, hr, if_neg c1, if_pos c2]
      · have : ¬ v.f0 < a1 := by omega
        simp [mayStep, this]
    by_cases c3 : v.f1 = 0
    · refine Ev.step (fun k => ?_) (bad true ?_)
      · simp only [codicilref18_May.l0]
        rw [if_pos e1, if_pos e2, hr, if_neg c1, if_neg c2, if_pos c3]
      · simp [mayStep, c3]
    by_cases c4 : 0 < i
    · have hw' : wrap64 ((i : Int) - 1) = ((i - 1 : Nat) : Int) := by unfold wrap64; omega
      have hlast := h1 (by omega) c4
      have hr' := rd_nat l (i - 1) (by omega)
      have hstep : ∀ k, codicilref18_May.l0 (k + 1) (i : Int) a0 a1 l = codicilref18_May.j2 k (i : Int) (decide (st.2.1 ≥ v.f0)) a0 a1 l v.f0 v.f1 v.f2 := fun k => by
        simp only [codicilref18_May.l0]
        rw [if_pos e1, if_pos e2, hr, if_neg c1, if_neg c2, if_neg c3, if_pos (by omega), hw', if_pos (by omega), if_pos (by omega), hr', ← hlast]
      by_cases c5 : st.2.1 < v.f0
      · refine Ev.step (fun k => ?_) (good c5 (by omega) c3)
        rw [hstep k]
        have : ¬ st.2.1 ≥ v.f0 := by omega
        simp only [this, decide_false]
      · refine Ev.step (fun k => ?_) (bad true ?_)
        · rw [hstep k]
          have : st.2.1 ≥ v.f0 := by omega
          simp only [this, decide_true]
        · simp [mayStep, c5]
    · have hz := h2 (by omega)
      refine Ev.step (fun k => ?_) (good (by omega) (by omega) c3)
      simp only [codicilref18_May.l0]
      rw [if_pos e1, if_pos e2, hr, if_neg c1, if_neg c2, if_neg c3, if_neg (by omega)]

theorem rmay_ev (a0 : ByteArray) (a1 : Int) (l : List V30) (h0 : a0.size ≤ 1048576) (hl : l.length ≤ 1048576) : Ev (fun k => codicilref18_May.f k a0 a1 l) (mayE (mayB a0 a1 l)) := by
  have hm : mayB a0 a1 l = (l.foldl (mayStep a1) (headB a0 a1 l.length, 0, [])).1 := by
    unfold mayB mayAt
    rw [List.take_length]
  have jb : headB a0 a1 l.length = false → ∀ g, Ev (fun k => codicilref18_May.j0 k true a0 a1 l) g → mayE (mayB a0 a1 l) = g := fun hh g hg => by
    rw [hm, fold_false a1 _ _ hh]
    have h8 : Ev (fun k => codicilref18_May.j0 k true a0 a1 l) 8 := Ev.step (f := fun _ => some _) (fun k => by simp only [codicilref18_May.j0]; rw [if_pos trivial]) (Ev.now _)
    obtain ⟨K, hK⟩ := h8
    obtain ⟨K', hK'⟩ := hg
    have := (hK (max K K') (Nat.le_max_left _ _)).symm.trans (hK' (max K K') (Nat.le_max_right _ _))
    exact Option.some.inj this
  have h8 : Ev (fun k => codicilref18_May.j0 k true a0 a1 l) 8 := Ev.step (f := fun _ => some _) (fun k => by simp only [codicilref18_May.j0]; rw [if_pos trivial]) (Ev.now _)
  have bad : headB a0 a1 l.length = false → Ev (fun k => codicilref18_May.j0 k true a0 a1 l) (mayE (mayB a0 a1 l)) := fun hh => by
    rw [jb hh 8 h8]
    exact h8
  unfold codicilref18_May.f
  refine Ev.bind (rname_ev a0 h0) ?_
  cases hn : nameB a0 with
  | false =>
    simp only [Bool.false_eq_true, if_false]
    exact bad (by simp [headB, hn])
  | true =>
    simp only [if_true]
    by_cases c1 : a1 < 1
    · simp only [c1, if_true]
      have : ¬ 1 ≤ a1 := by omega
      exact bad (by simp [headB, this])
    simp only [c1, if_false]
    by_cases c2 : a1 > 1073741824
    · simp only [c2, if_true]
      have : ¬ a1 ≤ 1073741824 := by omega
      exact bad (by simp [headB, this])
    simp only [c2, if_false]
    by_cases c3 : (l.length : Int) > 64
    · simp only [c3, decide_true]
      have : ¬ l.length ≤ 64 := by omega
      exact bad (by simp [headB, this])
    simp only [c3, decide_false]
    have hh : headB a0 a1 l.length = true := by
      have d1 : 1 ≤ a1 := by omega
      have d2 : a1 ≤ 1073741824 := by omega
      have d3 : l.length ≤ 64 := by omega
      simp [headB, hn, d1, d2, d3]
    rw [hm, hh]
    refine Ev.step (f := fun k => codicilref18_May.l0 k ((0 : Nat) : Int) a0 a1 l) (fun k => by simp only [codicilref18_May.j0]; rw [if_neg (by decide)]; rfl) ?_
    have := may_outer a0 a1 l hl l.length 0 (true, 0, []) (by omega) (by omega) rfl (by decide) (fun _ h => absurd h (by decide)) (fun _ => rfl) (fun id => rfl)
    simpa using this
end Go.Proofs.Ytkcjekboakoejaa.Print
