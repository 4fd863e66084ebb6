/- Plain laws of the subject's functions: what the references' loops come to is what the program's plain functions are. -/
import Derived.Test.YtkcjekboakoejaaQMay18
import Derived.Test.YtkcjekboakoejaaPrint2
import Derived.Test.YtkcjekboakoejaaPrint5
import Derived.Test.YtkcjekboakoejaaPrint6
import Derived.Test.YtkcjekboakoejaaPrint7
namespace Go.Proofs.Ytkcjekboakoejaa.Print
open Go.RowKit Go.Proofs.YtkcjekboakoejaaW.PrintWords Go.Proofs.YtkcjekboakoejaaW.PrintLast
set_option linter.unusedVariables false
set_option linter.unusedSimpArgs false

def live (l : List V30) : List V30 := l.filter (fun v => !v.f2)
theorem live_t {x : V30} {r : List V30} (h : x.f2 = true) : live (x :: r) = live r := List.filter_cons_of_neg (by simp [h])
theorem live_f {x : V30} {r : List V30} (h : x.f2 = false) : live (x :: r) = x :: live r := List.filter_cons_of_pos (by simp [h])
theorem firstP_cons (p : V30 → Bool) {x : V30} {r : List V30} (h : p x = true) : firstP p (x :: r) = (x, true) := by
  have : idxP p (x :: r) 0 = 0 := by simp only [idxP]; rw [if_pos h]
  unfold firstP
  rw [this]
  rfl

theorem live_loop (l : List V30) (hl : l.length ≤ 1048576) (d : Nat) : ∀ (k j : Nat) (acc : List V30), j ≤ l.length → l.length - j = d → d < k → acc.length ≤ j →
    subject_Live.l0 k acc l (l.length : Int) (j : Int) = some (acc ++ live (l.drop j)) := by
  induction d with
  | zero =>
    intro k j acc hj hd hk ha
    obtain ⟨k, rfl⟩ : ∃ m, k = m + 1 := ⟨k - 1, by omega⟩
    simp only [subject_Live.l0]
    rw [if_neg (by omega), List.drop_eq_nil_of_le (by omega)]
    simp [live]
  | succ d ih =>
    intro k j acc hj hd hk ha
    obtain ⟨k, rfl⟩ : ∃ m, k = m + 1 := ⟨k - 1, by omega⟩
    have hlt : j < l.length := by omega
    simp only [subject_Live.l0]
    rw [if_pos (by omega), if_pos (by omega), if_pos (by omega), rd_nat l j hlt, wrap_nat (by omega), drop_at l j hlt]
    cases hs : (l[j]).f2 with
    | true =>
      rw [if_pos rfl, ih k (j + 1) acc (by omega) (by omega) (by omega) (by omega), live_t hs]
    | false =>
      rw [if_neg (by decide), if_pos (by omega)]
      have hv : (⟨(l[j]).f0, (l[j]).f1, false⟩ : V30) = l[j] := by rw [← hs]
      rw [hv, ih k (j + 1) (acc ++ [l[j]]) (by omega) (by omega) (by omega) (by simp; omega), live_f hs, List.append_assoc, List.singleton_append]
theorem live_ev (a0 : ByteArray) (a1 : Int) (l : List V30) (hl : l.length ≤ 1048576) : Ev (fun k => subject_Live.f k a0 a1 l) (live l) :=
  ⟨l.length + 1, fun k hk => by
    have := live_loop l hl l.length k 0 [] (by omega) (by omega) (by omega) (by simp)
    simpa [subject_Live.f] using this⟩
theorem rlive_loop (a0 : ByteArray) (a1 : Int) (l : List V30) (hl : l.length ≤ 1048576) (d : Nat) : ∀ (k j : Nat) (acc : List V30), j ≤ l.length → l.length - j = d → d < k → acc.length ≤ j →
    codicilref18_Live.l0 k acc (j : Int) a0 a1 l = some (acc ++ live (l.drop j)) := by
  induction d with
  | zero =>
    intro k j acc hj hd hk ha
    obtain ⟨k, rfl⟩ : ∃ m, k = m + 1 := ⟨k - 1, by omega⟩
    simp only [codicilref18_Live.l0]
    rw [if_neg (by omega), List.drop_eq_nil_of_le (by omega)]
    simp [live]
  | succ d ih =>
    intro k j acc hj hd hk ha
    obtain ⟨k, rfl⟩ : ∃ m, k = m + 1 := ⟨k - 1, by omega⟩
    have hlt : j < l.length := by omega
    simp only [codicilref18_Live.l0]
    rw [if_pos (by omega), if_pos (by omega), rd_nat l j hlt, wrap_nat (by omega), drop_at l j hlt]
    cases hs : (l[j]).f2 with
    | true =>
      rw [if_pos rfl, ih k (j + 1) acc (by omega) (by omega) (by omega) (by omega), live_t hs]
    | false =>
      rw [if_neg (by decide), if_pos (by omega)]
      have hv : (⟨(l[j]).f0, (l[j]).f1, false⟩ : V30) = l[j] := by rw [← hs]
      rw [hv, ih k (j + 1) (acc ++ [l[j]]) (by omega) (by omega) (by omega) (by simp; omega), live_f hs, List.append_assoc, List.singleton_append]
theorem rlive_ev (a0 : ByteArray) (a1 : Int) (l : List V30) (hl : l.length ≤ 1048576) : Ev (fun k => codicilref18_Live.f k a0 a1 l) (live l) :=
  ⟨l.length + 1, fun k hk => by
    have := rlive_loop a0 a1 l hl l.length k 0 [] (by omega) (by omega) (by omega) (by simp)
    simpa [codicilref18_Live.f] using this⟩

/-- firstP by List.find?. -/
theorem firstP_find (p : V30 → Bool) (l : List V30) : firstP p l = match l.find? p with | some x => (x, true) | none => (z30, false) := by
  have key : ∀ (l pre : List V30), (idxP p l pre.length = -1 ∧ l.find? p = none) ∨ (∃ j x, idxP p l pre.length = ((pre.length + j : Nat) : Int) ∧ l[j]? = some x ∧ l.find? p = some x) := by
    intro l
    induction l with
    | nil => intro pre; exact .inl ⟨rfl, rfl⟩
    | cons x r ih =>
      intro pre
      by_cases h : p x = true
      · exact .inr ⟨0, x, by simp [idxP, h], rfl, by simp [List.find?, h]⟩
      · have e : ((pre.length : Int) + 1) = (((pre ++ [x]).length : Nat) : Int) := by simp
        rcases ih (pre ++ [x]) with ⟨h1, h2⟩ | ⟨j, y, h1, h2, h3⟩
        · refine .inl ⟨?_, ?_⟩
          · simp only [idxP]; rw [if_neg h, e]; exact h1
          · rw [List.find?_cons_of_neg h]; exact h2
        · refine .inr ⟨j + 1, y, ?_, by simpa using h2, ?_⟩
          · simp only [idxP]; rw [if_neg h, e, h1]; simp; omega
          · rw [List.find?_cons_of_neg h]; exact h3
  rcases key l [] with ⟨h1, h2⟩ | ⟨j, x, h1, h2, h3⟩
  · simp only [List.length_nil, Int.natCast_zero] at h1
    unfold firstP
    rw [h1, h2, if_neg (by decide)]
  · simp only [List.length_nil, Int.natCast_zero, Nat.zero_add] at h1
    unfold firstP
    rw [h1, h3, if_pos (by omega)]
    have hj := (List.getElem?_eq_some_iff.1 h2).1
    rw [rd_nat l j hj]
    rw [List.getElem?_eq_getElem hj] at h2
    rw [Option.some.inj h2]
theorem firstP_live (id : Int) (l : List V30) : firstP (fun x => !x.f2 && (x.f1 == id)) l = firstP (fun x => x.f1 == id) (live l) := by
  rw [firstP_find, firstP_find, live, List.find?_filter]
  congr 2
  funext a
  rw [Bool.eq_iff_iff]
  simp

def tup (p : V30 × Bool) : Int × Int × Bool × Bool := (p.1.f0, p.1.f1, p.1.f2, p.2)
theorem has_loop (id : Int) (l : List V30) (hl : l.length ≤ 1048576) (d : Nat) : ∀ j, j ≤ l.length → l.length - j = d →
    Ev (fun k => codicilref18_Has.l0 k id l (j : Int)) (tup (firstP (fun x => x.f1 == id) (l.drop j))) := by
  induction d with
  | zero =>
    intro j hj hd
    rw [List.drop_eq_nil_of_le (by omega)]
    refine Ev.step (f := fun _ => some _) (fun k => ?_) (Ev.now _)
    simp only [codicilref18_Has.l0]
    rw [if_neg (by omega)]
    rfl
  | succ d ih =>
    intro j hj hd
    have hlt : j < l.length := by omega
    rw [drop_at l j hlt]
    by_cases h : (l[j]).f1 = id
    · rw [firstP_cons _ (by simpa using h)]
      refine Ev.step (f := fun _ => some _) (fun k => ?_) (Ev.now _)
      simp only [codicilref18_Has.l0]
      rw [if_pos (by omega), if_pos (by omega), rd_nat l j hlt, if_pos h]
      rfl
    · refine Ev.step (fun k => ?_) (Ev.congr (fun k => rfl) (?_ : Ev (fun k => codicilref18_Has.l0 k id l ((j + 1 : Nat) : Int)) _))
      · simp only [codicilref18_Has.l0]
        rw [if_pos (by omega), if_pos (by omega), rd_nat l j hlt, if_neg h, wrap_nat (by omega)]
      · have := ih (j + 1) (by omega) (by omega)
        rw [firstP_find] at this
        rw [firstP_find, List.find?_cons_of_neg (by simpa using h)]
        exact this
theorem live_len (l : List V30) : (live l).length ≤ l.length := List.length_filter_le _ _
theorem rhas_ev (a0 : ByteArray) (a1 : Int) (l : List V30) (id : Int) (hl : l.length ≤ 1048576) : Ev (fun k => codicilref18_Has.f k a0 a1 l id) (tup (firstP (fun x => !x.f2 && (x.f1 == id)) l)) := by
  rw [firstP_live]
  unfold codicilref18_Has.f
  refine Ev.bind (rlive_ev a0 a1 l hl) ?_
  have := has_loop id (live l) (Nat.le_trans (live_len l) hl) (live l).length 0 (by omega) (by omega)
  simpa using this
theorem at_loop (n : Int) (a0 : ByteArray) (a1 : Int) (l : List V30) (hl : l.length ≤ 1048576) (d : Nat) : ∀ j, j ≤ l.length → l.length - j = d →
    Ev (fun k => codicilref18_at.l0 k n (j : Int) a0 a1 l) (idxP (fun x => x.f0 == n) (l.drop j) (j : Int)) := by
  induction d with
  | zero =>
    intro j hj hd
    rw [List.drop_eq_nil_of_le (by omega)]
    refine Ev.step (f := fun _ => some _) (fun k => ?_) (Ev.now _)
    simp only [codicilref18_at.l0]
    rw [if_neg (by omega)]
    rfl
  | succ d ih =>
    intro j hj hd
    have hlt : j < l.length := by omega
    rw [drop_at l j hlt]
    simp only [idxP]
    by_cases h : (l[j]).f0 = n
    · rw [if_pos (by simpa using h)]
      refine Ev.step (f := fun _ => some _) (fun k => ?_) (Ev.now _)
      simp only [codicilref18_at.l0]
      rw [if_pos (by omega), if_pos (by omega), rd_nat l j hlt, if_pos h]
    · rw [if_neg (by simpa using h)]
      refine Ev.step (fun k => ?_) (ih (j + 1) (by omega) (by omega))
      simp only [codicilref18_at.l0]
      rw [if_pos (by omega), if_pos (by omega), rd_nat l j hlt, if_neg h, wrap_nat (by omega)]
theorem at_ev (n : Int) (a0 : ByteArray) (a1 : Int) (l : List V30) (hl : l.length ≤ 1048576) : Ev (fun k => codicilref18_at.f k a0 a1 l n) (idxP (fun x => x.f0 == n) l 0) := by
  have := at_loop n a0 a1 l hl l.length 0 (by omega) (by omega)
  simpa [codicilref18_at.f] using this
theorem idx_range (p : V30 → Bool) : ∀ (l : List V30) (i : Int), 0 ≤ i → idxP p l i = -1 ∨ (i ≤ idxP p l i ∧ idxP p l i < i + l.length) := by
  intro l
  induction l with
  | nil => intro i _; exact .inl rfl
  | cons x r ih =>
    intro i hi
    simp only [idxP]
    split
    · exact .inr ⟨Int.le_refl _, by simp; omega⟩
    · rcases ih (i + 1) (by omega) with h | ⟨h1, h2⟩
      · exact .inl h
      · exact .inr ⟨by omega, by simp only [List.length_cons]; omega⟩
theorem copy_is (a0 : ByteArray) (a1 : Int) (l : List V30) (hl : l.length ≤ 1048576) : codicilref18_Copy.f a0 a1 l = some (a0, a1, l) := by
  unfold codicilref18_Copy.f
  simp only [Option.bind_some, List.length_nil, List.nil_append]
  rw [if_pos (by omega)]
theorem may_if {α : Type} (b : Bool) (x y : α) : (if mayE b = 0 then x else y) = if b = true then x else y := by cases b <;> rfl
theorem radd_ev (a0 : ByteArray) (a1 : Int) (l : List V30) (id : Int) (h0 : a0.size ≤ 1048576) (hl : l.length ≤ 1048576) (hf : fitB l = true) :
    ∃ A, subject_Add.f a0 a1 l id = some A ∧ Ev (fun k => codicilref18_Add.f k a0 a1 l id) A := by
  refine ⟨_, by unfold subject_Add.f; rw [if_pos hf], ?_⟩
  unfold codicilref18_Add.f
  refine Ev.bind (rmay_ev a0 a1 l h0 hl) ?_
  simp only [may_if]
  cases hm : mayB a0 a1 l with
  | false => exact Ev.now _
  | true =>
    have hn := mayB_next hm
    simp only [if_true, addP]
    by_cases c1 : id = 0
    · subst c1
      exact Ev.now _
    · simp only [c1, if_false]
      refine Ev.bind (rhas_ev a0 a1 l id hl) ?_
      generalize firstP (fun x => !x.f2 && (x.f1 == id)) l = p
      obtain ⟨x, is⟩ := p
      cases is with
      | true => exact Ev.now _
      | false =>
        simp only [tup, Bool.false_eq_true, if_false]
        by_cases c2 : (l.length : Int) ≥ 64
        · have : 64 ≤ l.length := by omega
          simp only [c2, if_true, this, true_or]
          exact Ev.now _
        · have d2 : ¬ 64 ≤ l.length := by omega
          by_cases c3 : a1 ≥ 1073741824
          · have : 1073741824 ≤ a1 := by omega
            simp only [c2, if_false, c3, if_true, this, or_true]
            exact Ev.now _
          · have d3 : ¬ 1073741824 ≤ a1 := by omega
            have hw : wrap64 (a1 + 1) = a1 + 1 := by unfold wrap64; omega
            simp only [c2, c3, if_false, d2, d3, or_self, copy_is a0 a1 l hl, Option.bind_some, hw]
            have : l.length < 8796093022208 := by omega
            simp only [this, if_true]
            exact Ev.now _
theorem rsoft_ev (a0 : ByteArray) (a1 : Int) (l : List V30) (n : Int) (h0 : a0.size ≤ 1048576) (hl : l.length ≤ 1048576) (hf : fitB l = true) :
    ∃ A, subject_Soft.f a0 a1 l n = some A ∧ Ev (fun k => codicilref18_Soft.f k a0 a1 l n) A := by
  refine ⟨_, by unfold subject_Soft.f; rw [if_pos hf], ?_⟩
  unfold codicilref18_Soft.f
  refine Ev.bind (rmay_ev a0 a1 l h0 hl) ?_
  simp only [may_if]
  cases hm : mayB a0 a1 l with
  | false => exact Ev.now _
  | true =>
    simp only [if_true]
    refine Ev.bind (at_ev n a0 a1 l hl) ?_
    unfold placeP
    rw [if_neg (Bool.noConfusion : ¬ true = false)]
    have hr := idx_range (fun x => x.f0 == n) l 0 (by decide)
    generalize idxP (fun x => x.f0 == n) l 0 = i at hr ⊢
    by_cases c1 : i < 0
    · simp only [c1, if_true]
      exact Ev.now _
    · have d1 : 0 ≤ i := by omega
      have d2 : i < (l.length : Int) := by omega
      simp only [c1, if_false, d1, d2, if_true]
      cases hs : (rd_T30 l i).f2 with
      | true => exact Ev.now _
      | false =>
        simp only [Bool.false_eq_true, if_false, copy_is a0 a1 l hl, Option.bind_some, d2, if_true]
        exact Ev.now _
theorem rhard_ev (a0 : ByteArray) (a1 : Int) (l : List V30) (n : Int) (h0 : a0.size ≤ 1048576) (hl : l.length ≤ 1048576) (hf : fitB l = true) :
    ∃ A, subject_Hard.f a0 a1 l n = some A ∧ Ev (fun k => codicilref18_Hard.f k a0 a1 l n) A := by
  refine ⟨_, by unfold subject_Hard.f; rw [if_pos hf], ?_⟩
  unfold codicilref18_Hard.f
  refine Ev.bind (rmay_ev a0 a1 l h0 hl) ?_
  simp only [may_if]
  cases hm : mayB a0 a1 l with
  | false => exact Ev.now _
  | true =>
    simp only [if_true]
    refine Ev.bind (at_ev n a0 a1 l hl) ?_
    unfold placeP
    rw [if_neg (Bool.noConfusion : ¬ true = false)]
    have hr := idx_range (fun x => x.f0 == n) l 0 (by decide)
    generalize idxP (fun x => x.f0 == n) l 0 = i at hr ⊢
    by_cases c1 : i < 0
    · simp only [c1, if_true]
      exact Ev.now _
    · have d1 : 0 ≤ i := by omega
      have d2 : i < (l.length : Int) := by omega
      have d3 : i ≤ (l.length : Int) := by omega
      simp only [c1, if_false, d1, d2, if_true]
      cases hs : (rd_T30 l i).f2 with
      | false => exact Ev.now _
      | true =>
        have hw : wrap64 (i + 1) = i + 1 := by unfold wrap64; omega
        have d4 : 0 ≤ i + 1 := by omega
        have d5 : i + 1 ≤ (l.length : Int) := by omega
        have e5 : (i + 1).toNat = i.toNat + 1 := by omega
        have d6 : (l.take i.toNat).length < 8796093022208 := by rw [List.length_take]; omega
        have d7 : (l.take i.toNat).length + (l.drop (i.toNat + 1)).length < 8796093022208 := by rw [List.length_take, List.length_drop]; omega
        simp only [if_true, d3, Option.bind_some, List.length_nil, Nat.zero_add, List.nil_append, d6, hw, d4, d5, e5, d7]
        exact Ev.now _
theorem rsame_loop (a0 b0 : ByteArray) (a1 b1 : Int) (l : List V30) (hl : l.length ≤ 1048576) (d : Nat) : ∀ j, j ≤ l.length → l.length - j = d →
    Ev (fun k => codicilref18_Same.l0 k (j : Int) a0 a1 l b0 b1 l) true := by
  induction d with
  | zero =>
    intro j hj hd
    refine Ev.step (f := fun _ => some _) (fun k => ?_) (Ev.now _)
    simp only [codicilref18_Same.l0]
    rw [if_neg (by omega)]
  | succ d ih =>
    intro j hj hd
    refine Ev.step (fun k => ?_) (ih (j + 1) (by omega) (by omega))
    simp only [codicilref18_Same.l0]
    rw [if_pos (by omega), if_pos (by omega), if_pos (by omega), if_neg (by simp), wrap_nat (by omega)]
theorem rsame_ev (a0 : ByteArray) (a1 : Int) (l : List V30) (hl : l.length ≤ 1048576) : Ev (fun k => codicilref18_Same.f k a0 a1 l a0 a1 l) true := by
  simp only [codicilref18_Same.f, if_true, bne_self_eq_false]
  refine Ev.step (f := fun k => codicilref18_Same.l0 k ((0 : Nat) : Int) a0 a1 l a0 a1 l) (fun k => by simp only [codicilref18_Same.j0]; rw [if_neg (by decide)]; rfl) (rsame_loop a0 a0 a1 a1 l hl l.length 0 (by omega) (by omega))
end Go.Proofs.Ytkcjekboakoejaa.Print
