/- Plain law of names: simple names, full names, primitive ones, joined ones; NameTells' plain function answers true. -/
import Derived.Test.YtkcjekboakoejaaDoorQName11
import Derived.Test.YtkcjekboakoejaaDoorHAlive11
import Derived.Test.YtkcjekboakoejaaDoorPrint3
namespace Go.Proofs.YtkcjekboakoejaaDoor.Print
open Go.RowKit Go.Proofs.YtkcjekboakoejaaDoorW.PrintWords Go.Proofs.YtkcjekboakoejaaDoorW.PrintLast
set_option linter.unusedVariables false
set_option linter.unusedSimpArgs false

theorem okB_high (i c : Nat) : okB i c = (decide (97 ≤ c ∧ c ≤ 122) || decide (65 ≤ c ∧ c ≤ 90) || decide (c = 95) || (decide (i ≠ 0) && decide (48 ≤ c ∧ c ≤ 57))) := by
  unfold okB letB
  rw [Bool.eq_iff_iff]
  simp only [Bool.or_eq_true, Bool.and_eq_true, decide_eq_true_eq]
  omega
/-- One round of the reference's Simple. -/
theorem simple_round (s : ByteArray) (i : Nat) (k : Nat) (h : i < s.size) (hs : s.size ≤ 140737488351232) : codicilref11_Simple.l0 (k + 1) s (i : Int) = if okB i (g s i) = true then codicilref11_Simple.l0 k s ((i + 1 : Nat) : Int) else some false := by
  have hb := bt_g s i h
  have i2 : (0 : Int) ≤ (i : Int) := by omega
  have i3 : (i : Int) < (s.size : Int) := by omega
  have hw := wup (n := i) (by omega)
  rw [okB_high]
  generalize g s i = c at *
  simp only [codicilref11_Simple.l0]
  rw [if_pos i3, if_pos i2, hb, hw]
  generalize codicilref11_Simple.l0 k s ((i + 1 : Nat) : Int) = X
  clear hb hw i2 i3 h hs
  simp only [Bool.or_eq_true, Bool.and_eq_true, decide_eq_true_eq]
  repeat' split
  all_goals first | rfl | (exfalso; omega)
theorem rsimple_from (s : ByteArray) (hs : s.size ≤ 140737488351232) (d : Nat) : ∀ i, s.size - i ≤ d → i ≤ s.size → Ev (fun k => codicilref11_Simple.l0 k s (i : Int)) (goodB i (s.data.toList.drop i) && (decide (1 ≤ s.size) && decide (s.size ≤ 128))) := by
  have stop : ∀ i, ¬ i < s.size → Ev (fun k => codicilref11_Simple.l0 k s (i : Int)) (goodB i (s.data.toList.drop i) && (decide (1 ≤ s.size) && decide (s.size ≤ 128))) := fun i h => by
    rw [List.drop_eq_nil_of_le (by rw [len_is]; omega)]
    refine Ev.step (f := fun _ => some _) (fun k => ?_) (Ev.now _)
    simp only [codicilref11_Simple.l0, goodB, Bool.true_and]
    rw [if_neg (by omega)]
    by_cases h1 : (s.size : Int) ≥ 1
    · rw [if_pos h1, decide_eq_true (show 1 ≤ s.size by omega), Bool.true_and]
      congr 1
      rw [decide_eq_decide]
      omega
    · rw [if_neg h1, decide_eq_false (show ¬ 1 ≤ s.size by omega), Bool.false_and]
  induction d with
  | zero => intro i hd hi; exact stop i (by omega)
  | succ d ih =>
    intro i hd hi
    by_cases h : i < s.size
    · have hl : i < s.data.toList.length := by rw [len_is]; exact h
      have hih := ih (i + 1) (by omega) (by omega)
      rw [List.drop_eq_getElem_cons hl]
      simp only [goodB]
      rw [← g_at s i hl]
      by_cases ho : okB i (g s i) = true
      · rw [ho, Bool.true_and]
        refine Ev.step (fun k => ?_) hih
        rw [simple_round s i k h hs, if_pos ho]
      · have ho' : okB i (g s i) = false := by simpa using ho
        rw [ho', Bool.false_and, Bool.false_and]
        refine Ev.step (f := fun _ => some false) (fun k => ?_) (Ev.now _)
        rw [simple_round s i k h hs, if_neg ho]
    · exact stop i h
theorem rsimple_ev (s : ByteArray) (hs : s.size ≤ 140737488351232) : Ev (fun k => codicilref11_Simple.f k s) (simpleB s) := by
  have h := rsimple_from s hs s.size 0 (by omega) (Nat.zero_le _)
  rw [List.drop_zero] at h
  have e : simpleB s = (goodB 0 s.data.toList && (decide (1 ≤ s.size) && decide (s.size ≤ 128))) := by
    rw [simpleB_list]
    unfold simpleL
    rw [len_is, Bool.and_assoc]
    congr 2
    cases hl : s.data.toList with
    | nil => have := len_is s; rw [hl] at this; rw [← this]; rfl
    | cons x r => have := len_is s; rw [hl] at this; rw [decide_eq_true (show 1 ≤ s.size by rw [← this]; simp)]; rfl
  rw [e]
  exact h
theorem rfull_from (d : Nat) : ∀ s : ByteArray, s.size ≤ d → s.size ≤ 140737488351232 → Ev (fun k => codicilref11_Full.l0 k s) ((partsL s.data.toList).all simpleL) := by
  have stop : ∀ s : ByteArray, s.size ≤ 140737488351232 → (46 : UInt8) ∉ s.data.toList → Ev (fun k => codicilref11_Full.l0 k s) ((partsL s.data.toList).all simpleL) := fun s hs h => by
    have hd : dotB s = false := decide_eq_false h
    have hp := point_ev s hs
    rw [hd] at hp
    have hsim := rsimple_ev s hs
    rw [partsL_nodot h]
    simp only [List.all_cons, List.all_nil, Bool.and_true]
    rw [← simpleB_list]
    refine Ev.step (fun k => ?_) (Ev.bind hp (f := fun k t => if t = true then ((codicilref11_Split.f k s).bind fun bt120 => ((codicilref11_Simple.f k bt120.2).bind fun t122 => (if t122 = true then (codicilref11_Full.l0 k bt120.1) else (some false)))) else ((codicilref11_Simple.f k s).bind fun t119 => (some t119))) ?_)
    · simp only [codicilref11_Full.l0]
    · simp only [Bool.false_eq_true, if_false]
      exact Ev.bind hsim (Ev.now _)
  induction d with
  | zero =>
    intro s hd hs
    have hn : s.data.toList = [] := List.eq_nil_of_length_eq_zero (by rw [len_is]; omega)
    exact stop s hs (by rw [hn]; simp)
  | succ d ih =>
    intro s hd hs
    rcases last_split s with ⟨h1, h2⟩ | ⟨i, h1, h2, h3, h4⟩
    · exact stop s hs h2
    · have hdot : dotB s = true := decide_eq_true (by rw [h3]; simp)
      have hp := point_ev s hs
      rw [hdot] at hp
      have hsp := rsplit_ev s hs
      have hsplit : splitP s = (s.extract 0 i, s.extract (i + 1) s.size) := by unfold splitP cutAt; rw [h2, if_pos (by omega)]; rfl
      rw [hsplit] at hsp
      have hz1 : (s.extract 0 i).size = i := by rw [ByteArray.size_extract]; omega
      have hz2 : (s.extract (i + 1) s.size).size ≤ s.size := by rw [ByteArray.size_extract]; omega
      have hsim := rsimple_ev (s.extract (i + 1) s.size) (by omega)
      have hih := ih (s.extract 0 i) (by omega) (by omega)
      have e : (partsL s.data.toList).all simpleL = ((partsL (s.extract 0 i).data.toList).all simpleL && simpleB (s.extract (i + 1) s.size)) := by
        rw [h3, partsL_dot, partsL_nodot h4, List.all_append, simpleB_list, ext_take, ext_drop]
        simp only [List.all_cons, List.all_nil, Bool.and_true]
      rw [e]
      refine Ev.step (fun k => ?_) (Ev.bind hp (f := fun k t => if t = true then ((codicilref11_Split.f k s).bind fun bt120 => ((codicilref11_Simple.f k bt120.2).bind fun t122 => (if t122 = true then (codicilref11_Full.l0 k bt120.1) else (some false)))) else ((codicilref11_Simple.f k s).bind fun t119 => (some t119))) ?_)
      · simp only [codicilref11_Full.l0]
      · simp only [if_true]
        refine Ev.bind hsp ?_
        refine Ev.bind hsim ?_
        cases hb : simpleB (s.extract (i + 1) s.size) with
        | true =>
          simp only [if_true, Bool.and_true]
          exact hih
        | false =>
          simp only [Bool.false_eq_true, if_false, Bool.and_false]
          exact Ev.now _
theorem rfull_ev (s : ByteArray) (hs : s.size ≤ 140737488351232) : Ev (fun k => codicilref11_Full.f k s) (fullB s) := by
  unfold codicilref11_Full.f fullB
  rw [all_list]
  by_cases h : (s.size : Int) > 128
  · have h' : ¬ s.size ≤ 128 := by omega
    rw [decide_eq_false h', Bool.and_false]
    simp only [h, if_true]
    exact Ev.now _
  · have h' : s.size ≤ 128 := by omega
    rw [decide_eq_true h', Bool.and_true]
    simp only [h, if_false]
    exact rfull_from s.size s (Nat.le_refl _) hs
theorem toList_iff (s : ByteArray) (l : List UInt8) : s.toList = l ↔ s = ⟨l.toArray⟩ := by
  rw [ByteArray.toList_eq]
  constructor
  · intro h; exact ba_ext (by rw [h])
  · intro h; rw [h]
theorem rprim (s : ByteArray) : codicilref11_Primitive.f s = some (Lib.containsS prims s) := by
  have key : ∀ b : Bool, (b = true ↔ s ∈ prims) → b = Lib.containsS prims s := fun b h => by rw [Bool.eq_iff_iff, h, Lib.containsS_iff]
  unfold codicilref11_Primitive.f
  simp only [toList_iff]
  repeat' split
  all_goals (congr 1; refine key _ ?_)
  all_goals first
    | (rename_i h; rw [h]; simp [prims]; done)
    | (rw [beq_iff_eq, toList_iff]; unfold prims; simp only [List.mem_cons, List.mem_nil_iff, or_false]; simp_all)
/-- What Join tells of a text that is put together. -/
def tellN (x : ByteArray) : ByteArray × Bool := if fullB x = true then (if Lib.containsS prims x = true then (⟨#[]⟩, false) else (x, true)) else (⟨#[]⟩, false)
/-- What is put together. -/
def putN (a b : ByteArray) : ByteArray := if a.toList = [] ∨ dotB b = true then b else (a ++ ⟨#[46]⟩) ++ b
theorem full_f (x : ByteArray) (hx : x.size ≤ 140737488351232) : name_Full.f x = some (fullB x) := by unfold name_Full.f; rw [if_pos hx]
theorem join_tail (x : ByteArray) (hx : x.size ≤ 140737488351232) : Ev (fun k => name_Join.j1 k x) (tellN x) := by
  refine Ev.step (f := fun _ => some (tellN x)) (fun k => ?_) (Ev.now _)
  simp only [name_Join.j1, full_f x hx, name_Primitive.f, Option.bind_some, tellN]
  repeat' split
  all_goals rfl
theorem rjoin_tail (x : ByteArray) (hx : x.size ≤ 140737488351232) : Ev (fun k => codicilref11_Join.j1 k x) (tellN x) := by
  refine Ev.step (fun k => ?_) (Ev.bind (rfull_ev x hx) (f := fun k t124 => if t124 = true then ((codicilref11_Primitive.f x).bind fun t125 => (if t125 = true then (some ((⟨#[]⟩ : ByteArray), false)) else (some (x, true)))) else (some ((⟨#[]⟩ : ByteArray), false))) ?_)
  · simp only [codicilref11_Join.j1]
  · simp only [rprim, Option.bind_some, tellN]
    repeat' split
    all_goals exact Ev.now _
theorem put_size (a b : ByteArray) (ha : a.size ≤ 4096) (hb : b.size ≤ 4096) : a.size + 1 ≤ 9223372036854775807 ∧ (a ++ (⟨#[46]⟩ : ByteArray)).size + b.size ≤ 9223372036854775807 ∧ ((a ++ (⟨#[46]⟩ : ByteArray)) ++ b).size ≤ 140737488351232 := by
  have e : (⟨#[46]⟩ : ByteArray).size = 1 := rfl
  simp only [ByteArray.size_append, e]
  omega
theorem contains_dot (b : ByteArray) : strings_Contains.f b ⟨#[46]⟩ = some (dotB b) := by
  show some (decide (0 ≤ Lib.indexByte b.data.toList 46)) = _
  congr 1
  unfold dotB
  rw [decide_eq_decide]
  exact dot_iff _
theorem join_ev (a b : ByteArray) (ha : a.size ≤ 4096) (hb : b.size ≤ 4096) : Ev (fun k => name_Join.f k a b) (tellN (putN a b)) := by
  obtain ⟨z1, z2, z3⟩ := put_size a b ha hb
  have no : Ev (fun k => name_Join.j0 k a b b false) (tellN b) := by
    refine Ev.step (fun k => ?_) (join_tail b (by omega))
    simp only [name_Join.j0, Bool.false_eq_true, if_false]
  unfold name_Join.f
  by_cases h : a.toList = []
  · have e : putN a b = b := by unfold putN; rw [if_pos (.inl h)]
    simp only [h, if_true, e]
    exact no
  · simp only [h, if_false, contains_dot, Option.bind_some]
    cases hd : dotB b with
    | true =>
      have e : putN a b = b := by unfold putN; rw [if_pos (.inr hd)]
      rw [e]
      exact no
    | false =>
      have e : putN a b = (a ++ ⟨#[46]⟩) ++ b := by unfold putN; rw [if_neg (fun x => x.elim h (fun y => by rw [hd] at y; cases y))]
      rw [e]
      refine Ev.step (fun k => ?_) (join_tail _ z3)
      simp only [name_Join.j0, Bool.not_false, if_true]
      rw [if_pos z1, if_pos z2]
theorem rjoin_ev (a b : ByteArray) (ha : a.size ≤ 4096) (hb : b.size ≤ 4096) : Ev (fun k => codicilref11_Join.f k a b) (tellN (putN a b)) := by
  obtain ⟨z1, z2, z3⟩ := put_size a b ha hb
  have no : Ev (fun k => codicilref11_Join.j0 k a b b false) (tellN b) := by
    refine Ev.step (fun k => ?_) (rjoin_tail b (by omega))
    simp only [codicilref11_Join.j0, Bool.false_eq_true, if_false]
  unfold codicilref11_Join.f
  refine Ev.bind (point_ev b (by omega)) ?_
  cases hd : dotB b with
  | true =>
    have e : putN a b = b := by unfold putN; rw [if_pos (.inr hd)]
    simp only [if_true, e]
    exact no
  | false =>
    simp only [Bool.false_eq_true, if_false]
    by_cases h : a.toList = []
    · have e : putN a b = b := by unfold putN; rw [if_pos (.inl h)]
      rw [e, h]
      exact no
    · have e : putN a b = (a ++ ⟨#[46]⟩) ++ b := by unfold putN; rw [if_neg (fun x => x.elim h (fun y => by rw [hd] at y; cases y))]
      have h' : (a.toList != ([] : List UInt8)) = true := bne_iff_ne.mpr h
      rw [e, h']
      refine Ev.step (fun k => ?_) (rjoin_tail _ z3)
      simp only [codicilref11_Join.j0, if_true]
      rw [if_pos z1, if_pos z2]
theorem tells11_pure (s : ByteArray) (hs : s.size ≤ 140737488351232) (t : ByteArray) (ht : t.size ≤ 140737488351232) : ∃ k, codicillaw11_NameTells.f k s t = some true := by
  refine Ev.rounds ?_
  have big : Ev (fun k => codicillaw11_NameTells.j0 k s t true) true := by
    refine Ev.step (fun k => ?_) (Ev.bind alive11_ev (f := fun _ t => some t) (Ev.now _))
    simp only [codicillaw11_NameTells.j0, if_true]
  unfold codicillaw11_NameTells.f
  by_cases h : (s.size : Int) > 4096
  · simp only [h, if_true]
    exact big
  simp only [h, if_false]
  by_cases h2 : (t.size : Int) > 4096
  · rw [decide_eq_true h2]
    exact big
  rw [decide_eq_false h2]
  refine Ev.step (fun k => by simp only [codicillaw11_NameTells.j0, Bool.false_eq_true, if_false]; rfl) ?_
  refine Ev.bind (split_ev s hs) (Ev.bind (rsplit_ev s hs) (Ev.bind (join_ev s t (by omega) (by omega)) (Ev.bind (rjoin_ev s t (by omega) (by omega)) ?_)))
  simp only [name_Simple.f, Option.bind_some]
  refine Ev.bind (rsimple_ev s hs) ?_
  simp only [beq_self_eq_true, if_true, full_f s hs, Option.bind_some]
  refine Ev.bind (rfull_ev s hs) ?_
  simp only [beq_self_eq_true, if_true, name_Primitive.f, rprim, Option.bind_some]
  exact Ev.bind alive11_ev (Ev.now _)
end Go.Proofs.YtkcjekboakoejaaDoor.Print
