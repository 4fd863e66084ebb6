/- Plain law of names: parts between points from the front and from the back, simple and full names, split and joined. -/
import Derived.Test.YtkcjekboakoejaaDoorHNPrim
import Derived.Laws.RangeAny
import Derived.Test.YtkcjekboakoejaaDoorPrint1
import Derived.Test.YtkcjekboakoejaaDoorPrint2
namespace Go.Proofs.YtkcjekboakoejaaDoor.Print
open Go.RowKit Go.Proofs.YtkcjekboakoejaaDoorW.PrintWords Go.Proofs.YtkcjekboakoejaaDoorW.PrintLast
set_option linter.unusedVariables false
set_option linter.unusedSimpArgs false

theorem w64 {n : Int} (h : -9223372036854775808 ≤ n ∧ n ≤ 9223372036854775807) : wrap64 n = n := by unfold wrap64; omega
theorem wup {n : Nat} (h : n ≤ 9223372036854775806) : wrap64 ((n : Int) + 1) = ((n + 1 : Nat) : Int) := by rw [w64 (by omega)]; rfl
theorem wdown {n : Nat} (h : n ≤ 9223372036854775806) : wrap64 (((n + 1 : Nat) : Int) - 1) = (n : Int) := by rw [w64 (by omega)]; omega
/-- Byte i, as a number; 0 behind the end. -/
def g (s : ByteArray) (i : Nat) : Nat := (s.data.toList.getD i 0).toNat
theorem g_lt (s : ByteArray) (i : Nat) : g s i < 256 := UInt8.toNat_lt _
theorem g_at (s : ByteArray) (i : Nat) (h : i < s.data.toList.length) : g s i = (s.data.toList[i]).toNat := by
  unfold g
  rw [List.getD_eq_getElem?_getD, List.getElem?_eq_getElem h]
  rfl
theorem len_is (s : ByteArray) : s.data.toList.length = s.size := by rw [Array.length_toList]; rfl
theorem bt_g (s : ByteArray) (i : Nat) (h : i < s.size) : bt s (i : Int) = (g s i : Int) := by
  have h1 := (bt_at s (i : Int) (by simpa using h)).symm
  rw [h1, g_at s i (by rw [len_is]; exact h)]
  rfl
theorem ext_take (s : ByteArray) (n : Nat) : (s.extract 0 n).data.toList = s.data.toList.take n := by
  rw [ByteArray.data_extract, Array.toList_extract, List.extract_eq_take_drop, List.drop_zero, Nat.sub_zero]
theorem ext_drop (s : ByteArray) (n : Nat) : (s.extract n s.size).data.toList = s.data.toList.drop n := by
  rw [ByteArray.data_extract, Array.toList_extract, List.extract_eq_take_drop, List.take_of_length_le (by rw [List.length_drop, len_is]; exact Nat.le_refl _)]
theorem ba_ext {a b : ByteArray} (h : a.data.toList = b.data.toList) : a = b := by
  obtain ⟨⟨a⟩⟩ := a
  obtain ⟨⟨b⟩⟩ := b
  simp only at h
  rw [h]

/-! ### lists -/
def partsL : List UInt8 → List (List UInt8)
  | [] => [[]]
  | x :: r => if x = 46 then [] :: partsL r else match partsL r with | [] => [[x]] | p :: ps => (x :: p) :: ps
theorem partsL_ne (l : List UInt8) : partsL l ≠ [] := by
  cases l with
  | nil => simp [partsL]
  | cons x r =>
    simp only [partsL]
    split
    · simp
    · split <;> simp
theorem partsL_dot (a b : List UInt8) : partsL (a ++ 46 :: b) = partsL a ++ partsL b := by
  induction a with
  | nil => simp [partsL]
  | cons x r ih =>
    simp only [List.cons_append, partsL]
    split
    · rw [ih]; rfl
    · rw [ih]
      have := partsL_ne r
      cases h : partsL r with
      | nil => exact absurd h this
      | cons p ps => simp
theorem partsL_nodot {l : List UInt8} (h : (46 : UInt8) ∉ l) : partsL l = [l] := by
  induction l with
  | nil => rfl
  | cons x r ih =>
    have h1 : ¬ x = 46 := fun e => h (by rw [e]; exact List.mem_cons_self ..)
    have h2 : (46 : UInt8) ∉ r := fun e => h (List.mem_cons_of_mem _ e)
    simp only [partsL]
    rw [if_neg h1, ih h2]
theorem index_split {c : UInt8} : ∀ {l : List UInt8}, 0 ≤ Lib.indexByte l c → ∃ a b, l = a ++ c :: b ∧ c ∉ a ∧ Lib.indexByte l c = (a.length : Int)
  | [], h => by simp [Lib.indexByte] at h
  | x :: l, h => by
    simp only [Lib.indexByte] at h ⊢
    by_cases hx : (x == c) = true
    · rw [if_pos hx]
      exact ⟨[], l, by rw [eq_of_beq hx]; rfl, by simp, rfl⟩
    · rw [if_neg hx] at h ⊢
      have h0 := Lib.indexByte_ge l c
      by_cases h1 : (Lib.indexByte l c == -1) = true
      · rw [if_pos h1] at h; omega
      · rw [if_neg h1] at h ⊢
        have h2 : ¬ Lib.indexByte l c = -1 := by simpa using h1
        obtain ⟨a, b, e, ha, hi⟩ := index_split (l := l) (c := c) (by omega)
        refine ⟨x :: a, b, by rw [e]; rfl, ?_, by rw [hi]; simp⟩
        intro hm
        rcases List.mem_cons.1 hm with e | e
        · exact hx (by rw [← e]; simp)
        · exact ha e
theorem index_none {c : UInt8} : ∀ {l : List UInt8}, ¬ 0 ≤ Lib.indexByte l c → c ∉ l
  | [], _ => by simp
  | x :: l, h => by
    simp only [Lib.indexByte] at h
    by_cases hx : (x == c) = true
    · rw [if_pos hx] at h; omega
    · rw [if_neg hx] at h
      have h0 := Lib.indexByte_ge l c
      have h2 : ¬ 0 ≤ Lib.indexByte l c := by
        intro h3
        by_cases h1 : (Lib.indexByte l c == -1) = true
        · have : Lib.indexByte l c = -1 := by simpa using h1
          omega
        · rw [if_neg h1] at h; omega
      intro hm
      rcases List.mem_cons.1 hm with e | e
      · exact hx (by rw [← e]; simp)
      · exact index_none h2 e
theorem dot_iff (l : List UInt8) : 0 ≤ Lib.indexByte l 46 ↔ (46 : UInt8) ∈ l := by
  refine ⟨fun h => ?_, fun h => ?_⟩
  · obtain ⟨a, b, e, _, _⟩ := index_split h
    rw [e]; simp
  · exact Classical.byContradiction fun h1 => index_none h1 h
theorem partsB_list (f : Nat) : ∀ s : ByteArray, s.size ≤ f → (partsB 46 f s).map (fun x => x.data.toList) = partsL s.data.toList := by
  have stop : ∀ (f : Nat) (s : ByteArray), ¬ 0 ≤ Lib.indexByte s.data.toList 46 → (partsB 46 f s).map (fun x => x.data.toList) = partsL s.data.toList := fun f s h => by
    rw [partsB_none h, partsL_nodot (index_none h)]
    rfl
  induction f with
  | zero =>
    intro s hs
    refine stop 0 s (fun h => ?_)
    have := index_lt h
    rw [len_is] at this
    omega
  | succ f ih =>
    intro s hs
    by_cases h : 0 ≤ Lib.indexByte s.data.toList 46
    · obtain ⟨a, b, e, ha, hi⟩ := index_split h
      have hl : a.length < s.size := by
        have := congrArg List.length e
        rw [len_is] at this
        simp at this
        omega
      rw [partsB_some h, List.map_cons, ih _ (by rw [ByteArray.size_extract]; omega), ext_take, ext_drop, hi, Int.toNat_natCast, e, partsL_dot, partsL_nodot ha]
      simp
    · exact stop _ s h
/-- A simple name, as a list. -/
def simpleL (l : List UInt8) : Bool := goodB 0 l && !l.isEmpty && decide (l.length ≤ 128)
theorem simpleB_list (s : ByteArray) : simpleB s = simpleL s.data.toList := by
  unfold simpleB simpleL
  rw [ByteArray.toList_eq, len_is]
theorem all_list (s : ByteArray) : (partsB 46 s.size s).all simpleB = (partsL s.data.toList).all simpleL := by
  rw [← partsB_list s.size s (Nat.le_refl _), List.all_map]
  congr 1
  funext x
  exact simpleB_list x

/-! ### the last point -/
def lastD (s : ByteArray) : Nat → Int
  | 0 => -1
  | n + 1 => if g s n = 46 then (n : Int) else lastD s n
theorem lastD_spec (s : ByteArray) : ∀ n, (lastD s n = -1 ∧ ∀ j, j < n → g s j ≠ 46) ∨ ∃ i : Nat, i < n ∧ lastD s n = (i : Int) ∧ g s i = 46 ∧ ∀ j, i < j → j < n → g s j ≠ 46
  | 0 => .inl ⟨rfl, fun j hj => absurd hj (Nat.not_lt_zero _)⟩
  | n + 1 => by
    simp only [lastD]
    by_cases h : g s n = 46
    · rw [if_pos h]
      exact .inr ⟨n, Nat.lt_succ_self _, rfl, h, fun j h1 h2 => by omega⟩
    · rw [if_neg h]
      rcases lastD_spec s n with ⟨h1, h2⟩ | ⟨i, h1, h2, h3, h4⟩
      · refine .inl ⟨h1, fun j hj => ?_⟩
        rcases (by omega : j < n ∨ j = n) with e | e
        · exact h2 j e
        · rw [e]; exact h
      · refine .inr ⟨i, by omega, h2, h3, fun j hj hn => ?_⟩
        rcases (by omega : j < n ∨ j = n) with e | e
        · exact h4 j hj e
        · rw [e]; exact h
theorem dot_at (s : ByteArray) (i : Nat) (h : i < s.size) : g s i = 46 ↔ s.data.toList[i]'(by rw [len_is]; exact h) = 46 := by
  rw [g_at s i (by rw [len_is]; exact h)]
  constructor
  · intro e
    exact UInt8.toNat_inj.1 e
  · intro e
    rw [e]
    rfl
/-- The text is split at its last point, or there is none. -/
theorem last_split (s : ByteArray) : (lastD s s.size = -1 ∧ (46 : UInt8) ∉ s.data.toList) ∨ ∃ i : Nat, i < s.size ∧ lastD s s.size = (i : Int) ∧ s.data.toList = s.data.toList.take i ++ 46 :: s.data.toList.drop (i + 1) ∧ (46 : UInt8) ∉ s.data.toList.drop (i + 1) := by
  rcases lastD_spec s s.size with ⟨h1, h2⟩ | ⟨i, h1, h2, h3, h4⟩
  · refine .inl ⟨h1, fun hm => ?_⟩
    obtain ⟨j, hj, e⟩ := List.getElem_of_mem hm
    have hj' : j < s.size := by rw [← len_is]; exact hj
    exact h2 j hj' ((dot_at s j hj').2 e)
  · refine .inr ⟨i, h1, h2, ?_, fun hm => ?_⟩
    · have hl : i < s.data.toList.length := by rw [len_is]; exact h1
      have := (dot_at s i h1).1 h3
      rw [← this, ← List.drop_eq_getElem_cons hl, List.take_append_drop]
    · obtain ⟨j, hj, e⟩ := List.getElem_of_mem hm
      rw [List.length_drop, len_is] at hj
      rw [List.getElem_drop] at e
      exact h4 (i + 1 + j) (by omega) (by omega) ((dot_at s (i + 1 + j) (by omega)).2 e)
/-- What Split tells. -/
def cutAt (s : ByteArray) (i : Int) : ByteArray × ByteArray := if 0 ≤ i then (s.extract 0 i.toNat, s.extract (i.toNat + 1) s.size) else (⟨#[]⟩, s)
def splitP (s : ByteArray) : ByteArray × ByteArray := cutAt s (lastD s s.size)
theorem lastD_lt (s : ByteArray) (n : Nat) : lastD s n < n := by
  rcases lastD_spec s n with ⟨h, _⟩ | ⟨i, h1, h2, _⟩ <;> omega
theorem lib_last (s : ByteArray) (hs : s.size ≤ 140737488351232) (d : Nat) : ∀ n, n ≤ s.size → n ≤ d → Ev (fun k => bytealg_LastIndexByteString.l0 k s 46 ((n : Int) - 1)) (lastD s n) := by
  induction d with
  | zero =>
    intro n hn hd
    obtain rfl : n = 0 := by omega
    refine Ev.step (f := fun _ => some (-1)) (fun k => ?_) (Ev.now _)
    simp only [bytealg_LastIndexByteString.l0]
    rw [if_neg (by decide)]
  | succ d ih =>
    intro n hn hd
    cases n with
    | zero =>
      refine Ev.step (f := fun _ => some (-1)) (fun k => ?_) (Ev.now _)
      simp only [bytealg_LastIndexByteString.l0]
      rw [if_neg (by decide)]
    | succ n =>
      have e : ((n + 1 : Nat) : Int) - 1 = (n : Int) := by omega
      have hb := bt_g s n (by omega)
      have i1 : (n : Int) ≥ 0 := by omega
      have i2 : (0 : Int) ≤ (n : Int) := by omega
      have i3 : (n : Int) < (s.size : Int) := by omega
      have hw : wrap64 ((n : Int) - 1) = (n : Int) - 1 := w64 (by omega)
      have hih := ih n (by omega) (by omega)
      rw [e]
      simp only [lastD]
      by_cases h : g s n = 46
      · rw [if_pos h]
        refine Ev.step (f := fun _ => some (n : Int)) (fun k => ?_) (Ev.now _)
        simp only [bytealg_LastIndexByteString.l0]
        rw [if_pos i1, if_pos i2, if_pos i3, hb, h, if_pos (by decide)]
      · rw [if_neg h]
        have h' : ¬ (g s n : Int) = 46 := by omega
        refine Ev.step (fun k => ?_) hih
        simp only [bytealg_LastIndexByteString.l0]
        rw [if_pos i1, if_pos i2, if_pos i3, hb, if_neg h', hw]
theorem size_wrap {s : ByteArray} (hs : s.size ≤ 140737488351232) : wrap64 ((s.size : Int) - 1) = (s.size : Int) - 1 := w64 (by omega)
theorem split_ev (s : ByteArray) (hs : s.size ≤ 140737488351232) : Ev (fun k => name_Split.f k s) (splitP s) := by
  unfold name_Split.f strings_LastIndexByte.f bytealg_LastIndexByteString.f splitP cutAt
  rw [size_wrap hs]
  have hl := lib_last s hs s.size s.size (Nat.le_refl _) (Nat.le_refl _)
  have hlt := lastD_lt s s.size
  have hb : Ev (fun k => (bytealg_LastIndexByteString.l0 k s 46 ((s.size : Int) - 1)).bind fun t => some t) (lastD s s.size) := Ev.bind hl (Ev.now _)
  refine Ev.bind hb ?_
  generalize lastD s s.size = i at *
  by_cases h : 0 ≤ i
  · have hw : wrap64 (i + 1) = i + 1 := w64 (by omega)
    have h1 : i ≤ (s.size : Int) := by omega
    have h2 : (0 : Int) ≤ i + 1 := by omega
    have h3 : i + 1 ≤ (s.size : Int) := by omega
    have h4 : (i + 1).toNat = i.toNat + 1 := by omega
    simp only [ge_iff_le, h, if_true, hw, h1, h2, h3, h4]
    exact Ev.now _
  · simp only [ge_iff_le, h, if_false]
    exact Ev.now _
theorem ref_last (s : ByteArray) (hs : s.size ≤ 140737488351232) (d : Nat) : ∀ n, n ≤ s.size → n ≤ d → Ev (fun k => codicilref11_Split.l0 k s ((n : Int) - 1)) (cutAt s (lastD s n)) := by
  induction d with
  | zero =>
    intro n hn hd
    obtain rfl : n = 0 := by omega
    refine Ev.step (f := fun _ => some (⟨#[]⟩, s)) (fun k => ?_) (Ev.now _)
    simp only [codicilref11_Split.l0]
    rw [if_neg (by decide)]
  | succ d ih =>
    intro n hn hd
    cases n with
    | zero =>
      refine Ev.step (f := fun _ => some (⟨#[]⟩, s)) (fun k => ?_) (Ev.now _)
      simp only [codicilref11_Split.l0]
      rw [if_neg (by decide)]
    | succ n =>
      have e : ((n + 1 : Nat) : Int) - 1 = (n : Int) := by omega
      have hb := bt_g s n (by omega)
      have i1 : (n : Int) ≥ 0 := by omega
      have i2 : (0 : Int) ≤ (n : Int) := by omega
      have i3 : (n : Int) < (s.size : Int) := by omega
      have i4 : (n : Int) ≤ (s.size : Int) := by omega
      have hw : wrap64 ((n : Int) - 1) = (n : Int) - 1 := w64 (by omega)
      have hw2 : wrap64 ((n : Int) + 1) = ((n + 1 : Nat) : Int) := wup (by omega)
      have i5 : (0 : Int) ≤ ((n + 1 : Nat) : Int) := by omega
      have i6 : ((n + 1 : Nat) : Int) ≤ (s.size : Int) := by omega
      have hih := ih n (by omega) (by omega)
      rw [e]
      by_cases h : g s n = 46
      · have el : lastD s (n + 1) = (n : Int) := by simp only [lastD]; rw [if_pos h]
        rw [el]
        unfold cutAt
        rw [if_pos i2]
        refine Ev.step (f := fun _ => some _) (fun k => ?_) (Ev.now _)
        simp only [codicilref11_Split.l0]
        rw [if_pos i1, if_pos i2, if_pos i3, hb, h, if_pos (by decide), if_pos i4, hw2, if_pos i5, if_pos i6]
        rfl
      · have el : lastD s (n + 1) = lastD s n := by simp only [lastD]; rw [if_neg h]
        rw [el]
        have h' : ¬ (g s n : Int) = 46 := by omega
        refine Ev.step (fun k => ?_) hih
        simp only [codicilref11_Split.l0]
        rw [if_pos i1, if_pos i2, if_pos i3, hb, if_neg h', hw]
theorem rsplit_ev (s : ByteArray) (hs : s.size ≤ 140737488351232) : Ev (fun k => codicilref11_Split.f k s) (splitP s) := by
  unfold codicilref11_Split.f splitP
  rw [size_wrap hs]
  exact ref_last s hs s.size s.size (Nat.le_refl _) (Nat.le_refl _)
/-- Has it a point? -/
def dotB (s : ByteArray) : Bool := decide ((46 : UInt8) ∈ s.data.toList)
theorem point_from (s : ByteArray) (hs : s.size ≤ 140737488351232) (d : Nat) : ∀ i, s.size - i ≤ d → i ≤ s.size → Ev (fun k => codicilref11_point.l0 k s (i : Int)) (decide ((46 : UInt8) ∈ s.data.toList.drop i)) := by
  have stop : ∀ i, ¬ i < s.size → Ev (fun k => codicilref11_point.l0 k s (i : Int)) (decide ((46 : UInt8) ∈ s.data.toList.drop i)) := fun i h => by
    rw [List.drop_eq_nil_of_le (by rw [len_is]; omega)]
    refine Ev.step (f := fun _ => some _) (fun k => ?_) (Ev.now _)
    simp only [codicilref11_point.l0]
    rw [if_neg (by omega)]
    rfl
  induction d with
  | zero => intro i hd hi; exact stop i (by omega)
  | succ d ih =>
    intro i hd hi
    by_cases h : i < s.size
    · have hb := bt_g s i h
      have hl : i < s.data.toList.length := by rw [len_is]; exact h
      have i2 : (0 : Int) ≤ (i : Int) := by omega
      have i3 : (i : Int) < (s.size : Int) := by omega
      have hw := wup (n := i) (by omega)
      have hih := ih (i + 1) (by omega) (by omega)
      have hd := dot_at s i h
      rw [List.drop_eq_getElem_cons hl]
      by_cases hg : g s i = 46
      · have : (46 : UInt8) ∈ s.data.toList[i] :: s.data.toList.drop (i + 1) := by rw [hd.1 hg]; exact List.mem_cons_self ..
        rw [decide_eq_true this]
        refine Ev.step (f := fun _ => some true) (fun k => ?_) (Ev.now _)
        simp only [codicilref11_point.l0]
        rw [if_pos i3, if_pos i2, hb, hg, if_pos (by decide)]
      · have hne : ¬ s.data.toList[i] = 46 := fun e => hg (hd.2 e)
        have : decide ((46 : UInt8) ∈ s.data.toList[i] :: s.data.toList.drop (i + 1)) = decide ((46 : UInt8) ∈ s.data.toList.drop (i + 1)) := by
          rw [decide_eq_decide, List.mem_cons]
          exact ⟨fun x => x.elim (fun e => absurd e.symm hne) id, .inr⟩
        rw [this]
        have hg' : ¬ (g s i : Int) = 46 := by omega
        refine Ev.step (fun k => ?_) hih
        simp only [codicilref11_point.l0]
        rw [if_pos i3, if_pos i2, hb, if_neg hg', hw]
    · exact stop i h
theorem point_ev (s : ByteArray) (hs : s.size ≤ 140737488351232) : Ev (fun k => codicilref11_point.f k s) (dotB s) := point_from s hs s.size 0 (by omega) (Nat.zero_le _)
end Go.Proofs.YtkcjekboakoejaaDoor.Print
