/- Plain law: texts one behind the other; RunesJoins' plain function answers true. -/
import Derived.Test.YtkcjekboakoejaaDoorQRuneH
import Derived.Test.YtkcjekboakoejaaDoorPrint3
namespace Go.Proofs.YtkcjekboakoejaaDoor.Print
open Go.RowKit Go.Proofs.YtkcjekboakoejaaDoorW.PrintWords Go.Proofs.YtkcjekboakoejaaDoorW.PrintLast
set_option linter.unusedVariables false
set_option linter.unusedSimpArgs false

theorem match_mono {l : List Nat} {m m' b0 b1 b2 b3 c0 c1 c2 c3 : Nat} (h : matchN l m b0 b1 b2 b3) (hm : l.length ≤ m') (h0 : 0 < l.length → c0 = b0) (h1 : 1 < l.length → c1 = b1) (h2 : 2 < l.length → c2 = b2) (h3 : 3 < l.length → c3 = b3) : matchN l m' c0 c1 c2 c3 := by
  match l, h with
  | [x], h => exact ⟨hm, h.2.trans (h0 (by simp)).symm⟩
  | [x, y], h => exact ⟨hm, h.2.1.trans (h0 (by simp)).symm, h.2.2.trans (h1 (by simp)).symm⟩
  | [x, y, z], h => exact ⟨hm, h.2.1.trans (h0 (by simp)).symm, h.2.2.1.trans (h1 (by simp)).symm, h.2.2.2.trans (h2 (by simp)).symm⟩
  | [x, y, z, u], h => exact ⟨hm, h.2.1.trans (h0 (by simp)).symm, h.2.2.1.trans (h1 (by simp)).symm, h.2.2.2.1.trans (h2 (by simp)).symm, h.2.2.2.2.trans (h3 (by simp)).symm⟩
theorem size_app (s t : ByteArray) : (s ++ t).size = s.size + t.size := by rw [ByteArray.size_append]
theorem app_left (s t : ByteArray) (i : Nat) (h : i < s.size) : g (s ++ t) i = g s i := by
  unfold g
  have : i < s.data.toList.length := by rw [Array.length_toList]; exact h
  rw [ByteArray.data_append, Array.toList_append, List.getD_eq_getElem?_getD, List.getElem?_append_left this, ← List.getD_eq_getElem?_getD]
theorem app_right (s t : ByteArray) (i : Nat) : g (s ++ t) (s.size + i) = g t i := by
  unfold g
  have e : s.size = s.data.toList.length := by rw [Array.length_toList]; rfl
  rw [ByteArray.data_append, Array.toList_append, List.getD_eq_getElem?_getD, e, List.getElem?_append_right (by omega), Nat.add_sub_cancel_left, ← List.getD_eq_getElem?_getD]
theorem pre_left (s : ByteArray) (k i : Nat) (h : i < k) : g (s.extract 0 k) i = g s i := by
  unfold g
  rw [ByteArray.data_extract, Array.toList_extract, List.extract_eq_take_drop, List.drop_zero, Nat.sub_zero]
  simp [List.getD_eq_getElem?_getD, List.getElem?_take, h]
/-- What stands at a place stands there in every text with the same bytes there. -/
theorem dec_same {s u : ByteArray} {p q r n : Nat} (h : decAt s p = some (r, n)) (hs : q + n ≤ u.size) (he : ∀ i, i < n → g u (q + i) = g s (p + i)) : decAt u q = some (r, n) := by
  have hm := dec_match h
  have := dec_of_match hm.2.2.1 (m := u.size - q) (b0 := g u q) (b1 := g u (q + 1)) (b2 := g u (q + 2)) (b3 := g u (q + 3))
    (match_mono hm.1 (by omega) (fun h0 => by simpa using he 0 (by omega)) (fun h0 => he 1 (by omega)) (fun h0 => he 2 (by omega)) (fun h0 => he 3 (by omega)))
  rw [← hm.2.1] at this
  exact this
theorem dec_app (s t : ByteArray) {p r n : Nat} (h : decAt s p = some (r, n)) (hp : p ≤ s.size) : decAt (s ++ t) p = some (r, n) := by
  have hn := dec_n h
  exact dec_same h (by rw [size_app]; omega) (fun i hi => app_left s t _ (by omega))
theorem dec_right (s t : ByteArray) (p : Nat) : decAt (s ++ t) (s.size + p) = decAt t p := by
  unfold decAt
  rw [size_app, Nat.add_assoc, Nat.add_assoc, Nat.add_assoc, app_right, app_right, app_right, app_right, Nat.add_sub_add_left]
theorem right_from (s t : ByteArray) (d : Nat) : ∀ p F T : Nat, t.size - p ≤ d → d ≤ F → d ≤ T → (badFrom (s ++ t) F (s.size + p) < 0 ↔ badFrom t T p < 0) ∧ cntFrom (s ++ t) F (s.size + p) = cntFrom t T p := by
  have stop : ∀ p F T : Nat, ¬ p < t.size → (badFrom (s ++ t) F (s.size + p) < 0 ↔ badFrom t T p < 0) ∧ cntFrom (s ++ t) F (s.size + p) = cntFrom t T p := fun p F T h => by
    have h' : ¬ s.size + p < (s ++ t).size := by rw [size_app]; omega
    rw [badFrom_end _ F _ h', badFrom_end t T p h, cntFrom_end _ F _ h', cntFrom_end t T p h]
    exact ⟨Iff.rfl, rfl⟩
  induction d with
  | zero => intro p F T hd hF hT; exact stop p F T (by omega)
  | succ d ih =>
    intro p F T hd hF hT
    by_cases h : p < t.size
    · obtain ⟨F, rfl⟩ : ∃ m, F = m + 1 := ⟨F - 1, by omega⟩
      obtain ⟨T, rfl⟩ : ∃ m, T = m + 1 := ⟨T - 1, by omega⟩
      have h' : s.size + p < (s ++ t).size := by rw [size_app]; omega
      have hr := dec_right s t p
      rw [bad_step _ F _ h', bad_step t T p h, hr]
      cases hc : decAt t p with
      | none =>
        simp only [cntFrom]
        rw [if_pos h', if_pos h, decode_dec _ _ h', decode_dec t p h, hr, hc]
        have := ih (p + 1) F T (by omega) (by omega) (by omega)
        refine ⟨⟨fun h1 => by omega, fun h1 => by omega⟩, ?_⟩
        simp only [Option.getD_none]
        rw [Nat.add_assoc, this.2]
      | some x =>
        obtain ⟨r, n⟩ := x
        have hn := dec_n hc
        rw [cnt_step _ F _ h' (hr.trans hc), cnt_step t T p h hc]
        have := ih (p + n) F T (by omega) (by omega) (by omega)
        rw [← Nat.add_assoc] at this
        exact ⟨this.1, by rw [this.2]⟩
    · exact stop p F T h
theorem left_from (s t : ByteArray) (d : Nat) : ∀ p f F T : Nat, s.size - p ≤ d → d ≤ f → d + t.size ≤ F → t.size ≤ T → p ≤ s.size → badFrom s f p < 0 →
    (badFrom (s ++ t) F p < 0 ↔ badFrom t T 0 < 0) ∧ cntFrom (s ++ t) F p = cntFrom s f p + cntFrom t T 0 := by
  have stop : ∀ p f F T : Nat, ¬ p < s.size → p ≤ s.size → t.size ≤ F → t.size ≤ T → (badFrom (s ++ t) F p < 0 ↔ badFrom t T 0 < 0) ∧ cntFrom (s ++ t) F p = cntFrom s f p + cntFrom t T 0 := fun p f F T h hp hF hT => by
    obtain rfl : p = s.size := by omega
    rw [cntFrom_end s f _ h, Int.zero_add]
    exact right_from s t t.size 0 F T (by omega) hF hT
  induction d with
  | zero => intro p f F T hd hf hF hT hp hb; exact stop p f F T (by omega) hp (by omega) hT
  | succ d ih =>
    intro p f F T hd hf hF hT hp hb
    by_cases h : p < s.size
    · obtain ⟨f, rfl⟩ : ∃ m, f = m + 1 := ⟨f - 1, by omega⟩
      obtain ⟨F, rfl⟩ : ∃ m, F = m + 1 := ⟨F - 1, by omega⟩
      have h' : p < (s ++ t).size := by rw [size_app]; omega
      rw [bad_step s f p h] at hb
      cases hc : decAt s p with
      | none =>
        rw [hc] at hb
        simp only at hb
        omega
      | some x =>
        obtain ⟨r, n⟩ := x
        rw [hc] at hb
        simp only at hb
        have hn := dec_n hc
        have ha := dec_app s t hc (by omega)
        rw [bad_step _ F p h', ha, cnt_step _ F p h' ha, cnt_step s f p h hc]
        have := ih (p + n) f F T (by omega) (by omega) (by omega) hT (by omega) hb
        exact ⟨this.1, by rw [this.2, Int.add_assoc]⟩
    · exact stop p f F T h hp (by omega) hT
theorem pre_from (s : ByteArray) (k : Nat) (hk : k ≤ s.size) (d : Nat) : ∀ p f F : Nat, s.size - p ≤ d → d ≤ f → k - p ≤ F → badFrom s f p = (k : Int) → p ≤ k ∧ badFrom (s.extract 0 k) F p < 0 ∧ decAt s k = none := by
  have hsz : (s.extract 0 k).size = k := by rw [ByteArray.size_extract]; omega
  induction d with
  | zero =>
    intro p f F hd hf hF hb
    rw [badFrom_end s f p (by omega)] at hb
    omega
  | succ d ih =>
    intro p f F hd hf hF hb
    by_cases h : p < s.size
    · obtain ⟨f, rfl⟩ : ∃ m, f = m + 1 := ⟨f - 1, by omega⟩
      rw [bad_step s f p h] at hb
      cases hc : decAt s p with
      | none =>
        rw [hc] at hb
        simp only at hb
        obtain rfl : p = k := by omega
        exact ⟨Nat.le_refl _, by rw [badFrom_end _ _ _ (by omega)]; decide, hc⟩
      | some x =>
        obtain ⟨r, n⟩ := x
        rw [hc] at hb
        simp only at hb
        have hn := dec_n hc
        have hrg := bad_range s f (p + n)
        obtain ⟨F, rfl⟩ : ∃ m, F = m + 1 := ⟨F - 1, by omega⟩
        obtain ⟨h1, h2, h3⟩ := ih (p + n) f F (by omega) (by omega) (by omega) hb
        have hpk : p < (s.extract 0 k).size := by omega
        have hd2 := dec_same (u := s.extract 0 k) (q := p) hc (by omega) (fun i hi => pre_left s k _ (by omega))
        refine ⟨by omega, ?_, h3⟩
        rw [bad_step _ F p hpk, hd2]
        exact h2
    · rw [badFrom_end s f p h] at hb
      omega
theorem joins_true (s t : ByteArray) (hs : s.size ≤ 140737488351232) (ht : t.size ≤ 140737488351232) : ∃ k, codicillaw01_RunesJoins.f k s t = some true := by
  refine Ev.rounds ?_
  unfold codicillaw01_RunesJoins.f
  have hw : wrap64 ((s.size : Int) + (t.size : Int)) = (s.size : Int) + (t.size : Int) := w64 (by omega)
  rw [hw]
  by_cases h : (s.size : Int) + (t.size : Int) > 4096
  · simp only [h, if_true, alive01_at, Option.bind_some]
    exact Ev.now _
  have hv : ∀ u : ByteArray, u.size ≤ 140737488351232 → runes_Valid.f u = some (decide (badR u < 0)) := fun u hu => by
    unfold runes_Valid.f runes_Bad.f
    rw [if_pos hu]
    rfl
  have hc : ∀ u : ByteArray, u.size ≤ 140737488351232 → runes_Count.f u = some (countR u) := fun u hu => by
    unfold runes_Count.f
    rw [if_pos hu]
  have hb : runes_Bad.f s = some (badR s) := by unfold runes_Bad.f; rw [if_pos hs]
  have hst : (s ++ t).size ≤ 140737488351232 := by rw [size_app]; omega
  have end_ : Ev (fun k => codicillaw01_RunesJoins.j0 k s) true := by
    rcases bad_range s s.size 0 with h1 | ⟨h1, h2⟩
    · have h3 : badR s < 0 := by unfold badR; omega
      refine Ev.step (f := fun _ => some true) (fun k => ?_) (Ev.now _)
      simp only [codicillaw01_RunesJoins.j0, hb, Option.bind_some, h3, if_true, hv s hs, decide_true, alive01_at]
    · obtain ⟨p, hp⟩ : ∃ p : Nat, badFrom s s.size 0 = (p : Int) := ⟨(badFrom s s.size 0).toNat, by omega⟩
      have hp2 : p < s.size := by omega
      obtain ⟨_, h5, h6⟩ := pre_from s p (by omega) s.size 0 s.size p (by omega) (Nat.le_refl _) (by omega) hp
      have hbs : badR s = (p : Int) := hp
      have i1 : ¬ (p : Int) < 0 := by omega
      have i2 : ¬ (p : Int) ≥ (s.size : Int) := by omega
      have i3 : (0 : Int) ≤ (p : Int) := by omega
      have i4 : (p : Int) ≤ (s.size : Int) := by omega
      have i5 : (p : Int).toNat = p := by omega
      have hps : (s.extract 0 p).size = p := by rw [ByteArray.size_extract]; omega
      have hpre : badR (s.extract 0 p) < 0 := by
        unfold badR
        rw [hps]
        exact h5
      have hfirst : runes_First.f (s.extract p s.size) = some (0, 0, false) := by
        unfold runes_First.f
        rw [firstR_dec, ext_dec, h6]
        rfl
      refine Ev.step (f := fun k => codicillaw01_RunesJoins.j1 k s (p : Int) false) (fun k => ?_) ?_
      · simp only [codicillaw01_RunesJoins.j0, hb, hbs, Option.bind_some, i1, i2, i3, i4, if_true, if_false, i5, hv _ (show (s.extract 0 p).size ≤ 140737488351232 by omega), hpre, decide_true, Bool.not_true]
      · refine Ev.step (f := fun _ => some true) (fun k => ?_) (Ev.now _)
        simp only [codicillaw01_RunesJoins.j1, Bool.false_eq_true, if_false, i3, i4, if_true, i5, hfirst, Option.bind_some, hv s hs, hbs, i1, decide_false, alive01_at]
  simp only [h, if_false, hv s hs, Option.bind_some]
  by_cases c1 : badR s < 0
  · have c2 : s.size + t.size ≤ 9223372036854775807 := by omega
    have hl := left_from s t s.size 0 s.size (s ++ t).size t.size (by omega) (Nat.le_refl _) (by rw [size_app]; omega) (Nat.le_refl _) (by omega) c1
    have e1 : decide (badR (s ++ t) < 0) = decide (badR t < 0) := decide_eq_decide.2 hl.1
    simp only [c1, decide_true, if_true, c2, hv _ hst, hv t ht, Option.bind_some, e1, bne_self_eq_false, Bool.false_eq_true, if_false]
    by_cases c3 : badR t < 0
    · have c4 : badR (s ++ t) < 0 := hl.1.2 c3
      have r1 := cntFrom_range s s.size 0
      have r2 := cntFrom_range t t.size 0
      have e2 : countR (s ++ t) = wrap64 (countR s + countR t) := by
        unfold countR
        rw [if_pos c1, if_pos c3, if_pos c4, w64 (by omega)]
        exact hl.2
      simp only [c3, decide_true, if_true, hc _ hst, hc s hs, hc t ht, Option.bind_some, e2]
      exact end_
    · simp only [c3, decide_false, Bool.false_eq_true, if_false]
      exact end_
  · simp only [c1, decide_false, Bool.false_eq_true, if_false]
    exact end_
theorem joins_pure (s : ByteArray) (hs : s.size ≤ 140737488351232) (t : ByteArray) (ht : t.size ≤ 140737488351232) : ∃ k, codicillaw01_RunesJoins.f k s t = some true := joins_true s t hs ht
end Go.Proofs.YtkcjekboakoejaaDoor.Print
