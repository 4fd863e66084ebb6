/- Plain law of names: a full name that is split and joined again; the last part of what is joined; NameBack's plain function answers true. -/
import Derived.Test.YtkcjekboakoejaaDoorQTells11
import Derived.Test.YtkcjekboakoejaaDoorPrint4
namespace Go.Proofs.YtkcjekboakoejaaDoor.Print
open Go.RowKit Go.Proofs.YtkcjekboakoejaaDoorW.PrintWords Go.Proofs.YtkcjekboakoejaaDoorW.PrintLast
set_option linter.unusedVariables false
set_option linter.unusedSimpArgs false

theorem full_all {s : ByteArray} (h : fullB s = true) : (partsL s.data.toList).all simpleL = true := by
  unfold fullB at h
  rw [all_list, Bool.and_eq_true] at h
  exact h.1
theorem split_small (s : ByteArray) : (splitP s).1.size ≤ s.size ∧ (splitP s).2.size ≤ s.size := by
  unfold splitP cutAt
  split
  · simp only [ByteArray.size_extract]
    omega
  · exact ⟨Nat.zero_le _, Nat.le_refl _⟩
theorem put_back {s : ByteArray} (h : fullB s = true) : putN (splitP s).1 (splitP s).2 = s := by
  rcases last_split s with ⟨h1, h2⟩ | ⟨i, h1, h2, h3, h4⟩
  · have e : splitP s = (⟨#[]⟩, s) := by unfold splitP cutAt; rw [h1]; rfl
    rw [e]
    unfold putN
    rw [if_pos (.inl (by rw [ByteArray.toList_eq]))]
  · have e : splitP s = (s.extract 0 i, s.extract (i + 1) s.size) := by unfold splitP cutAt; rw [h2, if_pos (by omega)]; rfl
    rw [e]
    have hne : ¬ (s.extract 0 i).toList = [] := fun hn => by
      rw [ByteArray.toList_eq, ext_take] at hn
      have ha := full_all h
      rw [h3, partsL_dot, hn] at ha
      simp [partsL, simpleL] at ha
    have hd : dotB (s.extract (i + 1) s.size) = false := by
      unfold dotB
      rw [ext_drop]
      exact decide_eq_false h4
    unfold putN
    rw [if_neg (fun x => x.elim hne (fun y => by simp only at y; rw [hd] at y; cases y))]
    apply ba_ext
    simp only [ByteArray.data_append, Array.toList_append, ext_take, ext_drop, List.append_assoc]
    exact h3.symm
/-- The last part. -/
theorem last_parts (s : ByteArray) : (partsL s.data.toList).getLast? = some (splitP s).2.data.toList := by
  rcases last_split s with ⟨h1, h2⟩ | ⟨i, h1, h2, h3, h4⟩
  · have e : splitP s = (⟨#[]⟩, s) := by unfold splitP cutAt; rw [h1]; rfl
    rw [e, partsL_nodot h2]
    rfl
  · have e : splitP s = (s.extract 0 i, s.extract (i + 1) s.size) := by unfold splitP cutAt; rw [h2, if_pos (by omega)]; rfl
    rw [e, ext_drop]
    rw [h3, partsL_dot, partsL_nodot h4, ← h3]
    simp
theorem last_put (s t : ByteArray) : (splitP (putN s t)).2 = (splitP t).2 := by
  unfold putN
  split
  · rfl
  · apply ba_ext
    have h1 := last_parts ((s ++ ⟨#[46]⟩) ++ t)
    have h2 := last_parts t
    have e : ((s ++ ⟨#[46]⟩) ++ t).data.toList = s.data.toList ++ 46 :: t.data.toList := by simp [ByteArray.data_append]
    rw [e, partsL_dot, List.getLast?_append, h2, Option.some_or] at h1
    exact (Option.some.inj h1).symm
theorem last_simple {s : ByteArray} (h : fullB s = true) : simpleB (splitP s).2 = true := by
  have ha := List.all_eq_true.1 (full_all h)
  rw [simpleB_list]
  exact ha _ (List.mem_of_getLast? (last_parts s))
theorem back11_pure (s : ByteArray) (hs : s.size ≤ 140737488351232) (t : ByteArray) (ht : t.size ≤ 140737488351232) : ∃ k, codicillaw11_NameBack.f k s t = some true := by
  refine Ev.rounds ?_
  have big : Ev (fun k => codicillaw11_NameBack.j0 k s t true) true := by
    refine Ev.step (fun k => ?_) (Ev.bind alive11_ev (f := fun _ t => some t) (Ev.now _))
    simp only [codicillaw11_NameBack.j0, if_true]
  unfold codicillaw11_NameBack.f
  by_cases h : (s.size : Int) > 4096
  · simp only [h, if_true]
    exact big
  simp only [h, if_false]
  by_cases h2 : (t.size : Int) > 4096
  · rw [decide_eq_true h2]
    exact big
  rw [decide_eq_false h2]
  have hs4 : s.size ≤ 4096 := by omega
  have ht4 : t.size ≤ 4096 := by omega
  have rest : Ev (fun k => codicillaw11_NameBack.j1 k s t false) true := by
    have hj := join_ev s t hs4 ht4
    have hz := (put_size s t hs4 ht4).2.2
    have hx : (putN s t).size ≤ 140737488351232 := by
      unfold putN
      split
      · exact ht
      · exact hz
    have hl := last_put s t
    generalize putN s t = x at *
    refine Ev.step (fun k => by simp only [codicillaw11_NameBack.j1, Bool.false_eq_true, if_false]; rfl) ?_
    refine Ev.bind hj ?_
    unfold tellN
    by_cases hf : fullB x = true
    · rw [if_pos hf]
      by_cases hp : Lib.containsS prims x = true
      · rw [if_pos hp]
        simp only [Bool.false_eq_true, if_false]
        exact Ev.bind alive11_ev (Ev.now _)
      · rw [if_neg hp]
        simp only [if_true]
        refine Ev.bind (split_ev x hx) (Ev.bind (split_ev t ht) ?_)
        have hls := last_simple hf
        rw [hl] at hls
        simp only [full_f x hx, hf, Option.bind_some, if_true, name_Simple.f, hl, hls]
        exact Ev.bind alive11_ev (Ev.now _)
    · rw [if_neg hf]
      simp only [Bool.false_eq_true, if_false]
      exact Ev.bind alive11_ev (Ev.now _)
  refine Ev.step (fun k => by simp only [codicillaw11_NameBack.j0, Bool.false_eq_true, if_false]; rfl) ?_
  have hsm := split_small s
  refine Ev.bind (split_ev s hs) (Ev.bind (join_ev _ _ (by omega) (by omega)) ?_)
  simp only [full_f s hs, Option.bind_some, name_Primitive.f]
  by_cases hf : fullB s = true
  · rw [put_back hf]
    unfold tellN
    by_cases hp : Lib.containsS prims s = true
    · simp only [hf, hp, if_true, show (false == true) = false from rfl, Bool.false_eq_true, if_false]
      exact rest
    · have hp' : Lib.containsS prims s = false := by simpa using hp
      simp only [hf, hp', if_true, Bool.false_eq_true, if_false, show (true == false) = false from rfl, bne_self_eq_false]
      exact rest
  · simp only [hf, Bool.false_eq_true, if_false]
    exact rest
end Go.Proofs.YtkcjekboakoejaaDoor.Print
