/- Plain law: SubjectTells' plain function answers true. -/
import Derived.Test.YtkcjekboakoejaaQTurns
import Derived.Test.YtkcjekboakoejaaPrint8
import Derived.Test.YtkcjekboakoejaaPrint7
import Derived.Test.YtkcjekboakoejaaPrint9
namespace Go.Proofs.Ytkcjekboakoejaa.Print
open Go.RowKit Go.Proofs.YtkcjekboakoejaaW.PrintWords Go.Proofs.YtkcjekboakoejaaW.PrintLast
set_option linter.unusedVariables false
set_option linter.unusedSimpArgs false
theorem last_ev (a0 : ByteArray) (a1 : Int) (l : List V30) (hl : l.length ≤ 1048576) : ∃ A, Ev (fun k => subject_Last.f k a0 a1 l) A ∧ Ev (fun k => codicilref18_Last.f k a0 a1 l) A := by
  have hlen := live_len l
  by_cases h0 : ((live l).length : Int) = 0
  · refine ⟨(0, 0, false, false), ?_, ?_⟩
    · unfold subject_Last.f
      refine Ev.bind (live_ev a0 a1 l hl) ?_
      simp only [h0, if_true]
      exact Ev.now _
    · unfold codicilref18_Last.f
      refine Ev.bind (rlive_ev a0 a1 l hl) ?_
      simp only [h0, if_true]
      exact Ev.now _
  · have hw : wrap64 (((live l).length : Int) - 1) = ((live l).length : Int) - 1 := by unfold wrap64; omega
    have h1 : 0 ≤ ((live l).length : Int) - 1 := by omega
    have h2 : ((live l).length : Int) - 1 < ((live l).length : Int) := by omega
    refine ⟨tup (rd_T30 (live l) (((live l).length : Int) - 1), true), ?_, ?_⟩
    · unfold subject_Last.f
      refine Ev.bind (live_ev a0 a1 l hl) ?_
      simp only [h0, if_false, hw, h1, h2, if_true]
      exact Ev.now _
    · unfold codicilref18_Last.f
      refine Ev.bind (rlive_ev a0 a1 l hl) ?_
      simp only [h0, if_false, hw, h1, h2, if_true]
      exact Ev.now _
theorem find_ev (a0 : ByteArray) (a1 : Int) (l : List V30) (n : Int) (hl : l.length ≤ 1048576) : ∃ A, subject_Find.f a0 a1 l n = some A ∧ Ev (fun k => codicilref18_Find.f k a0 a1 l n) A := by
  refine ⟨_, by unfold subject_Find.f; rw [if_pos hl], ?_⟩
  unfold codicilref18_Find.f
  refine Ev.bind (at_ev n a0 a1 l hl) ?_
  have hr := idx_range (fun x => x.f0 == n) l 0 (by decide)
  unfold firstP
  generalize idxP (fun x => x.f0 == n) l 0 = i at hr ⊢
  by_cases c1 : i < 0
  · have d1 : ¬ 0 ≤ i := by omega
    simp only [c1, if_true, d1, if_false]
    exact Ev.now _
  · have d1 : 0 ≤ i := by omega
    have d2 : i < (l.length : Int) := by omega
    simp only [c1, if_false, d1, d2, if_true]
    exact Ev.now _
theorem hasf_ev (a0 : ByteArray) (a1 : Int) (l : List V30) (n : Int) (hl : l.length ≤ 1048576) : ∃ A, subject_Has.f a0 a1 l n = some A ∧ Ev (fun k => codicilref18_Has.f k a0 a1 l n) A :=
  ⟨_, by unfold subject_Has.f; rw [if_pos hl]; rfl, rhas_ev a0 a1 l n hl⟩
theorem lsame_loop (l : List V30) (hl : l.length ≤ 1048576) (d : Nat) : ∀ j, j ≤ l.length → l.length - j = d → Ev (fun k => codicillaw18_same.l0 k l l (j : Int)) true := by
  induction d with
  | zero =>
    intro j hj hd
    refine Ev.step (f := fun _ => some _) (fun k => ?_) (Ev.now _)
    simp only [codicillaw18_same.l0]
    rw [if_neg (by omega)]
  | succ d ih =>
    intro j hj hd
    refine Ev.step (fun k => ?_) (ih (j + 1) (by omega) (by omega))
    simp only [codicillaw18_same.l0]
    rw [if_pos (by omega), if_pos (by omega), if_pos (by omega), if_neg (by simp), wrap_nat (by omega)]
theorem lsame_ev (l : List V30) (hl : l.length ≤ 1048576) : Ev (fun k => codicillaw18_same.f k l l) true := by
  simp only [codicillaw18_same.f, if_true]
  exact lsame_loop l hl l.length 0 (by omega) (by omega)
theorem tells_end (a0 : ByteArray) (a1 : Int) (l : List V30) (hs : a0.size ≤ 1048576) (hl : l.length ≤ 1048576) (hf : fitB l = true) (x10 x14 x18 : Bool) (p0 p1 q0 q1 u0 u1 : Int) (p2 q2 u2 : Bool) :
    Ev (fun k => codicillaw18_SubjectTells.j2 k x10 x10 x14 x14 x18 x18 false a0 a1 l p0 p1 p2 p0 p1 p2 q0 q1 q2 q0 q1 q2 u0 u1 u2 u0 u1 u2) true := by
  refine Ev.step (f := ?f) (fun k => ?h) ?e
  case h =>
    simp only [codicillaw18_SubjectTells.j2]
    exact rfl
  have hm : subject_May.f a0 a1 l = some (mayE (mayB a0 a1 l)) := by unfold subject_May.f; rw [if_pos hf]
  have hll := Nat.le_trans (live_len l) hl
  simp only [Bool.false_eq_true, if_false, hm, Option.bind_some]
  refine Ev.bind (rmay_ev a0 a1 l hs hl) ?_
  simp only [if_true]
  refine Ev.bind (live_ev a0 a1 l hl) (Ev.bind (rlive_ev a0 a1 l hl) (Ev.bind (lsame_ev _ hll) ?_))
  simp only [if_true, beq_self_eq_true, Bool.and_self]
  exact Ev.bind alive18_ev (Ev.now _)
theorem tells_true (a0 : ByteArray) (a1 : Int) (l : List V30) (n id : Int) (nm : ByteArray) (hid : idsOk l = true) : ∃ k, codicillaw18_SubjectTells.f k a0 a1 l n id nm = some true := by
  refine Ev.rounds ?_
  have hbad : Ev (fun k => codicillaw18_SubjectTells.j0 k n id nm true a0 a1 l) true := by
    refine Ev.step (f := fun k => (codicillaw18_alive.f k).bind fun t => some t) (fun k => ?_) (Ev.bind alive18_ev (Ev.now _))
    simp only [codicillaw18_SubjectTells.j0]
    rw [if_pos trivial]
  unfold codicillaw18_SubjectTells.f
  rcases heavy_is a0 a1 l with h | ⟨h, hl, hs⟩
  · simp only [h, Option.bind_some, if_true]
    exact hbad
  · simp only [h, Option.bind_some, Bool.false_eq_true, if_false]
    by_cases c : (nm.size : Int) > 1024
    · simp only [c, decide_true]
      exact hbad
    · simp only [c, decide_false]
      have hl' : l.length ≤ 1048576 := by omega
      have hs' : a0.size ≤ 1048576 := by omega
      have hn' : nm.size ≤ 1048576 := by omega
      have hf : fitB l = true := by simp [fitB, hid]; omega
      obtain ⟨A, eA, eA'⟩ := last_ev a0 a1 l hl'
      obtain ⟨B, hB, eB⟩ := find_ev a0 a1 l n hl'
      obtain ⟨C, hC, eC⟩ := hasf_ev a0 a1 l id hl'
      have hnm : subject_Name.f nm = some (nameB nm) := rfl
      refine Ev.step (f := ?f) (fun k => ?h) ?e
      case h =>
        simp only [codicillaw18_SubjectTells.j0]
        exact rfl
      simp only [Bool.false_eq_true, if_false, hB, hC, Option.bind_some, subject_New.f, hnm]
      refine Ev.bind eA (Ev.bind eA' (Ev.bind eB (Ev.bind eC ?_)))
      obtain ⟨A0, A1, A2, A3⟩ := A
      obtain ⟨B0, B1, B2, B3⟩ := B
      obtain ⟨C0, C1, C2, C3⟩ := C
      have key : Ev (fun k => codicillaw18_SubjectTells.j1 k nm A3 A3 B3 B3 C3 C3 (if nameB nm = true then 0 else 2) (nameB nm) a0 a1 l A0 A1 A2 A0 A1 A2 B0 B1 B2 B0 B1 B2 C0 C1 C2 C0 C1 C2 (if nameB nm = true then nm else ⟨#[]⟩) (if nameB nm = true then 1 else 0) [] (if nameB nm = true then nm else ⟨#[]⟩) (if nameB nm = true then 1 else 0)) true := by
        refine Ev.step (f := ?f2) (fun k => ?h2) ?e2
        case h2 =>
          simp only [codicillaw18_SubjectTells.j1]
          exact rfl
        simp only [hnm, Option.bind_some, bne_self_eq_false, Bool.false_eq_true, if_false]
        refine Ev.bind (rsame_ev _ _ _ (by simp)) ?_
        simp only [if_true]
        cases nameB nm with
        | true => exact tells_end a0 a1 l hs' hl' hf _ _ _ _ _ _ _ _ _ _ _ _
        | false => exact tells_end a0 a1 l hs' hl' hf _ _ _ _ _ _ _ _ _ _ _ _
      have hne := rname_ev nm hn'
      generalize nameB nm = b at key hne
      cases b with
      | true =>
        simp only [if_true] at key ⊢
        simp only [Option.bind_some]
        refine Ev.bind hne ?_
        simp only [if_true]
        exact key
      | false =>
        simp only [Bool.false_eq_true, if_false] at key ⊢
        simp only [Option.bind_some]
        refine Ev.bind hne ?_
        simp only [Bool.false_eq_true, if_false]
        exact key
theorem tells_pure (y : S24) (h : G24 y) (n : Int) (_ : (Lit.int .i64 n).wf = true) (id : Int) (_ : (Lit.int .u32 id).wf = true) (nm : ByteArray) (_ : nm.size ≤ 140737488351232) : ∃ k, codicillaw18_SubjectTells.f k y.f0 y.f1 y.f2 n id nm = some true :=
  tells_true _ _ _ _ _ _ (ids_of h.2.2.2.2)
end Go.Proofs.Ytkcjekboakoejaa.Print
