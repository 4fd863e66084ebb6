/- Plain law: the reference's Bad, Valid, Count are the program's; RunesReads' plain function answers true. -/
import Derived.Test.YtkcjekboakoejaaDoorQRuneG
import Derived.Test.YtkcjekboakoejaaDoorHAlive01
import Derived.Test.YtkcjekboakoejaaDoorPrint2
import Derived.Test.YtkcjekboakoejaaDoorPrint3
namespace Go.Proofs.YtkcjekboakoejaaDoor.Print
open Go.RowKit Go.Proofs.YtkcjekboakoejaaDoorW.PrintWords Go.Proofs.YtkcjekboakoejaaDoorW.PrintLast
set_option linter.unusedVariables false
set_option linter.unusedSimpArgs false

theorem ext_g (s : ByteArray) (p i : Nat) : g (s.extract p s.size) i = g s (p + i) := by
  unfold g
  rw [ByteArray.data_extract, Array.toList_extract, List.extract_eq_take_drop, List.take_of_length_le (by rw [List.length_drop, Array.length_toList]; exact Nat.le_refl _)]
  simp [List.getD_eq_getElem?_getD, List.getElem?_drop]
theorem ext_dec (s : ByteArray) (p : Nat) : decAt (s.extract p s.size) 0 = decAt s p := by
  unfold decAt
  rw [ext_g, ext_g, ext_g, ext_g, ByteArray.size_extract]
  simp only [Nat.min_self, Nat.sub_zero, Nat.add_zero, Nat.zero_add]
/-- badFrom and cntFrom by what stands at a place. -/
theorem bad_step (s : ByteArray) (f pos : Nat) (h : pos < s.size) : badFrom s (f + 1) pos = match decAt s pos with | some (_, n) => badFrom s f (pos + n) | none => (pos : Int) := by
  simp only [badFrom]
  rw [if_pos h]
  have hg := good_iff s pos h
  have hd := decode_dec s pos h
  cases hc : decAt s pos with
  | none =>
    rw [hc] at hg
    rw [if_neg (fun h1 => by obtain ⟨r, n, h2⟩ := hg.1 h1; cases h2)]
  | some p =>
    obtain ⟨r, n⟩ := p
    rw [hc] at hg hd
    rw [if_pos (hg.2 ⟨r, n, rfl⟩), hd]
    rfl
theorem cnt_step (s : ByteArray) (f pos : Nat) {r n : Nat} (h : pos < s.size) (hd : decAt s pos = some (r, n)) : cntFrom s (f + 1) pos = 1 + cntFrom s f (pos + n) := by
  simp only [cntFrom]
  rw [if_pos h, decode_dec s pos h, hd]
  rfl
theorem dec_n {s : ByteArray} {pos r n : Nat} (h : decAt s pos = some (r, n)) : 1 ≤ n ∧ n ≤ s.size - pos := ⟨(dec_match h).2.2.2.1, (dec_match h).2.2.2.2.2⟩
theorem bad_range (s : ByteArray) : ∀ f pos, badFrom s f pos = -1 ∨ ((pos : Int) ≤ badFrom s f pos ∧ badFrom s f pos < s.size) := by
  intro f
  induction f with
  | zero => intro pos; exact .inl rfl
  | succ f ih =>
    intro pos
    by_cases h : pos < s.size
    · rw [bad_step s f pos h]
      cases hd : decAt s pos with
      | none => exact .inr ⟨Int.le_refl _, by simp only; omega⟩
      | some p =>
        obtain ⟨r, n⟩ := p
        have := dec_n hd
        rcases ih (pos + n) with h1 | ⟨h1, h2⟩
        · exact .inl h1
        · exact .inr ⟨by simp only; omega, h2⟩
    · exact .inl (badFrom_end s _ _ h)
theorem ext_size (s : ByteArray) (p : Nat) : (s.extract p s.size).size ≤ s.size := by rw [ByteArray.size_extract]; omega
theorem rbad_from (s : ByteArray) (hz : s.size ≤ 140737488351232) (d : Nat) : ∀ pos f : Nat, s.size - pos ≤ d → d ≤ f → pos ≤ s.size → Ev (fun k => codicilref01_Bad.l0 k s (pos : Int)) (badFrom s f pos) := by
  have stop : ∀ pos f : Nat, ¬ pos < s.size → Ev (fun k => codicilref01_Bad.l0 k s (pos : Int)) (badFrom s f pos) := fun pos f h => by
    rw [badFrom_end s f pos h]
    refine Ev.step (f := fun _ => some _) (fun k => ?_) (Ev.now _)
    simp only [codicilref01_Bad.l0]
    rw [if_neg (by omega)]
  induction d with
  | zero => intro pos f hd hf hp; exact stop pos f (by omega)
  | succ d ih =>
    intro pos f hd hf hp
    by_cases h : pos < s.size
    · obtain ⟨f, rfl⟩ : ∃ m, f = m + 1 := ⟨f - 1, by omega⟩
      rw [bad_step s f pos h]
      have hF := rfirst_ev (s.extract pos s.size) (Nat.le_trans (ext_size s pos) hz)
      rw [firstR_dec, ext_dec] at hF
      have e1 : (pos : Int).toNat = pos := by omega
      cases hc : decAt s pos with
      | none =>
        rw [hc] at hF
        refine Ev.step (fun k => ?_) (Ev.bind hF (f := fun k bt => if bt.2.2 = true then codicilref01_Bad.l0 k s (wrap64 ((pos : Int) + bt.2.1)) else some (pos : Int)) ?_)
        · simp only [codicilref01_Bad.l0]
          rw [if_pos (by omega), if_pos (by omega), if_pos (by omega), e1]
        · exact Ev.now _
      | some p =>
        obtain ⟨r, n⟩ := p
        rw [hc] at hF
        have hn := dec_n hc
        have hw : wrap64 ((pos : Int) + (n : Int)) = ((pos + n : Nat) : Int) := by rw [w64 (by omega)]; rfl
        refine Ev.step (fun k => ?_) (Ev.bind hF (f := fun k bt => if bt.2.2 = true then codicilref01_Bad.l0 k s (wrap64 ((pos : Int) + bt.2.1)) else some (pos : Int)) ?_)
        · simp only [codicilref01_Bad.l0]
          rw [if_pos (by omega), if_pos (by omega), if_pos (by omega), e1]
        · simp only [tell, if_true, hw]
          exact ih (pos + n) f (by omega) (by omega) (by omega)
    · exact stop pos f h
theorem rbad_ev (s : ByteArray) (hz : s.size ≤ 140737488351232) : Ev (fun k => codicilref01_Bad.f k s) (badR s) := rbad_from s hz s.size 0 s.size (by omega) (Nat.le_refl _) (by omega)
theorem rcount_from (s : ByteArray) (hz : s.size ≤ 140737488351232) (d : Nat) : ∀ (pos f : Nat) (c : Int), s.size - pos ≤ d → d ≤ f → pos ≤ s.size → 0 ≤ c → c ≤ pos → Ev (fun k => codicilref01_Count.l0 k s c (pos : Int)) (if badFrom s f pos < 0 then c + cntFrom s f pos else -1) := by
  have stop : ∀ (pos f : Nat) (c : Int), ¬ pos < s.size → Ev (fun k => codicilref01_Count.l0 k s c (pos : Int)) (if badFrom s f pos < 0 then c + cntFrom s f pos else -1) := fun pos f c h => by
    rw [badFrom_end s f pos h, cntFrom_end s f pos h, if_pos (by decide), Int.add_zero]
    refine Ev.step (f := fun _ => some _) (fun k => ?_) (Ev.now _)
    simp only [codicilref01_Count.l0]
    rw [if_neg (by omega)]
  induction d with
  | zero => intro pos f c hd hf hp h0 h1; exact stop pos f c (by omega)
  | succ d ih =>
    intro pos f c hd hf hp h0 h1
    by_cases h : pos < s.size
    · obtain ⟨f, rfl⟩ : ∃ m, f = m + 1 := ⟨f - 1, by omega⟩
      rw [bad_step s f pos h]
      have hF := rfirst_ev (s.extract pos s.size) (Nat.le_trans (ext_size s pos) hz)
      rw [firstR_dec, ext_dec] at hF
      have e1 : (pos : Int).toNat = pos := by omega
      cases hc : decAt s pos with
      | none =>
        rw [hc] at hF
        simp only
        rw [if_neg (by omega)]
        refine Ev.step (fun k => ?_) (Ev.bind hF (f := fun k bt => if bt.2.2 = true then codicilref01_Count.l0 k s (wrap64 (c + 1)) (wrap64 ((pos : Int) + bt.2.1)) else some (-1)) ?_)
        · simp only [codicilref01_Count.l0]
          rw [if_pos (by omega), if_pos (by omega), if_pos (by omega), e1]
        · exact Ev.now _
      | some p =>
        obtain ⟨r, n⟩ := p
        rw [hc] at hF
        have hn := dec_n hc
        have hw : wrap64 ((pos : Int) + (n : Int)) = ((pos + n : Nat) : Int) := by rw [w64 (by omega)]; rfl
        have hw2 : wrap64 (c + 1) = c + 1 := w64 (by omega)
        rw [cnt_step s f pos h hc]
        refine Ev.step (fun k => ?_) (Ev.bind hF (f := fun k bt => if bt.2.2 = true then codicilref01_Count.l0 k s (wrap64 (c + 1)) (wrap64 ((pos : Int) + bt.2.1)) else some (-1)) ?_)
        · simp only [codicilref01_Count.l0]
          rw [if_pos (by omega), if_pos (by omega), if_pos (by omega), e1]
        · simp only [tell, if_true, hw, hw2]
          have := ih (pos + n) f (c + 1) (by omega) (by omega) (by omega) (by omega) (by omega)
          rw [Int.add_assoc] at this
          exact this
    · exact stop pos f c h
theorem rcount_ev (s : ByteArray) (hz : s.size ≤ 140737488351232) : Ev (fun k => codicilref01_Count.f k s) (countR s) := by
  have := rcount_from s hz s.size 0 s.size 0 (by omega) (Nat.le_refl _) (by omega) (by omega) (by omega)
  rw [Int.zero_add] at this
  exact this
theorem reads_true (s : ByteArray) (hz : s.size ≤ 140737488351232) : ∃ k, codicillaw01_RunesReads.f k s = some true := by
  refine Ev.rounds ?_
  unfold codicillaw01_RunesReads.f
  by_cases h : (s.size : Int) > 4096
  · simp only [h, if_true, alive01_at, Option.bind_some]
    exact Ev.now _
  · have h1 : runes_First.f s = some (firstR s) := rfl
    have h2 : runes_Bad.f s = some (badR s) := by unfold runes_Bad.f; rw [if_pos hz]
    have h3 : runes_Valid.f s = some (decide (badR s < 0)) := by unfold runes_Valid.f; rw [h2]; rfl
    have h4 : runes_Count.f s = some (countR s) := by unfold runes_Count.f; rw [if_pos hz]
    have h5 : Ev (fun k => codicilref01_Valid.f k s) (decide (badR s < 0)) := by
      unfold codicilref01_Valid.f
      exact Ev.bind (rbad_ev s hz) (Ev.now _)
    simp only [h, if_false, h1, h2, h3, h4, alive01_at, Option.bind_some]
    refine Ev.bind (rfirst_ev s hz) (Ev.bind h5 ?_)
    simp only [beq_self_eq_true, if_true]
    refine Ev.bind (rbad_ev s hz) ?_
    simp only [if_true]
    refine Ev.bind (rcount_ev s hz) ?_
    simp only [if_true]
    exact Ev.now _
end Go.Proofs.YtkcjekboakoejaaDoor.Print
