/- Contract of name.Simple: which texts are simple names. -/
import Derived.Test.YtkcjekboakoejaaDoorPrint0
import Derived.Test.YtkcjekboakoejaaDoorHShelf
import Derived.Laws.Runes
import Derived.Laws.RangeAny
import Derived.LoopTactic
namespace Go.Proofs.YtkcjekboakoejaaDoor.Print
open Go.RowKit Go.Shelf Go.Lib Go.Proofs.YtkcjekboakoejaaDoorW.PrintWords Go.Proofs.YtkcjekboakoejaaDoorW.PrintLast
set_option linter.unusedVariables false
set_option linter.unusedSimpArgs false

/-- A letter of a name. -/
def letB (r : Nat) : Bool := decide (97 ≤ r) && decide (r ≤ 122) || decide (65 ≤ r) && decide (r ≤ 90) || decide (r = 95)
/-- May it stand at this place? -/
def okB (i r : Nat) : Bool := letB r || (decide (i ≠ 0) && decide (48 ≤ r) && decide (r ≤ 57))
def goodB : Nat → List UInt8 → Bool
  | _, [] => true
  | i, c :: l => okB i c.toNat && goodB (i + 1) l
/-- Which texts are simple names. -/
def simpleB (s : ByteArray) : Bool := goodB 0 s.data.toList && !s.toList.isEmpty && decide (s.size ≤ 128)

theorem let_closure (r : Nat) (w : World) : Calls Tryd.prog 40 #[.int .i32 r] w fun e w' => e = .returned (.bool (letB r)) ∧ w' = w := by
  rcases (by omega : r < 65 ∨ (65 ≤ r ∧ r ≤ 90) ∨ (91 ≤ r ∧ r ≤ 94) ∨ r = 95 ∨ r = 96 ∨ (97 ≤ r ∧ r ≤ 122) ∨ 123 ≤ r) with h | ⟨h, h'⟩ | ⟨h, h'⟩ | h | h | ⟨h, h'⟩ | h
  all_goals
    have hb : letB r = letB r := rfl
    conv at hb => rhs; simp only [letB]
    have HB := Aside0.mk hb
    clear hb
    go_enter Tryd.func40, Tryd.ntmps40
    go_wp2
    all_goals first | (exfalso; omega) | (go_ret; refine ⟨?_, rfl⟩; rw [HB.out]; refine congrArg (fun b => Ending.returned (.bool b)) ?_; rw [Bool.eq_iff_iff]; (first | (simp; done) | (simp; omega)))

theorem iter_below (w : World) (s : ByteArray) (p : Nat) : Below w.heap.size w (w.iter s p) := (Below.refl _ w).alloc (Nat.le_refl _) _

set_option maxRecDepth 100000 in
set_option maxHeartbeats 4000000 in
theorem simple_any (s : ByteArray) (w : World) : Calls Tryd.prog 14 #[.string s] w fun e w' => e = .returned (.bool (simpleB s)) ∧ Below w.heap.size w w' := by
  have hn : simpleB s = simpleB s := rfl
  conv at hn => rhs; unfold simpleB
  have HN := Aside0.mk hn
  clear hn
  go_enter Tryd.func14, Tryd.ntmps14
  go_wp2
  go_loopw [4, 5] (fun _ _ w' => ∃ pos : Nat, w' = w.iter s pos ∧ pos ≤ s.size ∧ Aside0 (goodB 0 s.data.toList = goodB pos (s.data.toList.drop pos))) (fun _ _ w' => s.size - w'.iterPos w.heap.size)
  case atStart => exact ⟨0, rfl, Nat.zero_le _, Aside0.mk rfl⟩
  case round =>
    obtain ⟨pos, rfl, hpz, HG⟩ := hrel
    by_cases hp : pos < s.size
    · have hnx : ∀ ty, (Instr.next (.pointer (some ⟨w.heap.size, 0, none⟩)) true ty).run Tryd.prog (w.iter s pos) = _ := fun ty => run_next_any w s pos ty hp
      have hg := HG.out
      have hl : pos < s.data.toList.length := by rw [Array.length_toList]; exact hp
      rw [List.drop_eq_getElem_cons hl] at hg
      have hc : s.data.toList[pos]'hl = s[pos] := by rw [Array.getElem_toList]; rfl
      simp only [goodB] at hg
      rw [hc] at hg
      have HG2 := Aside0.mk hg
      clear hg HG hc
      by_cases ha : (s[pos]'hp).toNat < 128
      · simp only [decode_ascii s pos hp ha] at hnx
        have hlet := let_closure (s[pos]'hp).toNat
        have hokd : okB pos (s[pos]'hp).toNat = (letB (s[pos]'hp).toNat || (decide (pos ≠ 0) && decide (48 ≤ (s[pos]'hp).toNat) && decide ((s[pos]'hp).toNat ≤ 57))) := rfl
        have HO := Aside0.mk hokd
        clear hokd
        generalize (s[pos]'hp).toNat = c at *
        generalize letB c = b at hlet HO
        have goon : okB pos c = true → Aside0 (goodB 0 s.data.toList = goodB (pos + 1) (s.data.toList.drop (pos + 1))) := fun h => Aside0.mk (by rw [HG2.out, h, Bool.true_and])
        have nogo : okB pos c = false → simpleB s = false := fun h => by rw [HN.out, HG2.out, h]; simp
        cases b with
        | true =>
          have G := goon (by rw [HO.out]; rfl)
          clear goon nogo HG2
          go_wp2_with (go_at_call 40; refine (hlet _).mono ?_; rintro e w' ⟨rfl, rfl⟩)
          go_roundw
          case rel => exact ⟨pos + 1, rfl, hp, G⟩
          case measure => simp; omega
        | false =>
          by_cases hp0 : pos = 0
          · subst hp0
            have G := nogo (by rw [HO.out]; rfl)
            clear goon nogo HG2
            go_wp2_with (go_at_call 40; refine (hlet _).mono ?_; rintro e w' ⟨rfl, rfl⟩)
            go_ret
            exact ⟨by first | rfl | (rw [G]; rfl), iter_below _ _ _⟩
          · have e0 : ((pos : Int) == 0) = false := by simp; omega
            by_cases c1 : c < 48
            · have G := nogo (by rw [HO.out]; simp; omega)
              clear goon nogo HG2
              go_wp2_with (go_at_call 40; refine (hlet _).mono ?_; rintro e w' ⟨rfl, rfl⟩)
              go_ret
              exact ⟨by first | rfl | (rw [G]; rfl), iter_below _ _ _⟩
            · by_cases c2 : c ≤ 57
              · have G := goon (by rw [HO.out]; simp; omega)
                clear goon nogo HG2
                go_wp2_with (go_at_call 40; refine (hlet _).mono ?_; rintro e w' ⟨rfl, rfl⟩)
                go_roundw
                case rel => exact ⟨pos + 1, rfl, hp, G⟩
                case measure => simp; omega
              · have G := nogo (by rw [HO.out]; simp; omega)
                clear goon nogo HG2
                go_wp2_with (go_at_call 40; refine (hlet _).mono ?_; rintro e w' ⟨rfl, rfl⟩)
                go_ret
                exact ⟨by first | rfl | (rw [G]; rfl), iter_below _ _ _⟩
      · have hh := decode_high s pos hp (by omega)
        have hlet := let_closure (Utf8.decode s pos).1
        have hbad : letB (Utf8.decode s pos).1 = false := by
          simp only [letB]
          simp
          omega
        have hbad2 : letB (s[pos]'hp).toNat = false := by
          simp only [letB]
          simp
          omega
        have G : simpleB s = false := by
          rw [HN.out, HG2.out, okB, hbad2]
          have : ¬ (s[pos]'hp).toNat ≤ 57 := by omega
          simp [this]
        rw [hbad] at hlet
        have hr := hh.1
        clear hbad hbad2 HG2 hh ha
        generalize Utf8.decode s pos = p at *
        obtain ⟨r, wd⟩ := p
        simp only at hnx hlet hr
        by_cases hp0 : pos = 0
        · subst hp0
          go_wp2_with (go_at_call 40; refine (hlet _).mono ?_; rintro e w' ⟨rfl, rfl⟩)
          go_ret
          exact ⟨by first | rfl | (rw [G]; rfl), iter_below _ _ _⟩
        · have e0 : ((pos : Int) == 0) = false := by simp; omega
          go_wp2_with (go_at_call 40; refine (hlet _).mono ?_; rintro e w' ⟨rfl, rfl⟩)
          go_ret
          exact ⟨by first | rfl | (rw [G]; rfl), iter_below _ _ _⟩
    · have hnx : ∀ ty, (Instr.next (.pointer (some ⟨w.heap.size, 0, none⟩)) true ty).run Tryd.prog (w.iter s pos) = _ := fun ty => run_next_end w s pos ty hp
      obtain rfl : pos = s.size := by omega
      have hg := HG.out
      rw [List.drop_eq_nil_of_le (by rw [Array.length_toList]; exact Nat.le_refl _)] at hg
      simp only [goodB] at hg
      have G : simpleB s = (!s.toList.isEmpty && decide (s.size ≤ 128)) := by rw [HN.out, hg, Bool.true_and]
      have HG3 := Aside0.mk G
      clear hg HG G
      by_cases h0 : s.toList = []
      · go_wp2
        go_ret
        exact ⟨by rw [HG3.out]; simp [h0], iter_below _ _ _⟩
      · by_cases h1 : s.size ≤ 128
        · go_wp2
          go_ret
          exact ⟨by rw [HG3.out]; simp [h0, h1]; omega, iter_below _ _ _⟩
        · go_wp2
          go_ret
          exact ⟨by rw [HG3.out]; simp [h0, h1]; omega, iter_below _ _ _⟩
end Go.Proofs.YtkcjekboakoejaaDoor.Print
