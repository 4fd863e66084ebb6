/- Contract of runes.Bad: where a text is not valid. -/
import Derived.Test.YtkcjekboakoejaaDoorHRFirst
import Derived.Laws.Strings2
namespace Go.Proofs.YtkcjekboakoejaaDoor.Print
open Go.RowKit Go.Proofs.YtkcjekboakoejaaDoorW.PrintWords Go.Proofs.YtkcjekboakoejaaDoorW.PrintLast
set_option linter.unusedVariables false
set_option linter.unusedSimpArgs false

/-- The first place, from pos on, where the bytes of the rune that a range tells do not stand; -1: none. -/
def badFrom (s : ByteArray) : Nat → Nat → Int
  | 0, _ => -1
  | f + 1, pos => if pos < s.size then (if hasAt s (bytesP ((Utf8.decode s pos).1 : Int)) pos = true then badFrom s f (pos + (Utf8.decode s pos).2) else (pos : Int)) else -1
theorem badFrom_end (s : ByteArray) (f pos : Nat) (h : ¬ pos < s.size) : badFrom s f pos = -1 := by cases f <;> simp [badFrom, h]
def badR (s : ByteArray) : Int := badFrom s s.size 0
theorem width_pos (s : ByteArray) (pos : Nat) (h : pos < s.size) : 1 ≤ (Utf8.decode s pos).2 := by
  by_cases ha : (s[pos]'h).toNat < 128
  · rw [decode_ascii s pos h ha]
    exact Nat.le_refl _
  · exact (decode_high s pos h (by omega)).2

set_option maxRecDepth 100000 in
set_option maxHeartbeats 4000000 in
theorem bad_any (s : ByteArray) (hs : s.size ≤ 140737488351232) (w : World) : Calls Tryd.prog 25 #[.string s] w fun e w' => e = .returned (.int .i64 (badR s)) ∧ Below w.heap.size w w' := by
  have hb := fun r W => bytes_any r W
  go_enter Tryd.func25, Tryd.ntmps25
  go_wp2
  go_loopw [3] (fun n w' => ∃ (pos b : Nat), w' = w.iter s pos ∧ badFrom s b pos = badR s ∧ s.size ≤ pos + b) (fun _ w' => s.size - w'.iterPos w.heap.size)
  case atStart => exact ⟨0, s.size, rfl, rfl, by omega⟩
  case round =>
    obtain ⟨pos, f, rfl, hc, hf⟩ := hrel
    by_cases hp : pos < s.size
    · have hnx : ∀ ty, (Instr.next (.pointer (some ⟨w.heap.size, 0, none⟩)) true ty).run Tryd.prog (w.iter s pos) = _ := fun ty => run_next_any w s pos ty hp
      obtain ⟨f, rfl⟩ : ∃ m, f = m + 1 := ⟨f - 1, by omega⟩
      simp only [badFrom] at hc
      rw [if_pos hp] at hc
      have hb1 := hb ((Utf8.decode s pos).1 : Int)
      have hwd := width_pos s pos hp
      have HC := Aside0.mk hc
      have HW := Aside0.mk hwd
      have HFU := Aside0.mk hf
      clear hb hc hwd hf
      generalize bytesP ((Utf8.decode s pos).1 : Int) = b at *
      have hw1 : wrap64 ((s.size : Int) - (pos : Int)) = ((s.size - pos : Nat) : Int) := by unfold wrap64; omega
      by_cases hz : b.size ≤ s.size - pos
      · have hz' : ¬ s.size - pos < b.size := by omega
        have hw2 : wrap64 ((pos : Int) + (b.size : Int)) = ((pos + b.size : Nat) : Int) := by unfold wrap64; omega
        have hz2 : pos + b.size ≤ s.size := by omega
        have i1 : (0 : Int) ≤ (pos : Int) := by omega
        have i2 : (pos : Int) ≤ (pos : Int) + (b.size : Int) := by omega
        have i3 : (pos : Int) + (b.size : Int) ≤ (s.size : Int) := by omega
        have e1 : (pos : Int).toNat = pos := by omega
        have e2 : ((pos : Int) + (b.size : Int)).toNat = pos + b.size := by omega
        go_wp2_with (go_at_call 35; refine (hb1 _).mono ?_; rintro e w' ⟨rfl, rfl⟩)
        · rename_i hx
          have e : badR s = (pos : Int) := by
            rw [← HC.out, if_neg]
            intro h
            simp only [hasAt, Bool.and_eq_true, decide_eq_true_eq] at h
            rcases hx with hx | hx
            · omega
            · simp [h.2] at hx
          rw [e]
          go_ret
          exact ⟨rfl, iter_below _ _ _⟩
        · rename_i hx
          have e : badFrom s f (pos + (Utf8.decode s pos).2) = badR s := by
            rw [← HC.out, if_pos]
            simp only [hasAt, Bool.and_eq_true, decide_eq_true_eq]
            exact ⟨by omega, by simpa using hx.2⟩
          have := HW.out
          have := HFU.out
          refine ⟨⟨_, f, rfl, e, by omega⟩, ?_⟩
          simp
          omega
      · have hz' : s.size - pos < b.size := by omega
        go_wp2_with (go_at_call 35; refine (hb1 _).mono ?_; rintro e w' ⟨rfl, rfl⟩)
        have e : badR s = (pos : Int) := by
          rw [← HC.out, if_neg]
          intro h
          simp only [hasAt, Bool.and_eq_true, decide_eq_true_eq] at h
          omega
        rw [e]
        go_ret
        exact ⟨rfl, iter_below _ _ _⟩
    · have hnx : ∀ ty, (Instr.next (.pointer (some ⟨w.heap.size, 0, none⟩)) true ty).run Tryd.prog (w.iter s pos) = _ := fun ty => run_next_end w s pos ty hp
      go_wp2
      go_ret
      rw [badFrom_end s f pos hp] at hc
      rw [← hc]
      exact ⟨rfl, iter_below _ _ _⟩
def runes_Bad.f (a0 : ByteArray) : Option (Int) := if a0.size ≤ 140737488351232 then some (badR a0) else none
theorem runes_Bad.calls (a0 : ByteArray) (r : Int) (w : World) (h : runes_Bad.f a0 = some r) :
    Calls Tryd.prog 25 #[.string a0] w fun e w' => e = .returned (.int .i64 r) ∧ Below w.heap.size w w' := by
  unfold runes_Bad.f at h
  split at h
  · rename_i hs
    obtain rfl := Option.some.inj h
    exact bad_any a0 hs w
  · cases h
end Go.Proofs.YtkcjekboakoejaaDoor.Print
