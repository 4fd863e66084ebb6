/- Contract of runes.Count: how many code points a text has. -/
import Derived.Test.YtkcjekboakoejaaDoorHRBad
namespace Go.Proofs.YtkcjekboakoejaaDoor.Print
open Go.RowKit Go.Proofs.YtkcjekboakoejaaDoorW.PrintWords Go.Proofs.YtkcjekboakoejaaDoorW.PrintLast
set_option linter.unusedVariables false
set_option linter.unusedSimpArgs false

/-- How many runes a range tells from pos on. -/
def cntFrom (s : ByteArray) : Nat → Nat → Int
  | 0, _ => 0
  | f + 1, pos => if pos < s.size then 1 + cntFrom s f (pos + (Utf8.decode s pos).2) else 0
theorem cntFrom_end (s : ByteArray) (f pos : Nat) (h : ¬ pos < s.size) : cntFrom s f pos = 0 := by cases f <;> simp [cntFrom, h]
theorem cntFrom_range (s : ByteArray) : ∀ f pos, 0 ≤ cntFrom s f pos ∧ cntFrom s f pos ≤ f := by
  intro f
  induction f with
  | zero => intro pos; exact ⟨Int.le_refl _, Int.le_refl _⟩
  | succ f ih =>
    intro pos
    simp only [cntFrom]
    have := ih (pos + (Utf8.decode s pos).2)
    split <;> omega
def countR (s : ByteArray) : Int := if badR s < 0 then cntFrom s s.size 0 else -1
theorem valid_any (s : ByteArray) (hs : s.size ≤ 140737488351232) (w : World) : Calls Tryd.prog 23 #[.string s] w fun e w' => e = .returned (.bool (decide (badR s < 0))) ∧ Below w.heap.size w w' := by
  have hb := bad_any s hs w
  generalize badR s = b at *
  go_enter Tryd.func23, Tryd.ntmps23
  go_wp2_with (go_at_call 25; refine hb.mono ?_; rintro e w' ⟨rfl, hb'⟩)
  go_ret
  exact ⟨rfl, hb'⟩

set_option maxRecDepth 100000 in
set_option maxHeartbeats 4000000 in
theorem count_any (s : ByteArray) (hs : s.size ≤ 140737488351232) (w : World) : Calls Tryd.prog 27 #[.string s] w fun e w' => e = .returned (.int .i64 (countR s)) ∧ Below w.heap.size w w' := by
  have hv := valid_any s hs w
  have HC := Aside0.mk (show countR s = if badR s < 0 then cntFrom s s.size 0 else -1 from rfl)
  by_cases hn : badR s < 0
  · simp only [hn, decide_true] at hv
    have e : countR s = cntFrom s s.size 0 := by rw [HC.out, if_pos hn]
    rw [e]
    clear e HC hn
    go_enter Tryd.func27, Tryd.ntmps27
    go_wp2_with (go_at_call 23; refine hv.mono ?_; rintro e w1 ⟨rfl, hb'⟩)
    have HB := Aside0.mk hb'
    clear hb' hv
    go_loopw [2] (fun n w' => ∃ (pos f : Nat) (acc : Int), w' = w1.iter s pos ∧ n = .int .i64 acc ∧ acc + cntFrom s f pos = cntFrom s s.size 0 ∧ s.size ≤ pos + f ∧ 0 ≤ acc ∧ f ≤ s.size) (fun _ w' => s.size - w'.iterPos w1.heap.size)
    case atStart => exact ⟨0, s.size, 0, rfl, rfl, by omega, by omega, by omega, Nat.le_refl _⟩
    case round =>
      obtain ⟨pos, f, acc, rfl, rfl, hc, hf, ha, hfs⟩ := hrel
      by_cases hp : pos < s.size
      · have hnx : ∀ ty, (Instr.next (.pointer (some ⟨w1.heap.size, 0, none⟩)) true ty).run Tryd.prog (w1.iter s pos) = _ := fun ty => run_next_any w1 s pos ty hp
        obtain ⟨f, rfl⟩ : ∃ m, f = m + 1 := ⟨f - 1, by omega⟩
        simp only [cntFrom] at hc
        rw [if_pos hp] at hc
        have hwd := width_pos s pos hp
        have hr := cntFrom_range s f (pos + (Utf8.decode s pos).2)
        have hr2 := cntFrom_range s s.size 0
        have hwr : wrap64 (acc + 1) = acc + 1 := by unfold wrap64; omega
        go_wp2
        go_roundw
        case rel => exact ⟨_, f, acc + 1, rfl, by simp only [hwr], by omega, by omega, by omega, by omega⟩
        case measure =>
          simp
          omega
      · have hnx : ∀ ty, (Instr.next (.pointer (some ⟨w1.heap.size, 0, none⟩)) true ty).run Tryd.prog (w1.iter s pos) = _ := fun ty => run_next_end w1 s pos ty hp
        go_wp2
        rw [cntFrom_end s f pos hp] at hc
        have e : acc = cntFrom s s.size 0 := by omega
        rw [← e]
        go_ret
        exact ⟨rfl, below_step HB.out (iter_below _ _ _)⟩
  · simp only [hn, decide_false] at hv
    have e : countR s = -1 := by rw [HC.out, if_neg hn]
    rw [e]
    go_enter Tryd.func27, Tryd.ntmps27
    go_wp2_with (go_at_call 23; refine hv.mono ?_; rintro e w1 ⟨rfl, hb'⟩)
    go_ret
    exact ⟨rfl, hb'⟩
def runes_Count.f (a0 : ByteArray) : Option (Int) := if a0.size ≤ 140737488351232 then some (countR a0) else none
theorem runes_Count.calls (a0 : ByteArray) (r : Int) (w : World) (h : runes_Count.f a0 = some r) :
    Calls Tryd.prog 27 #[.string a0] w fun e w' => e = .returned (.int .i64 r) ∧ Below w.heap.size w w' := by
  unfold runes_Count.f at h
  split at h
  · rename_i hs
    obtain rfl := Option.some.inj h
    exact count_any a0 hs w
  · cases h
end Go.Proofs.YtkcjekboakoejaaDoor.Print
