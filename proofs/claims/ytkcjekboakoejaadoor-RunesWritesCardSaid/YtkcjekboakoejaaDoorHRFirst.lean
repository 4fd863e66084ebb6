/- Contract of runes.First: the first code point of a text. -/
import Derived.Test.YtkcjekboakoejaaDoorHRBytes
namespace Go.Proofs.YtkcjekboakoejaaDoor.Print
open Go.RowKit Go.Proofs.YtkcjekboakoejaaDoorW.PrintWords Go.Proofs.YtkcjekboakoejaaDoorW.PrintLast
set_option linter.unusedVariables false
set_option linter.unusedSimpArgs false

/-- The rune that a range tells first; 0 where there is none. -/
def headR (s : ByteArray) : Int := if 0 < s.size then ((Utf8.decode s 0).1 : Int) else 0
/-- Does the text begin with b at this place? -/
def hasAt (s b : ByteArray) (at' : Nat) : Bool := decide (b.size + at' ≤ s.size) && decide ((s.extract at' (at' + b.size)).toList = b.toList)
def firstR (s : ByteArray) : Int × Int × Bool := if 0 < s.size ∧ hasAt s (bytesP (headR s)) 0 = true then (headR s, ((bytesP (headR s)).size : Int), true) else (0, 0, false)

theorem iter_below (w : World) (s : ByteArray) (p : Nat) : Below w.heap.size w (w.iter s p) := (Below.refl _ w).alloc (Nat.le_refl _) _
theorem toList_nil {s : ByteArray} (h : 0 < s.size) : s.toList.isEmpty = false := by
  rw [ByteArray.toList_eq]
  cases e : s.data.toList with
  | nil =>
    have := congrArg List.length e
    rw [data_length] at this
    simp only [List.length_nil] at this
    omega
  | cons x r => rfl
set_option maxRecDepth 100000 in
set_option maxHeartbeats 2000000 in
theorem first_rune (s : ByteArray) (w : World) : Calls Tryd.prog 21 #[.string s] w fun e w' => e = .returned (.tuple #[.int .i32 (firstR s).1, .int .i64 (firstR s).2.1, .bool (firstR s).2.2]) ∧ Below w.heap.size w w' := by
  have hb := fun r W => bytes_any r W
  by_cases h0 : 0 < s.size
  · have HH : headR s = ((Utf8.decode s 0).1 : Int) := by unfold headR; rw [if_pos h0]
    have hE := toList_nil h0
    have HF := Aside0.mk (show firstR s = if 0 < s.size ∧ hasAt s (bytesP (headR s)) 0 = true then (headR s, ((bytesP (headR s)).size : Int), true) else (0, 0, false) from rfl)
    rw [HH] at HF
    by_cases hz : (bytesP ((Utf8.decode s 0).1 : Int)).size ≤ s.size
    · have hz' : ¬ s.size < (bytesP ((Utf8.decode s 0).1 : Int)).size := by omega
      have hb1 := hb ((Utf8.decode s 0).1 : Int)
      clear hb
      generalize bytesP ((Utf8.decode s 0).1 : Int) = b at *
      go_enter Tryd.func21, Tryd.ntmps21
      go_wp2
      go_loopw [2] (fun n w' => w' = w.iter s 0 ∧ n = .int .i32 0) (fun _ w' => 0)
      case atStart => exact ⟨rfl, rfl⟩
      case round =>
        obtain ⟨rfl, rfl⟩ := hrel
        have hnx : ∀ ty, (Instr.next (.pointer (some ⟨w.heap.size, 0, none⟩)) true ty).run Tryd.prog (w.iter s 0) = _ := fun ty => run_next_any w s 0 ty h0
        go_wp2_with (go_at_call 35; refine (hb1 _).mono ?_; rintro e w' ⟨rfl, rfl⟩)
        · rename_i hx
          have e : firstR s = (0, 0, false) := by
            rw [HF.out, if_neg]
            rintro ⟨_, h⟩
            simp only [hasAt, Nat.zero_add, Bool.and_eq_true, decide_eq_true_eq] at h
            simp [h.2] at hx
          rw [e]
          refine bodyPost_ret (v := .tuple #[.int .i32 0, .int .i64 0, .bool false]) ?_ rfl ?_
          · simp [results, Tryd.results21, go_sem]
          · exact ⟨rfl, iter_below _ _ _⟩
        · rename_i hx
          have e : firstR s = (((Utf8.decode s 0).1 : Int), (b.size : Int), true) := by
            rw [HF.out, if_pos]
            refine ⟨h0, ?_⟩
            simp only [hasAt, Nat.zero_add, Nat.add_zero, Bool.and_eq_true, decide_eq_true_eq]
            exact ⟨hz, by simpa using hx⟩
          rw [e]
          refine bodyPost_ret (v := .tuple #[.int .i32 ((Utf8.decode s 0).1 : Int), .int .i64 (b.size : Int), .bool true]) ?_ rfl ?_
          · simp [results, Tryd.results21, go_sem]
          · exact ⟨rfl, iter_below _ _ _⟩
    · have hz' : s.size < (bytesP ((Utf8.decode s 0).1 : Int)).size := by omega
      go_enter Tryd.func21, Tryd.ntmps21
      go_wp2
      go_loopw [2] (fun n w' => w' = w.iter s 0 ∧ n = .int .i32 0) (fun _ w' => 0)
      case atStart => exact ⟨rfl, rfl⟩
      case round =>
        obtain ⟨rfl, rfl⟩ := hrel
        have hnx : ∀ ty, (Instr.next (.pointer (some ⟨w.heap.size, 0, none⟩)) true ty).run Tryd.prog (w.iter s 0) = _ := fun ty => run_next_any w s 0 ty h0
        go_wp2_with (go_at_call 35; refine (hb _ _).mono ?_; rintro e w' ⟨rfl, rfl⟩)
        have e : firstR s = (0, 0, false) := by
          rw [HF.out, if_neg]
          rintro ⟨_, h⟩
          simp only [hasAt, Nat.zero_add, Nat.add_zero, Bool.and_eq_true, decide_eq_true_eq] at h
          exact hz h.1
        rw [e]
        refine bodyPost_ret (v := .tuple #[.int .i32 0, .int .i64 0, .bool false]) ?_ rfl ?_
        · simp [results, Tryd.results21, go_sem]
        · exact ⟨rfl, iter_below _ _ _⟩
  · obtain rfl : s = ⟨#[]⟩ := by
      obtain ⟨⟨l⟩⟩ := s
      cases l with
      | nil => rfl
      | cons x r => exact absurd (Nat.succ_pos _) h0
    have HF : firstR ⟨#[]⟩ = (0, 0, false) := by unfold firstR; rw [if_neg (fun h => h0 h.1)]
    rw [HF]
    go_enter Tryd.func21, Tryd.ntmps21
    go_wp2
    go_loopw [2] (fun n w' => w' = w.iter ⟨#[]⟩ 0 ∧ n = .int .i32 0) (fun _ w' => 0)
    case atStart => exact ⟨rfl, rfl⟩
    case round =>
      obtain ⟨rfl, rfl⟩ := hrel
      have hnx : ∀ ty, (Instr.next (.pointer (some ⟨w.heap.size, 0, none⟩)) true ty).run Tryd.prog (w.iter ⟨#[]⟩ 0) = _ := fun ty => run_next_end w ⟨#[]⟩ 0 ty h0
      go_wp2_with (go_at_call 35; refine (hb _ _).mono ?_; rintro e w' ⟨rfl, rfl⟩)
      refine bodyPost_ret (v := .tuple #[.int .i32 0, .int .i64 0, .bool false]) ?_ rfl ?_
      · simp [results, Tryd.results21, go_sem]
      · exact ⟨rfl, iter_below _ _ _⟩
def runes_First.f (a0 : ByteArray) : Option (Int × Int × Bool) := some (firstR a0)
theorem runes_First.calls (a0 : ByteArray) (r1 : Int) (r2 : Int) (r3 : Bool) (w : World) (h : runes_First.f a0 = some (r1, r2, r3)) :
    Calls Tryd.prog 21 #[.string a0] w fun e w' => e = .returned (.tuple #[.int .i32 r1, .int .i64 r2, .bool r3]) ∧ Below w.heap.size w w' := by
  have e := Option.some.inj h
  have := first_rune a0 w
  rw [e] at this
  exact this
end Go.Proofs.YtkcjekboakoejaaDoor.Print
