/- Contracts of http.token, http.value, http.target, and of strings.Trim at blanks. -/
import Derived.Test.YtddjhmelniphgaaGreatDoorHTPred
import Derived.Shelf.Strings.SlTrimAscii
import Derived.WalkSmall
namespace Go.Proofs.YtddjhmelniphgaaGreatDoor.Print
open Go.RowKit Go.Shelf Go.Lib Go.Proofs.YtddjhmelniphgaaGreatDoorW.PrintWords Go.Proofs.YtddjhmelniphgaaGreatDoorW.PrintLast
set_option linter.unusedVariables false
set_option linter.unusedSimpArgs false
/-- A text without blanks at its ends. -/
def trimN (s : ByteArray) : ByteArray := ⟨(Lib.trimS s.data.toList [32, 9]).toArray⟩
theorem trim_any (s : ByteArray) (hs : s.size ≤ 140737488351232) (w : World) : Calls Tryz.prog 58 #[.string s, .string ⟨#[32, 9]⟩] w fun e w' => e = .returned (.string (trimN s)) ∧ Below w.heap.size w w' :=
  Any.strings_Trim_laid Tryz.lays160 (by kernel_rfl) s ⟨#[32, 9]⟩ w (by omega) (by decide) (Go.Proofs.ascii_of_all (by decide))
def tokenB (s : ByteArray) : Bool := !s.toList.isEmpty && !decide (0 ≤ Lib.idxFunc oddT true s)
def valueB (s : ByteArray) : Bool := !decide (0 ≤ Lib.idxFunc oddV true s) && ((trimN s).toList == s.toList)
def targetB (s : ByteArray) : Bool := Lib.hasPrefix s.data.toList [47] && !decide (0 ≤ Lib.idxFunc oddG true s)
set_option maxHeartbeats 1000000 in
theorem token_any (s : ByteArray) (w : World) : Calls Tryz.prog 31 #[.string s] w fun e w' => e = .returned (.bool (tokenB s)) ∧ Below w.heap.size w w' := by
  have hC := Tryz.strings_ContainsFunc 62 #[] (enters_of Tryz.func62 (by kernel_rfl) rfl) oddT s w (oddT_closure w)
  have hn : tokenB s = tokenB s := rfl
  conv at hn => rhs; unfold tokenB
  have HN := Aside0.mk hn
  clear hn
  generalize decide (0 ≤ Lib.idxFunc oddT true s) = b at hC HN
  by_cases h0 : s.toList = []
  · go_enter Tryz.func31, Tryz.ntmps31
    go_wp2
    go_ret
    exact ⟨by rw [HN.out]; simp [h0], Below.refl _ _⟩
  · cases b
    all_goals
      go_enter Tryz.func31, Tryz.ntmps31
      go_wp2_with (go_at_call 63; refine hC.mono ?_; rintro e w' ⟨rfl, hb'⟩)
      go_ret
      exact ⟨by rw [HN.out]; simp [h0], hb'⟩
set_option maxHeartbeats 1000000 in
theorem target_any (s : ByteArray) (w : World) : Calls Tryz.prog 32 #[.string s] w fun e w' => e = .returned (.bool (targetB s)) ∧ Below w.heap.size w w' := by
  have hC := fun W => Tryz.strings_ContainsFunc 64 #[] (enters_of Tryz.func64 (by kernel_rfl) rfl) oddG s W (oddG_closure W)
  have hP := fun W => Tryz.strings_HasPrefix s ⟨#[47]⟩ W
  have hn : targetB s = targetB s := rfl
  conv at hn => rhs; unfold targetB
  have HN := Aside0.mk hn
  clear hn
  simp only at hP
  generalize decide (0 ≤ Lib.idxFunc oddG true s) = b at hC HN
  generalize Lib.hasPrefix s.data.toList [47] = p at hP HN
  cases p <;> cases b
  all_goals
    go_enter Tryz.func32, Tryz.ntmps32
    go_wp2_with (first | (go_at_call 63; refine (hC _).mono ?_; rintro e w' ⟨rfl, hb'⟩) | (go_at_call 65; refine (hP _).mono ?_; rintro e w' ⟨rfl, rfl⟩))
    go_ret
    exact ⟨by rw [HN.out]; simp, by first | exact hb' | exact Below.refl _ _⟩
set_option maxHeartbeats 1000000 in
theorem value_any (s : ByteArray) (hs : s.size ≤ 140737488351232) (w : World) : Calls Tryz.prog 41 #[.string s] w fun e w' => e = .returned (.bool (valueB s)) ∧ Below w.heap.size w w' := by
  have hC := fun W => Tryz.strings_ContainsFunc 71 #[] (enters_of Tryz.func71 (by kernel_rfl) rfl) oddV s W (oddV_closure W)
  have hT := fun W => trim_any s hs W
  have hn : valueB s = valueB s := rfl
  conv at hn => rhs; unfold valueB
  have HN := Aside0.mk hn
  clear hn hs
  generalize decide (0 ≤ Lib.idxFunc oddV true s) = b at hC HN
  generalize trimN s = t at hT HN
  cases b
  · go_enter Tryz.func41, Tryz.ntmps41
    go_wp2_with (first | (go_at_call 63; refine (hC _).mono ?_; rintro e w1 ⟨rfl, hb1⟩) | (go_at_call 58; refine (hT _).mono ?_; rintro e w2 ⟨rfl, hb2⟩))
    go_ret
    exact ⟨by rw [HN.out]; simp, hb1.trans (hb2.mono hb1.size)⟩
  · go_enter Tryz.func41, Tryz.ntmps41
    go_wp2_with (go_at_call 63; refine (hC _).mono ?_; rintro e w1 ⟨rfl, hb1⟩)
    go_ret
    exact ⟨by rw [HN.out]; simp, hb1⟩
/-- What http.must gives up with. -/
def oops (e : Int) : List PanicEntry := [{ v := .iface 26 (.int .i64 e), recovered := false }]
theorem must_true (e : Int) (w : World) : Calls Tryz.prog 44 #[.bool true, .int .i64 e] w fun en w' => en = .returned (.tuple #[]) ∧ w' = w := by
  go_enter Tryz.func44, Tryz.ntmps44
  go_wp2
  go_end0
  exact ⟨rfl, rfl⟩
theorem must_false (e : Int) (w : World) : Calls Tryz.prog 44 #[.bool false, .int .i64 e] w fun en w' => en = .panicked (oops e) ∧ w' = w := by
  go_enter Tryz.func44, Tryz.ntmps44
  go_wp2
  exact ⟨rfl, rfl, rfl⟩
end Go.Proofs.YtddjhmelniphgaaGreatDoor.Print
