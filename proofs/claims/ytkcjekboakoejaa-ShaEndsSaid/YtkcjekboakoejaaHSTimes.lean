/- Contracts of the reference's numbers of three words: times, add, power, above. -/
import Derived.Test.YtkcjekboakoejaaHSRot
import Derived.Test.YtkcjekboakoejaaHSq
import Derived.BigGuardPart
import Derived.BigRegion
import Derived.LoopTactic
import Derived.Deep.QuietTactic
import Derived.BigQuiet
namespace Go.Proofs.Ytkcjekboakoejaa.Print
open Go Go.RowKit Go.Proofs.YtkcjekboakoejaaW.PrintWords
set_option linter.unusedVariables false
set_option linter.unusedSimpArgs false

/-- One word of a product: its low half, its high half, the word, what is carried (as the model reckons). -/
def tLo (a b : Int) : Int := IntKind.u64.wrap (bits .and .u64 a 4294967295 * b)
def tHi (a b l : Int) : Int := IntKind.u64.wrap (IntKind.u64.wrap (a / 4294967296 * b) + l / 4294967296)
def tW (l h : Int) : Int := bits .or .u64 (bits .and .u64 l 4294967295) (IntKind.u64.wrap (h * 4294967296))
def tL0 (a0 b : Int) : Int := IntKind.u64.wrap (tLo a0 b)
def tH0 (a0 b : Int) : Int := tHi a0 b (tL0 a0 b)
def tL1 (a0 a1 b : Int) : Int := IntKind.u64.wrap (tLo a1 b + tH0 a0 b / 4294967296)
def tH1 (a0 a1 b : Int) : Int := tHi a1 b (tL1 a0 a1 b)
def tL2 (a0 a1 a2 b : Int) : Int := IntKind.u64.wrap (tLo a2 b + tH1 a0 a1 b / 4294967296)
def tH2 (a0 a1 a2 b : Int) : Int := tHi a2 b (tL2 a0 a1 a2 b)
def T0 (a0 b : Int) : Int := tW (tL0 a0 b) (tH0 a0 b)
def T1 (a0 a1 b : Int) : Int := tW (tL1 a0 a1 b) (tH1 a0 a1 b)
def T2 (a0 a1 a2 b : Int) : Int := tW (tL2 a0 a1 a2 b) (tH2 a0 a1 a2 b)
set_option maxRecDepth 1000000 in
set_option maxHeartbeats 4000000 in
theorem times_any (a0 a1 a2 b : Int) (w : World) : Calls Try.prog 87 #[.agg #[.int .u64 a0, .int .u64 a1, .int .u64 a2], .int .u64 b] w fun e w' => e = .returned (.agg #[.int .u64 (T0 a0 b), .int .u64 (T1 a0 a1 b), .int .u64 (T2 a0 a1 a2 b)]) ∧ Below w.heap.size w w' := by
  go_enter Try.func87, Try.ntmps87
  go_wp2
  refine wp_loop_rounds 4 ?_
  rw [rounds_succ]
  go_wp2
  rw [rounds_succ]
  go_wp2
  rw [rounds_succ]
  go_wp2
  rw [rounds_succ]
  go_wp2
  refine bodyPost_ret (v := .agg #[.int .u64 (T0 a0 b), .int .u64 (T1 a0 a1 b), .int .u64 (T2 a0 a1 a2 b)]) ?_ rfl ⟨rfl, ?_⟩
  · simp [results, Try.results87, go_sem, T0, T1, T2, tW, tL0, tL1, tL2, tH0, tH1, tH2, tHi, tLo]
  · repeat (first | (with_reducible first | exact Below.refl _ _ | apply below_alloc | apply pw_below_drewN | apply below_drew1 | refine below_set ?_ (by omega)))
/-- Is the first above the second? -/
def abI (a0 a1 a2 b0 b1 b2 : Int) : Bool := if (a2 != b2) = true then decide (b2 < a2) else if (a1 != b1) = true then decide (b1 < a1) else if (a0 != b0) = true then decide (b0 < a0) else false
set_option maxRecDepth 1000000 in
set_option maxHeartbeats 4000000 in
theorem above_any (a0 a1 a2 b0 b1 b2 : Int) (w : World) : Calls Try.prog 82 #[.agg #[.int .u64 a0, .int .u64 a1, .int .u64 a2], .agg #[.int .u64 b0, .int .u64 b1, .int .u64 b2]] w fun e w' => e = .returned (.bool (abI a0 a1 a2 b0 b1 b2)) ∧ Below w.heap.size w w' := by
  by_cases h2 : (a2 != b2) = true
  · have hr : abI a0 a1 a2 b0 b1 b2 = decide (b2 < a2) := by unfold abI; rw [if_pos h2]
    rw [hr]
    clear hr
    go_enter Try.func82, Try.ntmps82
    go_wp2
    refine wp_loop_rounds 4 ?_
    rw [rounds_succ]
    go_wp2
    go_quiet (fail)
    go_wp2
    go_quiet (fail)
    go_wp2
    go_ret
    exact ⟨rfl, by repeat (first | (with_reducible first | exact Below.refl _ _ | apply below_alloc | apply pw_below_drewN | apply below_drew1 | refine below_set ?_ (by omega)))⟩
  · replace h2 : (a2 != b2) = false := by simpa using h2
    by_cases h1 : (a1 != b1) = true
    · have hr : abI a0 a1 a2 b0 b1 b2 = decide (b1 < a1) := by unfold abI; rw [if_neg (by rw [h2]; decide), if_pos h1]
      rw [hr]
      clear hr
      go_enter Try.func82, Try.ntmps82
      go_wp2
      refine wp_loop_rounds 4 ?_
      rw [rounds_succ]
      go_wp2
      go_quiet (fail)
      go_wp2
      rw [rounds_succ]
      go_wp2
      go_quiet (fail)
      go_wp2
      go_quiet (fail)
      go_wp2
      go_ret
      exact ⟨rfl, by repeat (first | (with_reducible first | exact Below.refl _ _ | apply below_alloc | apply pw_below_drewN | apply below_drew1 | refine below_set ?_ (by omega)))⟩
    · replace h1 : (a1 != b1) = false := by simpa using h1
      by_cases h0 : (a0 != b0) = true
      · have hr : abI a0 a1 a2 b0 b1 b2 = decide (b0 < a0) := by unfold abI; rw [if_neg (by rw [h2]; decide), if_neg (by rw [h1]; decide), if_pos h0]
        rw [hr]
        clear hr
        go_enter Try.func82, Try.ntmps82
        go_wp2
        refine wp_loop_rounds 4 ?_
        rw [rounds_succ]
        go_wp2
        go_quiet (fail)
        go_wp2
        rw [rounds_succ]
        go_wp2
        go_quiet (fail)
        go_wp2
        rw [rounds_succ]
        go_wp2
        go_quiet (fail)
        go_wp2
        go_quiet (fail)
        go_wp2
        go_ret
        exact ⟨rfl, by repeat (first | (with_reducible first | exact Below.refl _ _ | apply below_alloc | apply pw_below_drewN | apply below_drew1 | refine below_set ?_ (by omega)))⟩
      · replace h0 : (a0 != b0) = false := by simpa using h0
        have hr : abI a0 a1 a2 b0 b1 b2 = false := by unfold abI; rw [if_neg (by rw [h2]; decide), if_neg (by rw [h1]; decide), if_neg (by rw [h0]; decide)]
        rw [hr]
        clear hr
        go_enter Try.func82, Try.ntmps82
        go_wp2
        refine wp_loop_rounds 4 ?_
        rw [rounds_succ]
        go_wp2
        go_quiet (fail)
        go_wp2
        rw [rounds_succ]
        go_wp2
        go_quiet (fail)
        go_wp2
        rw [rounds_succ]
        go_wp2
        go_quiet (fail)
        go_wp2
        rw [rounds_succ]
        go_wp2
        go_ret
        exact ⟨rfl, by repeat (first | (with_reducible first | exact Below.refl _ _ | apply below_alloc | apply pw_below_drewN | apply below_drew1 | refine below_set ?_ (by omega)))⟩
/-- What is carried, behind a sum (s: of the two words, t: with what was carried). -/
def aC (s a t : Int) : Int := if s < a then 1 else if t < s then 1 else 0
theorem aC_lt {s a t : Int} (h : s < a) : aC s a t = 1 := by unfold aC; rw [if_pos h]
theorem aC_t {s a t : Int} (h : a ≤ s) (h1 : t < s) : aC s a t = 1 := by unfold aC; rw [if_neg (by omega), if_pos h1]
theorem aC_0 {s a t : Int} (h : a ≤ s) (h1 : s ≤ t) : aC s a t = 0 := by unfold aC; rw [if_neg (by omega), if_neg (by omega)]
def aS (a b : Int) : Int := IntKind.u64.wrap (a + b)
def A0 (a0 b0 : Int) : Int := IntKind.u64.wrap (aS a0 b0)
def A1 (a0 b0 a1 b1 : Int) : Int := IntKind.u64.wrap (aS a1 b1 + aC (aS a0 b0) a0 (A0 a0 b0))
def A2 (a0 b0 a1 b1 a2 b2 : Int) : Int := IntKind.u64.wrap (aS a2 b2 + aC (aS a1 b1) a1 (A1 a0 b0 a1 b1))
set_option maxRecDepth 1000000 in
set_option maxHeartbeats 8000000 in
theorem add3_any (a0 a1 a2 b0 b1 b2 : Int) (w : World) : Calls Try.prog 88 #[.agg #[.int .u64 a0, .int .u64 a1, .int .u64 a2], .agg #[.int .u64 b0, .int .u64 b1, .int .u64 b2]] w fun e w' => e = .returned (.agg #[.int .u64 (A0 a0 b0), .int .u64 (A1 a0 b0 a1 b1), .int .u64 (A2 a0 b0 a1 b1 a2 b2)]) ∧ Below w.heap.size w w' := by
  go_enter Try.func88, Try.ntmps88
  go_wp2
  refine wp_loop_rounds 4 ?_
  rw [rounds_succ]
  go_wp2
  go_quiet (fail)
  go_wp2
  all_goals
    rw [rounds_succ]
    go_wp2
    go_quiet (fail)
    go_wp2
  all_goals
    rw [rounds_succ]
    go_wp2
    go_quiet (fail)
    go_wp2
  all_goals
    rw [rounds_succ]
    go_wp2
  all_goals
    refine bodyPost_ret (v := .agg #[.int .u64 (A0 a0 b0), .int .u64 (A1 a0 b0 a1 b1), .int .u64 (A2 a0 b0 a1 b1 a2 b2)]) ?_ rfl ⟨rfl, by repeat (first | (with_reducible first | exact Below.refl _ _ | apply below_alloc | apply pw_below_drewN | apply below_drew1 | refine below_set ?_ (by omega)))⟩
    simp [results, Try.results88, go_sem]
    refine ⟨rfl, ?_, ?_⟩
    · simp only [A1, A0, aS]
      first
        | rw [aC_lt (s := IntKind.u64.wrap (a0 + b0)) (a := a0) ‹_›]
        | rw [aC_t (s := IntKind.u64.wrap (a0 + b0)) (a := a0) (t := IntKind.u64.wrap (IntKind.u64.wrap (a0 + b0))) ‹_› ‹_›]
        | rw [aC_0 (s := IntKind.u64.wrap (a0 + b0)) (a := a0) (t := IntKind.u64.wrap (IntKind.u64.wrap (a0 + b0))) ‹_› ‹_›, Int.add_zero]
    · simp only [A2, A1, A0, aS]
      first
        | rw [aC_lt (s := IntKind.u64.wrap (a0 + b0)) (a := a0) ‹_›]
        | rw [aC_t (s := IntKind.u64.wrap (a0 + b0)) (a := a0) (t := IntKind.u64.wrap (IntKind.u64.wrap (a0 + b0))) ‹_› ‹_›]
        | rw [aC_0 (s := IntKind.u64.wrap (a0 + b0)) (a := a0) (t := IntKind.u64.wrap (IntKind.u64.wrap (a0 + b0))) ‹_› ‹_›, Int.add_zero]
      first
        | rw [aC_lt (s := IntKind.u64.wrap (a1 + b1)) (a := a1) ‹_›]
        | rw [aC_t (s := IntKind.u64.wrap (a1 + b1)) (a := a1) (t := IntKind.u64.wrap (IntKind.u64.wrap (a1 + b1) + 1)) ‹_› ‹_›]
        | rw [aC_0 (s := IntKind.u64.wrap (a1 + b1)) (a := a1) (t := IntKind.u64.wrap (IntKind.u64.wrap (a1 + b1) + 1)) ‹_› ‹_›, Int.add_zero]
        | rw [aC_t (s := IntKind.u64.wrap (a1 + b1)) (a := a1) (t := IntKind.u64.wrap (IntKind.u64.wrap (a1 + b1))) ‹_› ‹_›]
        | rw [aC_0 (s := IntKind.u64.wrap (a1 + b1)) (a := a1) (t := IntKind.u64.wrap (IntKind.u64.wrap (a1 + b1))) ‹_› ‹_›, Int.add_zero]
end Go.Proofs.Ytkcjekboakoejaa.Print
