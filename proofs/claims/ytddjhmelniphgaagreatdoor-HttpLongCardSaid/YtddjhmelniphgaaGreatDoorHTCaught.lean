/- Contracts of http.caught, as a deferred call: where the frame gives up with an Errno, and where it returns. -/
import Derived.Test.YtddjhmelniphgaaGreatDoorHTRead
import Derived.Recover
import Derived.Defers
import Derived.Laws.Pointers
namespace Go.Proofs.YtddjhmelniphgaaGreatDoor.Print
open Go Go.RowKit Go.Proofs.YtddjhmelniphgaaGreatDoorW.PrintWords Go.Proofs.YtddjhmelniphgaaGreatDoorW.PrintLast
set_option linter.unusedVariables false
set_option linter.unusedSimpArgs false
theorem errno_assert (er : Int) (xT : TypeId) (w : World) : (Instr.typeAssert (.iface 26 (.int .i64 er)) xT 26 true).run Tryz.prog w = .ok (.tuple #[.int .i64 er, .bool true]) w := by
  simp [Instr.typeAssert, run_underlying Tryz.underlying26, go_sem, Result.andThen]
set_option maxRecDepth 100000 in
set_option maxHeartbeats 2000000 in
theorem caught_oops (p : Addr) (x er : Int) (w : World) (hc : w.cell? p = some (.int .i64 x)) (hz : w.frozen? p = false) :
    CallsD Tryz.prog 27 #[.pointer (some p)] (.panicking (oops er)) w fun e u' w' =>
      e = .returned (.tuple #[]) ∧ u' = .panicking [{ v := .iface 26 (.int .i64 er), recovered := true }] ∧ w' = w.setCell p (.int .i64 er) := by
  refine callsD_of_wpS Tryz.func27 rfl fun c₀ cs hu => ?_
  unfold oops at hu
  simp only [Tryz.ntmps27, List.size_toArray, List.length_cons, List.length_nil, Nat.reduceAdd, Nat.reduceSub, Array.replicate_succ, Array.replicate_zero, List.push_toArray, List.append_toArray, List.nil_append, List.cons_append]
  apply wpS_seq
  apply wpS_region
  simp [wpOpsS, go_sem, recoverD, hu, Exit.thenS]
  have hta := fun W => errno_assert er 20 W
  refine wpS_of_wp ?_
  go_wp2
  simp_all [bodyPostS, results, Tryz.results27]
set_option maxRecDepth 100000 in
set_option maxHeartbeats 2000000 in
theorem caught_idle (p : Addr) (w : World) :
    CallsD Tryz.prog 27 #[.pointer (some p)] .returning w fun e u' w' => e = .returned (.tuple #[]) ∧ u' = .returning ∧ w' = w := by
  refine callsD_of_wpS Tryz.func27 rfl fun c₀ cs hu => ?_
  simp only [Tryz.ntmps27, List.size_toArray, List.length_cons, List.length_nil, Nat.reduceAdd, Nat.reduceSub, Array.replicate_succ, Array.replicate_zero, List.push_toArray, List.append_toArray, List.nil_append, List.cons_append]
  apply wpS_seq
  apply wpS_region
  simp [wpOpsS, go_sem, recoverD, hu, Exit.thenS]
  refine wpS_of_wp ?_
  go_wp2
  cases c₀
  simp_all [bodyPostS, results, Tryz.results27]
end Go.Proofs.YtddjhmelniphgaaGreatDoor.Print
