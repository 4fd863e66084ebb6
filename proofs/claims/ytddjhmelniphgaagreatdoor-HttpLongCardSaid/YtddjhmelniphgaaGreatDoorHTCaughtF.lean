/- http.caught as a deferred call within a fence; how a function with a mark and a deferred call leaves. -/
import Derived.Test.YtddjhmelniphgaaGreatDoorHTPathN
import Derived.RecoverIn
import Derived.RangeFuncLeaves
namespace Go.Proofs.YtddjhmelniphgaaGreatDoor.Print
open Go Go.RowKit Go.Proofs.YtddjhmelniphgaaGreatDoorW.PrintWords Go.Proofs.YtddjhmelniphgaaGreatDoorW.PrintLast
set_option linter.unusedVariables false
set_option linter.unusedSimpArgs false
set_option maxRecDepth 100000 in
set_option maxHeartbeats 2000000 in
theorem caught_oopsIn (n : Nat) (p : Addr) (x er : Int) (w : World) (hc : w.cell? p = some (.int .i64 x)) (hz : w.frozen? p = false) :
    CallsDIn Fence.wide n Tryz.prog 27 #[.pointer (some p)] (.panicking (oops er)) w fun e u' w' =>
      e = .returned (.tuple #[]) ∧ u' = .panicking [{ v := .iface 26 (.int .i64 er), recovered := true }] ∧ w' = w.setCell p (.int .i64 er) := by
  refine callsDIn_of_wpSIn Tryz.func27 rfl trivial fun c₀ cs hu => ?_
  unfold oops at hu
  simp only [Tryz.ntmps27, List.size_toArray, List.length_cons, List.length_nil, Nat.reduceAdd, Nat.reduceSub, Array.replicate_succ, Array.replicate_zero, List.push_toArray, List.append_toArray, List.nil_append, List.cons_append]
  apply wpSIn_seq
  apply wpSIn_region
  simp [wpOpsSIn, go_sem, recoverD, hu, Exit.thenS]
  have hta := fun W => errno_assert er 20 W
  refine wpSIn_of_wpIn rfl ?_
  gi_wp2
  simp_all [bodyPostS, results, Tryz.results27]
set_option maxRecDepth 100000 in
set_option maxHeartbeats 2000000 in
theorem caught_idleIn (n : Nat) (p : Addr) (w : World) :
    CallsDIn Fence.wide n Tryz.prog 27 #[.pointer (some p)] .returning w fun e u' w' => e = .returned (.tuple #[]) ∧ u' = .returning ∧ w' = w := by
  refine callsDIn_of_wpSIn Tryz.func27 rfl trivial fun c₀ cs hu => ?_
  simp only [Tryz.ntmps27, List.size_toArray, List.length_cons, List.length_nil, Nat.reduceAdd, Nat.reduceSub, Array.replicate_succ, Array.replicate_zero, List.push_toArray, List.append_toArray, List.nil_append, List.cons_append]
  apply wpSIn_seq
  apply wpSIn_region
  simp [wpOpsSIn, go_sem, recoverD, hu, Exit.thenS]
  refine wpSIn_of_wpIn rfl ?_
  gi_wp2
  cases c₀
  simp_all [bodyPostS, results, Tryz.results27]
end Go.Proofs.YtddjhmelniphgaaGreatDoor.Print
