/- The law GraphKeeps, for every input: it returns true, and what came in reads as before. No condition. -/
import Derived.Test.YtddjhmelniphgaaRows
import Derived.Test.YtddjhmelniphgaaPrint5
import Derived.Test.YtddjhmelniphgaaQKeeps19
import Derived.Test.YtddjhmelniphgaaOpnT
import Derived.WalkKit
import Derived.ProofKit
import Derived.OpenShut
import Derived.ShutString
import Derived.ChangeOld
import Derived.Below
import Derived.Carry
import Derived.SizedLaws
namespace Go.Proofs.Ytddjhmelniphgaa.graphKeeps
open Go.Proofs.Ytddjhmelniphgaa.Print
open Go.ChangeShapes Go.WideShapes Go.ChangeAt Go.RowKit Go.Proofs.YtddjhmelniphgaaW.PrintWords
open Go.ChangeMaps (open_string shut_string)
set_option linter.unusedVariables false
theorem own : ownKnob Try.prog.godebug = none := by kernel_rfl
theorem laidOut : laidOutB Try.prog = true := by kernel_rfl
set_option maxRecDepth 100000 in
set_option maxHeartbeats 2000000 in
theorem lifted (os : Os) (started : os.Started) (H : Type) (enc : TypeId × Value → H) :
    ReturnsInHanded {} Try.checked os 5 .any (Rows.graphKeepsSpec.pre6 enc Try.prog Try.f5 Rows.graphKeepsRow.domain false) (Rows.graphKeepsSpec.post enc Try.prog Try.f5 false true false false) := by
  refine returnsInHanded_of_change_sized (C := Try.checked) own started (by kernel_rfl) Try.func5
    (ChangeSpec.witness6 (enc := enc) (C := Try.checked) false ⟨#[], #[.slice none 0 0], []⟩ 8 (by kernel_rfl) (by kernel_rfl) (by kernel_rfl) (by kernel_rfl)) ?_
  intro W base args ds gs before hval0 hW hcnd hsz0 _
  have hsz : (DataW.weightsEach Try.prog (Try.f5.params.toList ++ Rows.graphKeepsSpec.plain.varTypes Try.prog) (ds ++ gs)).all (· ≤ reachBytes) = true := hsz0
  have hval : ∀ (j : Nat) t v, Try.f5.params[j]? = some t → args[j]? = some v → Value.okWide Try.prog W .any base t v := hval0
  have hW' := hW
  obtain ⟨p, q, hA0, hV, rfl, hfz, hnd⟩ := hW
  have hA : DataW.TrodAll enc Try.prog W 0 (fun _ => true) true Try.f5.params.toList args.toList ds p := hA0
  rw [Try.params5] at hA hval hsz
  obtain ⟨v0, vs0, d0, ds0, p0, q0, hargs, rfl, rfl, h0, r0⟩ := trodAll_cons hA
  obtain ⟨rfl, rfl, rfl⟩ := trodAll_nil r0
  obtain rfl : args = #[v0] := by cases args; simp_all
  obtain ⟨rfl, rfl⟩ := trodVars_none hV
  have k0 := h0
  have lt0 : ∀ x ∈ p0, x.block < W.heap.size := by obtain ⟨m, hm⟩ := k0; exact DataW.trod_lt m _ _ _ hm
  obtain ⟨A0, len0, c0, rfl⟩ := okWide_slice Try.underlying50 (hval 0 50 v0 rfl rfl)
  obtain ⟨y0, K0, G0⟩ : ∃ y, (Kd.slice 52 k52).K W y [.slice A0 len0 c0] ∧ (y.length * Try.prog.bytesOf 52 ≤ 140737488351232 ∧ y.length ≤ 9223372036854775807 ∧ ∀ x_ ∈ y, G52 x_) := by
    obtain ⟨fuel, hf⟩ := h0
    exact opn_slice (N := fuel + 9) Try.underlying50 (by kernel_rfl) (open52 _) _ _ _ _ _ fuel _ _ (by omega) hf (fun n hn => of_decide_eq_true (List.all_eq_true.1 hsz n (DataW.weights_mem_each (j := 0) (t := 50) rfl rfl n hn)))
  obtain ⟨A0', c0', e0, l0, g0⟩ := K0
  cases e0
  clear hA0 hval0 hsz0 hsz
  obtain ⟨k, hk⟩ := keeps_pure y0 G0
  refine (codicillaw19_GraphKeeps.calls k _ _ _ _ W (by assumption) (by assumption) hk).mono fun e W' ⟨he, bel⟩ => ?_
  subst he
  exact ⟨_, rfl, _, _, _, [], _, [], hW', trodAll_mk1 (shut_bool Try.underlying4 _), (trodAll_cons_mk (Below.trod laidOut (by kernel_rfl) (of_decide_eq_true (by kernel_rfl)) k0 bel lt0) trodAll_mk0), rfl, bel.frame _, fun h => by cases h⟩
theorem over : Rows.graphKeepsRow.holds Try.pinned (OpenSpec.ofChange Rows.graphKeepsSpec) :=
  OpenClaim.holds_of_wide 5 Try.f5 rfl rfl rfl rfl rfl rfl rfl ⟨rfl, rfl, rfl, rfl, rfl⟩ rfl rfl rfl rfl rfl (by kernel_rfl) Try.func5 (by kernel_rfl)
    (of_decide_eq_true (by kernel_rfl)) (by unfold Func.isWrapper; first | (rw [if_pos (by decide +kernel)]; kernel_rfl) | (rw [if_neg (by decide +kernel)]; exact ⟨rfl, rfl⟩))
    (fun os started H enc _ => lifted os started H enc)
theorem proved : Rows.GraphKeepsSaid := over
#print axioms proved
end Go.Proofs.Ytddjhmelniphgaa.graphKeeps
namespace Go.Proofs.Ytddjhmelniphgaa
/-- The row, under a short name, for the claim. -/
theorem graphKeeps_holds : Rows.GraphKeepsSaid := graphKeeps.proved
end Go.Proofs.Ytddjhmelniphgaa
