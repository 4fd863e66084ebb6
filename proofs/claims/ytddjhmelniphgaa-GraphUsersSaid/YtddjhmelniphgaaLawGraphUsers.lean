/- The law GraphUsers, for every input: it returns true, and what came in reads as before. No condition. -/
import Derived.Test.YtddjhmelniphgaaRows
import Derived.Test.YtddjhmelniphgaaPrint7
import Derived.Test.YtddjhmelniphgaaQUsers19
import Derived.Test.YtddjhmelniphgaaOpnT
import Derived.WalkKit
import Derived.ProofKit
import Derived.OpenShut
import Derived.ShutString
import Derived.ChangeOld
import Derived.Below
import Derived.Carry
import Derived.SizedLaws
namespace Go.Proofs.Ytddjhmelniphgaa.graphUsers
open Go.Proofs.Ytddjhmelniphgaa.Print
open Go.ChangeShapes Go.WideShapes Go.ChangeAt Go.RowKit Go.Proofs.YtddjhmelniphgaaW.PrintWords
open Go.ChangeMaps (open_string shut_string)
set_option linter.unusedVariables false
theorem own : ownKnob Try.prog.godebug = none := by kernel_rfl
theorem laidOut : laidOutB Try.prog = true := by kernel_rfl
set_option maxRecDepth 100000 in
set_option maxHeartbeats 2000000 in
theorem lifted (os : Os) (started : os.Started) (H : Type) (enc : TypeId × Value → H) :
    ReturnsInHanded {} Try.checked os 6 .any (Rows.graphUsersSpec.pre6 enc Try.prog Try.f6 Rows.graphUsersRow.domain false) (Rows.graphUsersSpec.post enc Try.prog Try.f6 false true false false) := by
  refine returnsInHanded_of_change_sized (C := Try.checked) own started (by kernel_rfl) Try.func6
    (ChangeSpec.witness6 (enc := enc) (C := Try.checked) false ⟨#[], #[.slice none 0 0, .agg #[.string ByteArray.empty, .int .i64 0, .slice none 0 0]], []⟩ 8 (by kernel_rfl) (by kernel_rfl) (by kernel_rfl) (by kernel_rfl)) ?_
  intro W base args ds gs before hval0 hW hcnd hsz0 _
  have hsz : (DataW.weightsEach Try.prog (Try.f6.params.toList ++ Rows.graphUsersSpec.plain.varTypes Try.prog) (ds ++ gs)).all (· ≤ reachBytes) = true := hsz0
  have hval : ∀ (j : Nat) t v, Try.f6.params[j]? = some t → args[j]? = some v → Value.okWide Try.prog W .any base t v := hval0
  have hW' := hW
  obtain ⟨p, q, hA0, hV, rfl, hfz, hnd⟩ := hW
  have hA : DataW.TrodAll enc Try.prog W 0 (fun _ => true) true Try.f6.params.toList args.toList ds p := hA0
  rw [Try.params6] at hA hval hsz
  obtain ⟨v0, vs0, d0, ds0, p0, q0, hargs, rfl, rfl, h0, r0⟩ := trodAll_cons hA
  obtain ⟨v1, vs1, d1, ds1, p1, q1, rfl, rfl, rfl, h1, r1⟩ := trodAll_cons r0
  obtain ⟨rfl, rfl, rfl⟩ := trodAll_nil r1
  obtain rfl : args = #[v0, v1] := by cases args; simp_all
  obtain ⟨rfl, rfl⟩ := trodVars_none hV
  have k0 := h0
  have lt0 : ∀ x ∈ p0, x.block < W.heap.size := by obtain ⟨m, hm⟩ := k0; exact DataW.trod_lt m _ _ _ hm
  obtain ⟨A0, len0, c0, rfl⟩ := okWide_slice Try.underlying22 (hval 0 22 v0 rfl rfl)
  obtain ⟨y0, K0, G0⟩ : ∃ y, (Kd.slice 40 k40).K W y [.slice A0 len0 c0] ∧ (y.length * Try.prog.bytesOf 40 ≤ 140737488351232 ∧ y.length ≤ 9223372036854775807 ∧ ∀ x_ ∈ y, G40 x_) := by
    obtain ⟨fuel, hf⟩ := h0
    exact opn_slice (N := fuel + 9) Try.underlying22 (by kernel_rfl) (open40 _) _ _ _ _ _ fuel _ _ (by omega) hf (fun n hn => of_decide_eq_true (List.all_eq_true.1 hsz n (DataW.weights_mem_each (j := 0) (t := 22) rfl rfl n hn)))
  obtain ⟨A0', c0', e0, l0, g0⟩ := K0
  cases e0
  have k1 := h1
  have lt1 : ∀ x ∈ p1, x.block < W.heap.size := by obtain ⟨m, hm⟩ := k1; exact DataW.trod_lt m _ _ _ hm
  obtain ⟨cs1, rfl, hs1⟩ := okWide_struct Try.underlying40 (hval 1 40 v1 rfl rfl)
  obtain ⟨y1, K1, G1⟩ : ∃ y, k40.K W y (Value.agg cs1).cells.toList ∧ G40 y := by
    obtain ⟨fuel, hf⟩ := h1
    exact open40 fuel _ _ _ _ _ fuel _ _ (Nat.le_add_right _ _) hf (fun n hn => of_decide_eq_true (List.all_eq_true.1 hsz n (DataW.weights_mem_each (j := 1) (t := 40) rfl rfl n hn)))
  obtain ⟨A2_1, c2_1, e1, g1_0, g1_1⟩ := k40_open K1
  obtain ⟨cs1⟩ := cs1
  simp only [Value.cells] at e1
  subst e1
  clear hA0 hval0 hsz0 hsz
  obtain ⟨k, hk⟩ := users_pure y0 G0 y1 G1
  refine (codicillaw19_GraphUsers.calls k _ _ _ _ _ _ _ _ _ W (by assumption) (by assumption) (by assumption) (by assumption) hk).mono fun e W' ⟨he, bel⟩ => ?_
  subst he
  exact ⟨_, rfl, _, _, _, [], _, [], hW', trodAll_mk1 (shut_bool Try.underlying4 _), (trodAll_cons_mk (Below.trod laidOut (by kernel_rfl) (of_decide_eq_true (by kernel_rfl)) k0 bel lt0) (trodAll_cons_mk (Below.trod laidOut (by kernel_rfl) (of_decide_eq_true (by kernel_rfl)) k1 bel lt1) trodAll_mk0)), rfl, bel.frame _, fun h => by cases h⟩
theorem over : Rows.graphUsersRow.holds Try.pinned (OpenSpec.ofChange Rows.graphUsersSpec) :=
  OpenClaim.holds_of_wide 6 Try.f6 rfl rfl rfl rfl rfl rfl rfl ⟨rfl, rfl, rfl, rfl, rfl⟩ rfl rfl rfl rfl rfl (by kernel_rfl) Try.func6 (by kernel_rfl)
    (of_decide_eq_true (by kernel_rfl)) (by unfold Func.isWrapper; first | (rw [if_pos (by decide +kernel)]; kernel_rfl) | (rw [if_neg (by decide +kernel)]; exact ⟨rfl, rfl⟩))
    (fun os started H enc _ => lifted os started H enc)
theorem proved : Rows.GraphUsersSaid := over
#print axioms proved
end Go.Proofs.Ytddjhmelniphgaa.graphUsers
namespace Go.Proofs.Ytddjhmelniphgaa
/-- The row, under a short name, for the claim. -/
theorem graphUsers_holds : Rows.GraphUsersSaid := graphUsers.proved
end Go.Proofs.Ytddjhmelniphgaa
