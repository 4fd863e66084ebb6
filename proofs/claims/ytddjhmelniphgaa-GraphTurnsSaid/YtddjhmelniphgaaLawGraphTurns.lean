/- The law GraphTurns, for every input: it returns true, and what came in reads as before. No condition. -/
import Derived.Test.YtddjhmelniphgaaRows
import Derived.Test.YtddjhmelniphgaaPrint12
import Derived.Test.YtddjhmelniphgaaQTurns19b
import Derived.Test.YtddjhmelniphgaaOpnT
import Derived.WalkKit
import Derived.ProofKit
import Derived.OpenShut
import Derived.ShutString
import Derived.ChangeOld
import Derived.Below
import Derived.Carry
import Derived.SizedLaws
namespace Go.Proofs.Ytddjhmelniphgaa.graphTurns
open Go.Proofs.Ytddjhmelniphgaa.Print
open Go.ChangeShapes Go.WideShapes Go.ChangeAt Go.RowKit Go.Proofs.YtddjhmelniphgaaW.PrintWords
open Go.ChangeMaps (open_string shut_string)
set_option linter.unusedVariables false
theorem own : ownKnob Try.prog.godebug = none := by kernel_rfl
theorem laidOut : laidOutB Try.prog = true := by kernel_rfl
set_option maxRecDepth 100000 in
set_option maxHeartbeats 2000000 in
theorem lifted (os : Os) (started : os.Started) (H : Type) (enc : TypeId × Value → H) :
    ReturnsInHanded {} Try.checked os 4 .any (Rows.graphTurnsSpec.pre6 enc Try.prog Try.f4 Rows.graphTurnsRow.domain false) (Rows.graphTurnsSpec.post enc Try.prog Try.f4 false true false false) := by
  refine returnsInHanded_of_change_sized (C := Try.checked) own started (by kernel_rfl) Try.func4
    (ChangeSpec.witness6 (enc := enc) (C := Try.checked) false ⟨#[], #[.slice none 0 0, .agg #[.string ByteArray.empty, .int .i64 0, .slice none 0 0], .agg #[.string ByteArray.empty, .int .i64 0]], []⟩ 8 (by kernel_rfl) (by kernel_rfl) (by kernel_rfl) (by kernel_rfl)) ?_
  intro W base args ds gs before hval0 hW hcnd hsz0 _
  have hsz : (DataW.weightsEach Try.prog (Try.f4.params.toList ++ Rows.graphTurnsSpec.plain.varTypes Try.prog) (ds ++ gs)).all (· ≤ reachBytes) = true := hsz0
  have hval : ∀ (j : Nat) t v, Try.f4.params[j]? = some t → args[j]? = some v → Value.okWide Try.prog W .any base t v := hval0
  have hW' := hW
  obtain ⟨p, q, hA0, hV, rfl, hfz, hnd⟩ := hW
  have hA : DataW.TrodAll enc Try.prog W 0 (fun _ => true) true Try.f4.params.toList args.toList ds p := hA0
  rw [Try.params4] at hA hval hsz
  obtain ⟨v0, vs0, d0, ds0, p0, q0, hargs, rfl, rfl, h0, r0⟩ := trodAll_cons hA
  obtain ⟨v1, vs1, d1, ds1, p1, q1, rfl, rfl, rfl, h1, r1⟩ := trodAll_cons r0
  obtain ⟨v2, vs2, d2, ds2, p2, q2, rfl, rfl, rfl, h2, r2⟩ := trodAll_cons r1
  obtain ⟨rfl, rfl, rfl⟩ := trodAll_nil r2
  obtain rfl : args = #[v0, v1, v2] := by cases args; simp_all
  obtain ⟨rfl, rfl⟩ := trodVars_none hV
  have k0 := h0
  have lt0 : ∀ x ∈ p0, x.block < W.heap.size := by obtain ⟨m, hm⟩ := k0; exact DataW.trod_lt m _ _ _ hm
  obtain ⟨A0, len0, c0, rfl⟩ := okWide_slice Try.underlying22 (hval 0 22 v0 rfl rfl)
  obtain ⟨y0, K0, G0⟩ : ∃ y, (Kd.slice 40 k40).K W y [.slice A0 len0 c0] ∧ (y.length * Try.prog.bytesOf 40 ≤ 140737488351232 ∧ y.length ≤ 9223372036854775807 ∧ ∀ x_ ∈ y, G40 x_) := by
    obtain ⟨fuel, hf⟩ := h0
    exact opn_slice (N := fuel + 9) Try.underlying22 (by kernel_rfl) (open40 _) _ _ _ _ _ fuel _ _ (by omega) hf (fun n hn => of_decide_eq_true (List.all_eq_true.1 hsz n (DataW.weights_mem_each (j := 0) (t := 22) rfl rfl n hn)))
  obtain ⟨A0', c0', e0, l0, g0⟩ := K0
  cases e0
  have k1 := h1
  have lt1 : ∀ x ∈ p1, x.block < W.heap.size := by obtain ⟨m, hm⟩ := k1; exact DataW.trod_lt m _ _ _ hm
  obtain ⟨cs1, rfl, hs1⟩ := okWide_struct Try.underlying40 (hval 1 40 v1 rfl rfl)
  obtain ⟨y1, K1, G1⟩ : ∃ y, k40.K W y (Value.agg cs1).cells.toList ∧ G40 y := by
    obtain ⟨fuel, hf⟩ := h1
    exact open40 fuel _ _ _ _ _ fuel _ _ (Nat.le_add_right _ _) hf (fun n hn => of_decide_eq_true (List.all_eq_true.1 hsz n (DataW.weights_mem_each (j := 1) (t := 40) rfl rfl n hn)))
  obtain ⟨A2_1, c2_1, e1, g1_0, g1_1⟩ := k40_open K1
  obtain ⟨cs1⟩ := cs1
  simp only [Value.cells] at e1
  subst e1
  have k2 := h2
  have lt2 : ∀ x ∈ p2, x.block < W.heap.size := by obtain ⟨m, hm⟩ := k2; exact DataW.trod_lt m _ _ _ hm
  obtain ⟨cs2, rfl, hs2⟩ := okWide_struct Try.underlying24 (hval 2 24 v2 rfl rfl)
  obtain ⟨y2, K2, G2⟩ : ∃ y, k24.K W y (Value.agg cs2).cells.toList ∧ G24 y := by
    obtain ⟨fuel, hf⟩ := h2
    exact open24 fuel _ _ _ _ _ fuel _ _ (Nat.le_add_right _ _) hf (fun n hn => of_decide_eq_true (List.all_eq_true.1 hsz n (DataW.weights_mem_each (j := 2) (t := 24) rfl rfl n hn)))
  have e2 := k24_open K2
  obtain ⟨cs2⟩ := cs2
  simp only [Value.cells] at e2
  subst e2
  clear hA0 hval0 hsz0 hsz
  obtain ⟨k, hk⟩ := turns_pure y0 G0 y1 G1 y2 G2
  refine (codicillaw19_GraphTurns.calls k _ _ _ _ _ _ _ _ _ _ _ W (by assumption) (by assumption) (by assumption) (by assumption) hk).mono fun e W' ⟨he, bel⟩ => ?_
  subst he
  exact ⟨_, rfl, _, _, _, [], _, [], hW', trodAll_mk1 (shut_bool Try.underlying4 _), (trodAll_cons_mk (Below.trod laidOut (by kernel_rfl) (of_decide_eq_true (by kernel_rfl)) k0 bel lt0) (trodAll_cons_mk (Below.trod laidOut (by kernel_rfl) (of_decide_eq_true (by kernel_rfl)) k1 bel lt1) (trodAll_cons_mk (Below.trod laidOut (by kernel_rfl) (of_decide_eq_true (by kernel_rfl)) k2 bel lt2) trodAll_mk0))), rfl, bel.frame _, fun h => by cases h⟩
theorem over : Rows.graphTurnsRow.holds Try.pinned (OpenSpec.ofChange Rows.graphTurnsSpec) :=
  OpenClaim.holds_of_wide 4 Try.f4 rfl rfl rfl rfl rfl rfl rfl ⟨rfl, rfl, rfl, rfl, rfl⟩ rfl rfl rfl rfl rfl (by kernel_rfl) Try.func4 (by kernel_rfl)
    (of_decide_eq_true (by kernel_rfl)) (by unfold Func.isWrapper; first | (rw [if_pos (by decide +kernel)]; kernel_rfl) | (rw [if_neg (by decide +kernel)]; exact ⟨rfl, rfl⟩))
    (fun os started H enc _ => lifted os started H enc)
theorem proved : Rows.GraphTurnsSaid := over
#print axioms proved
end Go.Proofs.Ytddjhmelniphgaa.graphTurns
namespace Go.Proofs.Ytddjhmelniphgaa
/-- The row, under a short name, for the claim. -/
theorem graphTurns_holds : Rows.GraphTurnsSaid := graphTurns.proved
end Go.Proofs.Ytddjhmelniphgaa
