-- Written by wip/tools/xprint.py of this session's repo (the kit's print, run with external functions). Lean checks it.
import Derived.Test.YtddjhmelniphgaaHLb
import Derived.Test.YtddjhmelniphgaaPrint0
import Derived.Test.YtddjhmelniphgaaPrint5
import Derived.Test.YtddjhmelniphgaaPrint7
namespace Go.Proofs.Ytddjhmelniphgaa.Print
open Go.RowKit Go.Proofs.YtddjhmelniphgaaW.PrintWords Go.Proofs.YtddjhmelniphgaaW.PrintLast Go.Proofs.YtddjhmelniphgaaW.PrintMore
attribute [local go_sem] max2_int min2_int max_two min_two max_three min_three max_four min_four   -- for this text's walks alone
set_option linter.unusedVariables false
set_option linter.unusedSimpArgs false

/-! ### codicilref19_Add: function 20 -/
mutual
def codicilref19_Add.j0 : Nat → List (S40) → Bool → ByteArray → Int → List (S24) → Option ((List (S40)) × Int)
 | 0, _, _, _, _, _ => none
 | k + 1, x0, x26, x287000, x287001, x287002 => if x26 = true then (some (([] : List (S40)), 2)) else (codicilref19_Add.l0 k x0 0 x287000 x287001 x287002)
def codicilref19_Add.l0 : Nat → List (S40) → Int → ByteArray → Int → List (S24) → Option ((List (S40)) × Int)
 | 0, _, _, _, _, _ => none
 | k + 1, x0, x6, x287000, x287001, x287002 => if x6 < (x287002.length : Int) then (if 0 ≤ x6 then ((codicilref19_at.f k x0 ((rd_T24 x287002 x6).f0) ((rd_T24 x287002 x6).f1)).bind fun t291 => (if t291 < 0 then (some (([] : List (S40)), 5)) else (codicilref19_Add.l0 k x0 (wrap64 (x6 + 1)) x287000 x287001 x287002))) else (none)) else (if (x0.length : Int) ≥ 1024 then (some (([] : List (S40)), 6)) else (codicilref19_Add.l1 k x0 ([] : List (S40)) false 0 x287000 x287001 x287002))
def codicilref19_Add.l1 : Nat → List (S40) → List (S40) → Bool → Int → ByteArray → Int → List (S24) → Option ((List (S40)) × Int)
 | 0, _, _, _, _, _, _, _ => none
 | k + 1, x0, x7, x8, x9, x287000, x287001, x287002 => if x9 < (x0.length : Int) then (if x8 = true then (if 0 ≤ x9 then (if x7.length < 2932031007402 then (codicilref19_Add.l1 k x0 (x7 ++ [(⟨(⟨(rd_T40 x0 x9).f0.f0, (rd_T40 x0 x9).f0.f1⟩ : S24), (rd_T40 x0 x9).f1⟩ : S40)]) x8 (wrap64 (x9 + 1)) x287000 x287001 x287002) else (none)) else (none)) else (if 0 ≤ x9 then ((codicilref19_Less.f x287000 x287001 ((rd_T40 x0 x9).f0.f0) ((rd_T40 x0 x9).f0.f1)).bind fun t297 => (if t297 = true then (if x7.length < 2932031007402 then ((some (x7 ++ [(⟨(⟨x287000, x287001⟩ : S24), x287002⟩ : S40)] : List (S40))).bind fun y298 => (if y298.length < 2932031007402 then (codicilref19_Add.l1 k x0 (y298 ++ [(⟨(⟨(rd_T40 x0 x9).f0.f0, (rd_T40 x0 x9).f0.f1⟩ : S24), (rd_T40 x0 x9).f1⟩ : S40)]) true (wrap64 (x9 + 1)) x287000 x287001 x287002) else (none))) else (none)) else (if x7.length < 2932031007402 then (codicilref19_Add.l1 k x0 (x7 ++ [(⟨(⟨(rd_T40 x0 x9).f0.f0, (rd_T40 x0 x9).f0.f1⟩ : S24), (rd_T40 x0 x9).f1⟩ : S40)]) x8 (wrap64 (x9 + 1)) x287000 x287001 x287002) else (none)))) else (none))) else (if x8 = true then (some (x7, 0)) else (if x7.length < 2932031007402 then (some ((x7 ++ [(⟨(⟨x287000, x287001⟩ : S24), x287002⟩ : S40)]), 0)) else (none)))
end
def codicilref19_Add.f (k : Nat) (l0 : List (S40)) (a1_0 : ByteArray) (a1_1 : Int) (l1_2 : List (S24)) : Option ((List (S40)) × Int) := (codicilref19_May.f k l0).bind fun t287 => (if t287 = 0 then ((codicilref19_at.f k l0 a1_0 a1_1).bind fun t288 => (if t288 ≥ 0 then (some (([] : List (S40)), 7)) else (if (l1_2.length : Int) > 16 then (codicilref19_Add.j0 k l0 true a1_0 a1_1 l1_2) else ((codicilref19_twice.f k l1_2).bind fun t289 => (codicilref19_Add.j0 k l0 t289 a1_0 a1_1 l1_2))))) else (some (([] : List (S40)), 8)))
theorem codicilref19_Add.mono_l : ∀ k, (∀ y0 y1 y2 y3 y4, LeO (codicilref19_Add.j0 k y0 y1 y2 y3 y4) (codicilref19_Add.j0 (k + 1) y0 y1 y2 y3 y4)) ∧ (∀ y0 y1 y2 y3 y4, LeO (codicilref19_Add.l0 k y0 y1 y2 y3 y4) (codicilref19_Add.l0 (k + 1) y0 y1 y2 y3 y4)) ∧ (∀ y0 y1 y2 y3 y4 y5 y6, LeO (codicilref19_Add.l1 k y0 y1 y2 y3 y4 y5 y6) (codicilref19_Add.l1 (k + 1) y0 y1 y2 y3 y4 y5 y6))
 | 0 => ⟨fun _ _ _ _ _ r h => by simp [codicilref19_Add.j0] at h, fun _ _ _ _ _ r h => by simp [codicilref19_Add.l0] at h, fun _ _ _ _ _ _ _ r h => by simp [codicilref19_Add.l1] at h⟩
 | k + 1 => by
  obtain ⟨ih0, ih1, ih2⟩ := codicilref19_Add.mono_l k
  refine ⟨?_, ?_, ?_⟩
  ·intro y0 y1 y2 y3 y4
   unfold codicilref19_Add.j0
   repeat' first
   | (with_reducible exact ih0 _ _ _ _ _)
   | (with_reducible exact ih1 _ _ _ _ _)
   | (with_reducible exact ih2 _ _ _ _ _ _ _)
   | (with_reducible exact codicilref19_May.mono _ _)
   | (with_reducible exact codicilref19_at.mono _ _ _ _)
   | (with_reducible exact codicilref19_twice.mono _ _)
   | (with_reducible exact LeO.refl _)
   | (with_reducible exact LeO.none _)
   | (with_reducible refine LeO.ite ?_ ?_)
   | (with_reducible refine LeO.bind ?_ (fun _ => ?_))
   | exact ih0 _ _ _ _ _
   | exact ih1 _ _ _ _ _
   | exact ih2 _ _ _ _ _ _ _
   | exact codicilref19_May.mono _ _
   | exact codicilref19_at.mono _ _ _ _
   | exact codicilref19_twice.mono _ _
   | exact LeO.none _
   | refine LeO.ite ?_ ?_
   | refine LeO.bind ?_ (fun _ => ?_)
  ·intro y0 y1 y2 y3 y4
   unfold codicilref19_Add.l0
   repeat' first
   | (with_reducible exact ih0 _ _ _ _ _)
   | (with_reducible exact ih1 _ _ _ _ _)
   | (with_reducible exact ih2 _ _ _ _ _ _ _)
   | (with_reducible exact codicilref19_May.mono _ _)
   | (with_reducible exact codicilref19_at.mono _ _ _ _)
   | (with_reducible exact codicilref19_twice.mono _ _)
   | (with_reducible exact LeO.refl _)
   | (with_reducible exact LeO.none _)
   | (with_reducible refine LeO.ite ?_ ?_)
   | (with_reducible refine LeO.bind ?_ (fun _ => ?_))
   | exact ih0 _ _ _ _ _
   | exact ih1 _ _ _ _ _
   | exact ih2 _ _ _ _ _ _ _
   | exact codicilref19_May.mono _ _
   | exact codicilref19_at.mono _ _ _ _
   | exact codicilref19_twice.mono _ _
   | exact LeO.none _
   | refine LeO.ite ?_ ?_
   | refine LeO.bind ?_ (fun _ => ?_)
  ·intro y0 y1 y2 y3 y4 y5 y6
   unfold codicilref19_Add.l1
   repeat' first
   | (with_reducible exact ih0 _ _ _ _ _)
   | (with_reducible exact ih1 _ _ _ _ _)
   | (with_reducible exact ih2 _ _ _ _ _ _ _)
   | (with_reducible exact codicilref19_May.mono _ _)
   | (with_reducible exact codicilref19_at.mono _ _ _ _)
   | (with_reducible exact codicilref19_twice.mono _ _)
   | (with_reducible exact LeO.refl _)
   | (with_reducible exact LeO.none _)
   | (with_reducible refine LeO.ite ?_ ?_)
   | (with_reducible refine LeO.bind ?_ (fun _ => ?_))
   | exact ih0 _ _ _ _ _
   | exact ih1 _ _ _ _ _
   | exact ih2 _ _ _ _ _ _ _
   | exact codicilref19_May.mono _ _
   | exact codicilref19_at.mono _ _ _ _
   | exact codicilref19_twice.mono _ _
   | exact LeO.none _
   | refine LeO.ite ?_ ?_
   | refine LeO.bind ?_ (fun _ => ?_)
theorem codicilref19_Add.mono : ∀ a0 a1 a2 a3 k, LeO (codicilref19_Add.f k a0 a1 a2 a3) (codicilref19_Add.f (k + 1) a0 a1 a2 a3) := by
 intro a0 a1 a2 a3 k
 obtain ⟨ih0, ih1, ih2⟩ := codicilref19_Add.mono_l k
 unfold codicilref19_Add.f
 repeat' first
   | (with_reducible exact ih0 _ _ _ _ _)
   | (with_reducible exact ih1 _ _ _ _ _)
   | (with_reducible exact ih2 _ _ _ _ _ _ _)
   | (with_reducible exact codicilref19_May.mono _ _)
   | (with_reducible exact codicilref19_at.mono _ _ _ _)
   | (with_reducible exact codicilref19_twice.mono _ _)
   | (with_reducible exact LeO.refl _)
   | (with_reducible exact LeO.none _)
   | (with_reducible refine LeO.ite ?_ ?_)
   | (with_reducible refine LeO.bind ?_ (fun _ => ?_))
   | exact ih0 _ _ _ _ _
   | exact ih1 _ _ _ _ _
   | exact ih2 _ _ _ _ _ _ _
   | exact codicilref19_May.mono _ _
   | exact codicilref19_at.mono _ _ _ _
   | exact codicilref19_twice.mono _ _
   | exact LeO.none _
   | refine LeO.ite ?_ ?_
   | refine LeO.bind ?_ (fun _ => ?_)
def codicilref19_Add.T19 : Bool × List (List Nat × List Nat) := (true, [([], []), ([0], [0]), ([1], [1]), ([2], [2]), ([3, 2], [2, 3]), ([2], [2]), ([2], [2]), ([5, 6, 2], [2, 5, 6]), ([7, 2], [2, 7]), ([8, 2], [2, 8]), ([4, 9, 2, 2], [2, 4, 9]), ([2, 10], [2, 10])])
def codicilref19_Add.B19 : List Nat := [0, 1, 3, 7, 15, 7, 7, 103, 231, 487, 1023, 2047]
theorem codicilref19_Add.tab19 : rtab .any (opsOf Try.f20 19) = codicilref19_Add.T19 := by kernel_rfl
theorem codicilref19_Add.bits19 : waitsOk codicilref19_Add.T19.2 codicilref19_Add.B19 = true := by kernel_rfl
set_option maxHeartbeats 8000000 in
set_option maxRecDepth 100000 in
theorem codicilref19_Add.calls (k : Nat) (P0_ : Nat → Prop) (A0 : Option Addr) (c0 : Nat) (l0 : List (S40)) (a1_0 : ByteArray) (a1_1 : Int) (P1_2_ : Nat → Prop) (A1_2 : Option Addr) (c1_2 : Nat) (l1_2 : List (S24)) (r1 : List (S40)) (r2 : Int) (w : World) (hs0 : Kd.V k40 40 w w.heap.size (fun k_ => P0_ k_) (.slice A0 l0.length c0) l0) (hs1_2 : Kd.V k24 24 w w.heap.size (fun k_ => P1_2_ k_) (.slice A1_2 l1_2.length c1_2) l1_2) (h : codicilref19_Add.f k l0 a1_0 a1_1 l1_2 = some (r1, r2)) :
  Calls Try.prog 20 #[.slice A0 l0.length c0, .agg #[.string a1_0, .int .i64 a1_1, .slice A1_2 l1_2.length c1_2]] w fun e w' => ∃ v0_ : Value, e = .returned (.tuple #[v0_, .int .i64 r2]) ∧ Kd.N k40 40 w' w.heap.size (fun k_ => ((P0_ k_ ∨ P1_2_ k_) ∨ w.heap.size ≤ k_)) v0_ r1 ∧ Below w.heap.size w w' := by
 have hu40 := Try.underlying40
 have hu24 := Try.underlying24
 have HO0 := qH (show Kd.V k40 40 w w.heap.size (fun k_ => ((P0_ k_ ∨ P1_2_ k_) ∨ w.heap.size ≤ k_)) (.slice A0 l0.length c0) l0 from Kd.V_mono hs0 (fun k_ hk => .inl (.inl hk)))
 have HO1_2 := qH (show Kd.V k24 24 w w.heap.size (fun k_ => ((P0_ k_ ∨ P1_2_ k_) ∨ w.heap.size ≤ k_)) (.slice A1_2 l1_2.length c1_2) l1_2 from Kd.V_mono hs1_2 (fun k_ hk => .inl (.inr hk)))
 have HB := qH (Below.refl w.heap.size w)
 have H : ((codicilref19_May.f k l0).bind fun t287 => (if t287 = 0 then ((codicilref19_at.f k l0 a1_0 a1_1).bind fun t288 => (if t288 ≥ 0 then (some (([] : List (S40)), 7)) else (if (l1_2.length : Int) > 16 then (codicilref19_Add.j0 k l0 true a1_0 a1_1 l1_2) else ((codicilref19_twice.f k l1_2).bind fun t289 => (codicilref19_Add.j0 k l0 t289 a1_0 a1_1 l1_2))))) else (some (([] : List (S40)), 8)))) = some (r1, r2) := h
 clear h
 replace H := Option.bind_eq_some_iff.mp H
 obtain ⟨t287, A30, H⟩ := H
 (try dsimp only at H)
 have A3 := qH A30
 clear A30
 by_cases c4 : t287 = 0
 ·rw [if_pos c4] at H
  have c4b0 : (t287 == 0) = true := beq_iff_eq.mpr c4
  have c4b1 : (t287 != 0) = false := bne_eq_false_iff_eq.mpr c4
  clear c4
  replace H := Option.bind_eq_some_iff.mp H
  obtain ⟨t288, A50, H⟩ := H
  (try dsimp only at H)
  have A5 := qH A50
  clear A50
  by_cases c6 : t288 ≥ 0
  ·rw [if_pos c6] at H
   have c6b0 : decide (0 ≤ t288) = true := decide_eq_true c6
   clear c6
   simp only [Option.some.injEq, Prod.mk.injEq] at H
   obtain ⟨rfl, rfl⟩ := H
   go_enter Try.func20, Try.ntmps20
   go_wp2_with (first | ((with_reducible refine gate_dst (N := 3) rfl ?_); refine box_event ?hg (N := 3) ?hd (cs := #[.string a1_0, .int .i64 a1_1, .slice A1_2 l1_2.length c1_2]) (t := 40) ?hr ?_; (case hd => rfl); (case hg => rfl); (case hr => first | (go_simp; done) | (go_simp; rfl) | (go_simp; simp [IntKind.wrap_u32]; done)); intro gb286 hg w7 hbox hb; have n0_ := qH (Kd.V_below (Kd.V_elderB (by (with_reducible repeat first | apply zVa | apply zVb | apply zVc); exact HO0.out) gb286 (Nat.le_of_eq hg.symm)) hb); have n1_ := qH (Kd.V_below (Kd.V_elderB (by (with_reducible repeat first | apply zVa | apply zVb | apply zVc); exact HO1_2.out) gb286 (Nat.le_of_eq hg.symm)) hb); have n2_ := qH (below_step (by repeat (first | (with_reducible first | exact HB.out | apply qL | apply qJ | apply qK) | exact HB.out)) hb); have n3_ := qH (hbox); have n4_ := qH ((by rw [hg]; exact (below_size (by repeat (first | (with_reducible first | exact HB.out | apply qL | apply qJ | apply qK) | exact HB.out))) : w.heap.size ≤ gb286)); have n5_ := n4_; clear HO0; clear HO1_2; clear HB; have HO0 := n0_; have HO1_2 := n1_; have HB := n2_; have BK286 := n3_; have GW286 := n4_; have GE286 := n5_; clear n0_ n1_ n2_ n3_ n4_ n5_; clear hb hbox hg) | ((with_reducible refine gate_callee (f := 14) rfl ?_); refine goesL_ (some 11) rfl rfl Try.func14 (by kernel_rfl) rfl #[.slice A0 l0.length c0] rfl (by (try simp only [zX, zY, zZ]); first | done | rfl | (simp only [zD, zE]; rfl)) ?_; (with_reducible refine (codicilref19_May.calls k _ _ l0 t287 _ ?side1 ?side2 A3.out).mono ?_); (case side1 => repeat (first | exact (Kd.V_reads' HO0.out).2.2 | (with_reducible refine Kd.C_alloc ?_ _) | (with_reducible refine Kd.C_drewN ?_ _) | (with_reducible refine Kd.C_drew ?_))); (case side2 => exact (Kd.V_reads' HO0.out).2.1); rintro e w8 ⟨rfl, hb⟩; refine ⟨_, rfl, ?_⟩; have n0_ := qH (Kd.V_below (by (with_reducible repeat first | apply zVa | apply zVb | apply zVc); exact HO0.out) hb); have n1_ := qH (Kd.V_below (by (with_reducible repeat first | apply zVa | apply zVb | apply zVc); exact HO1_2.out) hb); have n2_ := qH (qD (g := gb286) (by (with_reducible repeat first | apply qA | apply qC | apply qB); exact BK286.out) hb); have n3_ := qH (below_step (by repeat (first | (with_reducible first | exact HB.out | apply qL | apply qJ | apply qK | refine qI ?_ GE286.out) | exact HB.out)) hb); clear HO0; clear HO1_2; clear BK286; clear HB; have HO0 := n0_; have HO1_2 := n1_; have BK286 := n2_; have HB := n3_; clear n0_ n1_ n2_ n3_; (try clear hb); (try clear hb2); (try clear hk); (try clear hi); obtain ⟨hcz9_0, hcz9_1, hcz9_2⟩ := qc3 BK286.out; obtain ⟨hfz9_0, hfz9_1, hfz9_2⟩ := qf3 BK286.out) | ((with_reducible refine gate_callee (f := 28) rfl ?_); refine goesL_ (some 16) rfl rfl Try.func28 (by kernel_rfl) rfl #[.slice A0 l0.length c0, .agg #[.string a1_0, .int .i64 a1_1]] rfl (by (try simp only [zX, zY, zZ]); first | done | rfl | (simp only [zD, zE]; rfl)) ?_; (with_reducible refine (codicilref19_at.calls k _ _ l0 a1_0 a1_1 t288 _ ?side1 ?side2 A5.out).mono ?_); (case side1 => repeat (first | exact (Kd.V_reads' HO0.out).2.2 | (with_reducible refine Kd.C_alloc ?_ _) | (with_reducible refine Kd.C_drewN ?_ _) | (with_reducible refine Kd.C_drew ?_))); (case side2 => exact (Kd.V_reads' HO0.out).2.1); rintro e w10 ⟨rfl, hb⟩; refine ⟨_, rfl, ?_⟩; have n0_ := qH (Kd.V_below (by (with_reducible repeat first | apply zVa | apply zVb | apply zVc); exact HO0.out) hb); have n1_ := qH (Kd.V_below (by (with_reducible repeat first | apply zVa | apply zVb | apply zVc); exact HO1_2.out) hb); have n2_ := qH (qD (g := gb286) (by (with_reducible repeat first | apply qA | apply qC | apply qB); exact BK286.out) hb); have n3_ := qH (below_step (by repeat (first | (with_reducible first | exact HB.out | apply qL | apply qJ | apply qK | refine qI ?_ GE286.out) | exact HB.out)) hb); clear HO0; clear HO1_2; clear BK286; clear HB; have HO0 := n0_; have HO1_2 := n1_; have BK286 := n2_; have HB := n3_; clear n0_ n1_ n2_ n3_; (try clear hb); (try clear hb2); (try clear hk); (try clear hi)))
   go_ret2
   exact ⟨_, by first | rfl | (simp [errW_none, errW_some] <;> rfl) | (simp [*, errW_none, errW_some] <;> rfl), by first | exact Kd.S_nil _ _ _ _ _ | exact Kd.N_nil _ _ _ _ _ | exact Kd.V_nil _ _ _ _ _ | exact Kd.Q_nil _ _ _ _ _ | exact Kd.R_nil _ _ _ _ _, by repeat (first | (with_reducible first | exact HB.out | apply qL | apply qJ | apply qK | refine qI ?_ GE286.out) | exact HB.out)⟩
  ·rw [if_neg c6] at H
   have c6b0 : decide (0 ≤ t288) = false := decide_eq_false c6
   clear c6
   have HC11 := qH H
   clear H
   go_enter Try.func20, Try.ntmps20
   go_upto_region 5 with (first | ((with_reducible refine gate_dst (N := 3) rfl ?_); refine box_event ?hg (N := 3) ?hd (cs := #[.string a1_0, .int .i64 a1_1, .slice A1_2 l1_2.length c1_2]) (t := 40) ?hr ?_; (case hd => rfl); (case hg => rfl); (case hr => first | (go_simp; done) | (go_simp; rfl) | (go_simp; simp [IntKind.wrap_u32]; done)); intro gb286 hg w12 hbox hb; have n0_ := qH (Kd.V_below (Kd.V_elderB (by (with_reducible repeat first | apply zVa | apply zVb | apply zVc); exact HO0.out) gb286 (Nat.le_of_eq hg.symm)) hb); have n1_ := qH (Kd.V_below (Kd.V_elderB (by (with_reducible repeat first | apply zVa | apply zVb | apply zVc); exact HO1_2.out) gb286 (Nat.le_of_eq hg.symm)) hb); have n2_ := qH (below_step (by repeat (first | (with_reducible first | exact HB.out | apply qL | apply qJ | apply qK) | exact HB.out)) hb); have n3_ := qH (hbox); have n4_ := qH ((by rw [hg]; exact (below_size (by repeat (first | (with_reducible first | exact HB.out | apply qL | apply qJ | apply qK) | exact HB.out))) : w.heap.size ≤ gb286)); have n5_ := n4_; clear HO0; clear HO1_2; clear HB; have HO0 := n0_; have HO1_2 := n1_; have HB := n2_; have BK286 := n3_; have GW286 := n4_; have GE286 := n5_; clear n0_ n1_ n2_ n3_ n4_ n5_; clear hb hbox hg) | ((with_reducible refine gate_callee (f := 14) rfl ?_); refine goesL_ (some 11) rfl rfl Try.func14 (by kernel_rfl) rfl #[.slice A0 l0.length c0] rfl (by (try simp only [zX, zY, zZ]); first | done | rfl | (simp only [zD, zE]; rfl)) ?_; (with_reducible refine (codicilref19_May.calls k _ _ l0 t287 _ ?side1 ?side2 A3.out).mono ?_); (case side1 => repeat (first | exact (Kd.V_reads' HO0.out).2.2 | (with_reducible refine Kd.C_alloc ?_ _) | (with_reducible refine Kd.C_drewN ?_ _) | (with_reducible refine Kd.C_drew ?_))); (case side2 => exact (Kd.V_reads' HO0.out).2.1); rintro e w13 ⟨rfl, hb⟩; refine ⟨_, rfl, ?_⟩; have n0_ := qH (Kd.V_below (by (with_reducible repeat first | apply zVa | apply zVb | apply zVc); exact HO0.out) hb); have n1_ := qH (Kd.V_below (by (with_reducible repeat first | apply zVa | apply zVb | apply zVc); exact HO1_2.out) hb); have n2_ := qH (qD (g := gb286) (by (with_reducible repeat first | apply qA | apply qC | apply qB); exact BK286.out) hb); have n3_ := qH (below_step (by repeat (first | (with_reducible first | exact HB.out | apply qL | apply qJ | apply qK | refine qI ?_ GE286.out) | exact HB.out)) hb); clear HO0; clear HO1_2; clear BK286; clear HB; have HO0 := n0_; have HO1_2 := n1_; have BK286 := n2_; have HB := n3_; clear n0_ n1_ n2_ n3_; (try clear hb); (try clear hb2); (try clear hk); (try clear hi); obtain ⟨hcz14_0, hcz14_1, hcz14_2⟩ := qc3 BK286.out; obtain ⟨hfz14_0, hfz14_1, hfz14_2⟩ := qf3 BK286.out) | ((with_reducible refine gate_callee (f := 28) rfl ?_); refine goesL_ (some 16) rfl rfl Try.func28 (by kernel_rfl) rfl #[.slice A0 l0.length c0, .agg #[.string a1_0, .int .i64 a1_1]] rfl (by (try simp only [zX, zY, zZ]); first | done | rfl | (simp only [zD, zE]; rfl)) ?_; (with_reducible refine (codicilref19_at.calls k _ _ l0 a1_0 a1_1 t288 _ ?side1 ?side2 A5.out).mono ?_); (case side1 => repeat (first | exact (Kd.V_reads' HO0.out).2.2 | (with_reducible refine Kd.C_alloc ?_ _) | (with_reducible refine Kd.C_drewN ?_ _) | (with_reducible refine Kd.C_drew ?_))); (case side2 => exact (Kd.V_reads' HO0.out).2.1); rintro e w15 ⟨rfl, hb⟩; refine ⟨_, rfl, ?_⟩; have n0_ := qH (Kd.V_below (by (with_reducible repeat first | apply zVa | apply zVb | apply zVc); exact HO0.out) hb); have n1_ := qH (Kd.V_below (by (with_reducible repeat first | apply zVa | apply zVb | apply zVc); exact HO1_2.out) hb); have n2_ := qH (qD (g := gb286) (by (with_reducible repeat first | apply qA | apply qC | apply qB); exact BK286.out) hb); have n3_ := qH (below_step (by repeat (first | (with_reducible first | exact HB.out | apply qL | apply qJ | apply qK | refine qI ?_ GE286.out) | exact HB.out)) hb); clear HO0; clear HO1_2; clear BK286; clear HB; have HO0 := n0_; have HO1_2 := n1_; have BK286 := n2_; have HB := n3_; clear n0_ n1_ n2_ n3_; (try clear hb); (try clear hb2); (try clear hk); (try clear hi)))
   (try simp only [Act.put, List.setIfInBounds_toArray, List.set_cons_zero, List.set_cons_succ])
   go_cut [26] (fun v26 wc => ∃ (kq : Nat) (x26_10 : Bool), v26 = .bool x26_10 ∧ Aside0 (codicilref19_Add.j0 kq l0 x26_10 a1_0 a1_1 l1_2 = some (r1, r2)) ∧ Aside0 (kq ≤ k) ∧ Aside0 (Kd.V k40 40 wc w.heap.size (fun k_ => ((P0_ k_ ∨ P1_2_ k_) ∨ w.heap.size ≤ k_) ∧ k_ ≠ gb286) (.slice A0 l0.length c0) l0) ∧ Aside0 (Kd.V k24 24 wc w.heap.size (fun k_ => ((P0_ k_ ∨ P1_2_ k_) ∨ w.heap.size ≤ k_) ∧ k_ ≠ gb286) (.slice A1_2 l1_2.length c1_2) l1_2) ∧ Aside0 (wc.heap[gb286]? = some (.cells #[.string a1_0, .int .i64 a1_1, (.slice A1_2 l1_2.length c1_2)] 40 (0, 0))) ∧ Aside0 (Below w.heap.size w wc))
   case first =>
    have H := HC11.out
    clear HC11
    by_cases c16 : (l1_2.length : Int) > 16
    ·rw [if_pos c16] at H
     have c16b0 : decide (16 < (l1_2.length : Int)) = true := decide_eq_true c16
     have c16b1 : decide (16 < l1_2.length) = true := decide_eq_true (by omega)
     clear c16
     (first | rw [c16b0] | (simp only [i64_w, i32_w]; rw [c16b0]) | skip)
     have H' := qH H
     clear H
     have hcz17_0 : w15.cell? ⟨gb286, 0, none⟩ = some (.string a1_0) := (qE BK286.out 0).trans rfl
     have hcz17_1 : w15.cell? ⟨gb286, 1, none⟩ = some (.int .i64 a1_1) := (qE BK286.out 1).trans rfl
     have hcz17_2 : w15.cell? ⟨gb286, 2, none⟩ = some (.slice A1_2 l1_2.length c1_2) := (qE BK286.out 2).trans rfl
     have hfz17_0 := qF BK286.out 0
     have hfz17_1 := qF BK286.out 1
     have hfz17_2 := qF BK286.out 2
     go_wp2
     go_meet
     case rel => exact ⟨_, (true), (by first | rfl | (simp; done) | (simp; exact qEmp _) | (simp [*]; done)), H', ⟨by first | omega | exact Nat.le_refl _⟩, ⟨by (with_reducible repeat first | apply zVa | apply zVb | apply zVc); exact HO0.out⟩, ⟨by (with_reducible repeat first | apply zVa | apply zVb | apply zVc); exact HO1_2.out⟩, ⟨by (with_reducible repeat first | apply qA | apply qC | apply qB); exact BK286.out⟩, ⟨by repeat (first | (with_reducible first | exact HB.out | apply qL | apply qJ | apply qK | refine qI ?_ GE286.out) | exact HB.out)⟩⟩
    ·rw [if_neg c16] at H
     have c16b0 : decide (16 < (l1_2.length : Int)) = false := decide_eq_false c16
     have c16b1 : decide (16 < l1_2.length) = false := decide_eq_false (by omega)
     clear c16
     (first | rw [c16b0] | (simp only [i64_w, i32_w]; rw [c16b0]) | skip)
     replace H := Option.bind_eq_some_iff.mp H
     obtain ⟨t289, A180, H⟩ := H
     (try dsimp only at H)
     have A18 := qH A180
     clear A180
     have H' := qH H
     clear H
     have hcz19_0 : w15.cell? ⟨gb286, 0, none⟩ = some (.string a1_0) := (qE BK286.out 0).trans rfl
     have hcz19_1 : w15.cell? ⟨gb286, 1, none⟩ = some (.int .i64 a1_1) := (qE BK286.out 1).trans rfl
     have hcz19_2 : w15.cell? ⟨gb286, 2, none⟩ = some (.slice A1_2 l1_2.length c1_2) := (qE BK286.out 2).trans rfl
     have hfz19_0 := qF BK286.out 0
     have hfz19_1 := qF BK286.out 1
     have hfz19_2 := qF BK286.out 2
     go_wp2_with (first | (go_at_call 35; (with_reducible refine (codicilref19_twice.calls k _ _ l1_2 t289 _ ?side1 ?side2 A18.out).mono ?_); (case side1 => repeat (first | exact (Kd.V_reads' HO1_2.out).2.2 | (with_reducible refine Kd.C_alloc ?_ _) | (with_reducible refine Kd.C_drewN ?_ _) | (with_reducible refine Kd.C_drew ?_))); (case side2 => exact (Kd.V_reads' HO1_2.out).2.1); rintro e w' ⟨rfl, ⟨nd, rfl⟩⟩))
     go_meet
     case rel => exact ⟨_, (t289), (by first | rfl | (simp; done) | (simp; exact qEmp _) | (simp [*]; done)), H', ⟨by first | omega | exact Nat.le_refl _⟩, ⟨by (with_reducible repeat first | apply zVa | apply zVb | apply zVc); exact HO0.out⟩, ⟨by (with_reducible repeat first | apply zVa | apply zVb | apply zVc); exact HO1_2.out⟩, ⟨by (with_reducible repeat first | apply qA | apply qC | apply qB); exact BK286.out⟩, ⟨by repeat (first | (with_reducible first | exact HB.out | apply qL | apply qJ | apply qK | refine qI ?_ GE286.out) | exact HB.out)⟩⟩
   case rest =>
    clear HC11
    try clear c1
    try clear c2
    try clear p2
    try clear c4
    try clear c4b0
    try clear c4b1
    try clear c6
    try clear c6b0
    try clear c14
    try clear c16
    try clear c16b0
    try clear c16b1
    try clear hcz14_0
    try clear hcz14_1
    try clear hcz14_2
    try clear hcz17_0
    try clear hcz17_1
    try clear hcz17_2
    try clear hcz19_0
    try clear hcz19_1
    try clear hcz19_2
    try clear hcz9_0
    try clear hcz9_1
    try clear hcz9_2
    try clear hfz14_0
    try clear hfz14_1
    try clear hfz14_2
    try clear hfz17_0
    try clear hfz17_1
    try clear hfz17_2
    try clear hfz19_0
    try clear hfz19_1
    try clear hfz19_2
    try clear hfz9_0
    try clear hfz9_1
    try clear hfz9_2
    obtain ⟨kq, x26_10, rfl, HA, HJ10, HO_0, HO_287002, BK286, HB⟩ := hcut
    cases kq with
    | zero => exact absurd HA.out (by simp [codicilref19_Add.j0])
    | succ kj10 =>
     have H := HA.out
     clear HA
     simp only [codicilref19_Add.j0] at H
     by_cases c20 : x26_10 = true
     ·subst c20
      have H1 : (some (([] : List (S40)), 2)) = some (r1, r2) := by rw [if_pos rfl] at H; exact H
      clear H
      have H := H1
      clear H1
      simp only [Option.some.injEq, Prod.mk.injEq] at H
      obtain ⟨rfl, rfl⟩ := H
      go_wp2
      go_ret2
      exact ⟨_, by first | rfl | (simp [errW_none, errW_some] <;> rfl) | (simp [*, errW_none, errW_some] <;> rfl), by first | exact Kd.S_nil _ _ _ _ _ | exact Kd.N_nil _ _ _ _ _ | exact Kd.V_nil _ _ _ _ _ | exact Kd.Q_nil _ _ _ _ _ | exact Kd.R_nil _ _ _ _ _, by repeat (first | (with_reducible first | exact HB.out | apply qL | apply qJ | apply qK | refine qI ?_ GE286.out) | exact HB.out)⟩
     ·replace c20 := Bool.eq_false_iff.mpr c20
      subst c20
      have H1 : (codicilref19_Add.l0 kj10 l0 0 a1_0 a1_1 l1_2) = some (r1, r2) := by rw [if_neg (show ¬ (false = true) by decide)] at H; exact H
      clear H
      have H := H1
      clear H1
      have H' := qH H
      clear H
      go_wp2
      go_loopg [6] kj10 (fun kq v6 w' => ∃ (x6_2 : Int), v6 = .int .i64 x6_2 ∧ Aside0 (codicilref19_Add.l0 kq l0 x6_2 a1_0 a1_1 l1_2 = some (r1, r2)) ∧ Aside0 (kq ≤ kj10) ∧ Aside0 (Kd.V k40 40 w' w.heap.size (fun k_ => ((P0_ k_ ∨ P1_2_ k_) ∨ w.heap.size ≤ k_) ∧ k_ ≠ gb286) (.slice A0 l0.length c0) l0) ∧ Aside0 (Kd.V k24 24 w' w.heap.size (fun k_ => ((P0_ k_ ∨ P1_2_ k_) ∨ w.heap.size ≤ k_) ∧ k_ ≠ gb286) (.slice A1_2 l1_2.length c1_2) l1_2) ∧ Aside0 (w'.heap[gb286]? = some (.cells #[.string a1_0, .int .i64 a1_1, (.slice A1_2 l1_2.length c1_2)] 40 (0, 0))) ∧ Aside0 (Below w.heap.size w w'))
      case atStart => exact ⟨(0), (by first | rfl | (simp; done) | (simp; exact qEmp _) | (simp [*]; done)), H', ⟨Nat.le_refl _⟩, ⟨by (with_reducible repeat first | apply zVa | apply zVb | apply zVc); exact HO_0.out⟩, ⟨by (with_reducible repeat first | apply zVa | apply zVb | apply zVc); exact HO_287002.out⟩, ⟨by (with_reducible repeat first | apply qA | apply qC | apply qB); exact BK286.out⟩, ⟨by repeat (first | (with_reducible first | exact HB.out | apply qL | apply qJ | apply qK | refine qI ?_ GE286.out) | exact HB.out)⟩⟩
      case round =>
       clear H'
       try clear c1
       try clear c2
       try clear p2
       try clear c4
       try clear c4b0
       try clear c4b1
       try clear c6
       try clear c6b0
       try clear c14
       try clear c16
       try clear c16b0
       try clear c16b1
       try clear c20
       try clear hcz14_0
       try clear hcz14_1
       try clear hcz14_2
       try clear hcz17_0
       try clear hcz17_1
       try clear hcz17_2
       try clear hcz19_0
       try clear hcz19_1
       try clear hcz19_2
       try clear hcz9_0
       try clear hcz9_1
       try clear hcz9_2
       try clear hfz14_0
       try clear hfz14_1
       try clear hfz14_2
       try clear hfz17_0
       try clear hfz17_1
       try clear hfz17_2
       try clear hfz19_0
       try clear hfz19_1
       try clear hfz19_2
       try clear hfz9_0
       try clear hfz9_1
       try clear hfz9_2
       try clear p2
       obtain ⟨x6_2, rfl, HA, HK2, HO_0, HO_287002, BK286, HB⟩ := hrel
       cases gk with
       | zero => exact absurd HA.out (by simp [codicilref19_Add.l0])
       | succ k2 =>
        have H := HA.out
        clear HA
        simp only [codicilref19_Add.l0] at H
        by_cases c21 : x6_2 < (l1_2.length : Int)
        ·rw [if_pos c21] at H
         have c21b0 : decide (x6_2 < (l1_2.length : Int)) = true := decide_eq_true c21
         clear c21
         by_cases c22 : 0 ≤ x6_2
         ·rw [if_pos c22] at H
          have c22b0 : decide (0 ≤ x6_2) = true := decide_eq_true c22
          clear c22
          replace H := Option.bind_eq_some_iff.mp H
          obtain ⟨t291, A230, H⟩ := H
          (try dsimp only at H)
          have A23 := qH A230
          clear A230
          by_cases c24 : t291 < 0
          ·rw [if_pos c24] at H
           have c24b0 : decide (t291 < 0) = true := decide_eq_true c24
           clear c24
           simp only [Option.some.injEq, Prod.mk.injEq] at H
           obtain ⟨rfl, rfl⟩ := H
           have hcz25_0 : wr.cell? ⟨gb286, 0, none⟩ = some (.string a1_0) := (qE BK286.out 0).trans rfl
           have hcz25_1 : wr.cell? ⟨gb286, 1, none⟩ = some (.int .i64 a1_1) := (qE BK286.out 1).trans rfl
           have hcz25_2 : wr.cell? ⟨gb286, 2, none⟩ = some (.slice A1_2 l1_2.length c1_2) := (qE BK286.out 2).trans rfl
           have hfz25_0 := qF BK286.out 0
           have hfz25_1 := qF BK286.out 1
           have hfz25_2 := qF BK286.out 2
           have p290 : 0 ≤ (x6_2 : Int) := of_decide_eq_true (by first | (with_reducible assumption) | assumption)
           have q290 : x6_2 < (l1_2.length : Int) := of_decide_eq_true (by first | (with_reducible assumption) | assumption)
           obtain ⟨ad290, e290, hx290_0, hx290_1⟩ := at_T24 (Kd.V_reads' HO_287002.out).2.2 x6_2 p290 q290
           cases e290
           replace p290 := eq_true p290
           replace q290 := eq_true q290
           go_wp2_with (first | ((with_reducible refine gate_callee (f := 28) rfl ?_); refine goesL_ (some 40) rfl rfl Try.func28 (by kernel_rfl) rfl #[.slice A0 l0.length c0, .agg #[.string ((rd_T24 l1_2 x6_2).f0), .int .i64 ((rd_T24 l1_2 x6_2).f1)]] rfl (by (try simp only [zX, zY, zZ]); first | done | rfl | (simp only [zD, zE]; rfl)) ?_; (with_reducible refine (codicilref19_at.calls k2 _ _ l0 ((rd_T24 l1_2 x6_2).f0) ((rd_T24 l1_2 x6_2).f1) t291 _ ?side1 ?side2 A23.out).mono ?_); (case side1 => repeat (first | exact (Kd.V_reads' HO_0.out).2.2 | (with_reducible refine Kd.C_alloc ?_ _) | (with_reducible refine Kd.C_drewN ?_ _) | (with_reducible refine Kd.C_drew ?_))); (case side2 => exact (Kd.V_reads' HO_0.out).2.1); rintro e w26 ⟨rfl, hb⟩; refine ⟨_, rfl, ?_⟩; have n0_ := qH (Kd.V_below (by (with_reducible repeat first | apply zVa | apply zVb | apply zVc); exact HO_0.out) hb); have n1_ := qH (Kd.V_below (by (with_reducible repeat first | apply zVa | apply zVb | apply zVc); exact HO_287002.out) hb); have n2_ := qH (qD (g := gb286) (by (with_reducible repeat first | apply qA | apply qC | apply qB); exact BK286.out) hb); have n3_ := qH (below_step (by repeat (first | (with_reducible first | exact HB.out | apply qL | apply qJ | apply qK | refine qI ?_ GE286.out) | exact HB.out)) hb); clear HO_0; clear HO_287002; clear BK286; clear HB; have HO_0 := n0_; have HO_287002 := n1_; have BK286 := n2_; have HB := n3_; clear n0_ n1_ n2_ n3_; (try clear hb); (try clear hb2); (try clear hk); (try clear hi)))
           go_ret2
           exact ⟨_, by first | rfl | (simp [errW_none, errW_some] <;> rfl) | (simp [*, errW_none, errW_some] <;> rfl), by first | exact Kd.S_nil _ _ _ _ _ | exact Kd.N_nil _ _ _ _ _ | exact Kd.V_nil _ _ _ _ _ | exact Kd.Q_nil _ _ _ _ _ | exact Kd.R_nil _ _ _ _ _, by repeat (first | (with_reducible first | exact HB.out | apply qL | apply qJ | apply qK | refine qI ?_ GE286.out) | exact HB.out)⟩
          ·rw [if_neg c24] at H
           have c24b0 : decide (t291 < 0) = false := decide_eq_false c24
           clear c24
           have H' := qH H
           clear H
           have hcz27_0 : wr.cell? ⟨gb286, 0, none⟩ = some (.string a1_0) := (qE BK286.out 0).trans rfl
           have hcz27_1 : wr.cell? ⟨gb286, 1, none⟩ = some (.int .i64 a1_1) := (qE BK286.out 1).trans rfl
           have hcz27_2 : wr.cell? ⟨gb286, 2, none⟩ = some (.slice A1_2 l1_2.length c1_2) := (qE BK286.out 2).trans rfl
           have hfz27_0 := qF BK286.out 0
           have hfz27_1 := qF BK286.out 1
           have hfz27_2 := qF BK286.out 2
           have p290 : 0 ≤ (x6_2 : Int) := of_decide_eq_true (by first | (with_reducible assumption) | assumption)
           have q290 : x6_2 < (l1_2.length : Int) := of_decide_eq_true (by first | (with_reducible assumption) | assumption)
           obtain ⟨ad290, e290, hx290_0, hx290_1⟩ := at_T24 (Kd.V_reads' HO_287002.out).2.2 x6_2 p290 q290
           cases e290
           replace p290 := eq_true p290
           replace q290 := eq_true q290
           go_wp2_with (first | ((with_reducible refine gate_callee (f := 28) rfl ?_); refine goesL_ (some 40) rfl rfl Try.func28 (by kernel_rfl) rfl #[.slice A0 l0.length c0, .agg #[.string ((rd_T24 l1_2 x6_2).f0), .int .i64 ((rd_T24 l1_2 x6_2).f1)]] rfl (by (try simp only [zX, zY, zZ]); first | done | rfl | (simp only [zD, zE]; rfl)) ?_; (with_reducible refine (codicilref19_at.calls k2 _ _ l0 ((rd_T24 l1_2 x6_2).f0) ((rd_T24 l1_2 x6_2).f1) t291 _ ?side1 ?side2 A23.out).mono ?_); (case side1 => repeat (first | exact (Kd.V_reads' HO_0.out).2.2 | (with_reducible refine Kd.C_alloc ?_ _) | (with_reducible refine Kd.C_drewN ?_ _) | (with_reducible refine Kd.C_drew ?_))); (case side2 => exact (Kd.V_reads' HO_0.out).2.1); rintro e w28 ⟨rfl, hb⟩; refine ⟨_, rfl, ?_⟩; have n0_ := qH (Kd.V_below (by (with_reducible repeat first | apply zVa | apply zVb | apply zVc); exact HO_0.out) hb); have n1_ := qH (Kd.V_below (by (with_reducible repeat first | apply zVa | apply zVb | apply zVc); exact HO_287002.out) hb); have n2_ := qH (qD (g := gb286) (by (with_reducible repeat first | apply qA | apply qC | apply qB); exact BK286.out) hb); have n3_ := qH (below_step (by repeat (first | (with_reducible first | exact HB.out | apply qL | apply qJ | apply qK | refine qI ?_ GE286.out) | exact HB.out)) hb); clear HO_0; clear HO_287002; clear BK286; clear HB; have HO_0 := n0_; have HO_287002 := n1_; have BK286 := n2_; have HB := n3_; clear n0_ n1_ n2_ n3_; (try clear hb); (try clear hb2); (try clear hk); (try clear hi)))
           go_roundg k2
           case measure => have := HJ10.out; have := HK2.out; omega
           case rel => exact ⟨(wrap64 (x6_2 + 1)), (by first | rfl | (simp; done) | (simp; exact qEmp _) | (simp [*]; done)), H', ⟨by have := HJ10.out; have := HK2.out; omega⟩, ⟨by (with_reducible repeat first | apply zVa | apply zVb | apply zVc); exact HO_0.out⟩, ⟨by (with_reducible repeat first | apply zVa | apply zVb | apply zVc); exact HO_287002.out⟩, ⟨by (with_reducible repeat first | apply qA | apply qC | apply qB); exact BK286.out⟩, ⟨by repeat (first | (with_reducible first | exact HB.out | apply qL | apply qJ | apply qK | refine qI ?_ GE286.out) | exact HB.out)⟩⟩
         ·rw [if_neg c22] at H
          exact absurd H (by simp)
        ·rw [if_neg c21] at H
         have c21b0 : decide (x6_2 < (l1_2.length : Int)) = false := decide_eq_false c21
         clear c21
         by_cases c29 : (l0.length : Int) ≥ 1024
         ·rw [if_pos c29] at H
          have c29b0 : decide (1024 ≤ (l0.length : Int)) = true := decide_eq_true c29
          have c29b1 : decide (1024 ≤ l0.length) = true := decide_eq_true (by omega)
          clear c29
          simp only [Option.some.injEq, Prod.mk.injEq] at H
          obtain ⟨rfl, rfl⟩ := H
          have hcz30_0 : wr.cell? ⟨gb286, 0, none⟩ = some (.string a1_0) := (qE BK286.out 0).trans rfl
          have hcz30_1 : wr.cell? ⟨gb286, 1, none⟩ = some (.int .i64 a1_1) := (qE BK286.out 1).trans rfl
          have hcz30_2 : wr.cell? ⟨gb286, 2, none⟩ = some (.slice A1_2 l1_2.length c1_2) := (qE BK286.out 2).trans rfl
          have hfz30_0 := qF BK286.out 0
          have hfz30_1 := qF BK286.out 1
          have hfz30_2 := qF BK286.out 2
          go_wp2
          go_ret2
          exact ⟨_, by first | rfl | (simp [errW_none, errW_some] <;> rfl) | (simp [*, errW_none, errW_some] <;> rfl), by first | exact Kd.S_nil _ _ _ _ _ | exact Kd.N_nil _ _ _ _ _ | exact Kd.V_nil _ _ _ _ _ | exact Kd.Q_nil _ _ _ _ _ | exact Kd.R_nil _ _ _ _ _, by repeat (first | (with_reducible first | exact HB.out | apply qL | apply qJ | apply qK | refine qI ?_ GE286.out) | exact HB.out)⟩
         ·rw [if_neg c29] at H
          have c29b0 : decide (1024 ≤ (l0.length : Int)) = false := decide_eq_false c29
          have c29b1 : decide (1024 ≤ l0.length) = false := decide_eq_false (by omega)
          clear c29
          have H' := qH H
          clear H
          have hcz31_0 : wr.cell? ⟨gb286, 0, none⟩ = some (.string a1_0) := (qE BK286.out 0).trans rfl
          have hcz31_1 : wr.cell? ⟨gb286, 1, none⟩ = some (.int .i64 a1_1) := (qE BK286.out 1).trans rfl
          have hcz31_2 : wr.cell? ⟨gb286, 2, none⟩ = some (.slice A1_2 l1_2.length c1_2) := (qE BK286.out 2).trans rfl
          have hfz31_0 := qF BK286.out 0
          have hfz31_1 := qF BK286.out 1
          have hfz31_2 := qF BK286.out 2
          go_wp2
          go_loopg [7, 8, 9] k2 (fun kq v7 v8 v9 w' => ∃ (x7_3 : List (S40)) (x8_3 : Bool) (x9_3 : Int), v8 = .bool x8_3 ∧ v9 = .int .i64 x9_3 ∧ Aside0 (codicilref19_Add.l1 kq l0 x7_3 x8_3 x9_3 a1_0 a1_1 l1_2 = some (r1, r2)) ∧ Aside0 (kq ≤ k2) ∧ Aside0 (Kd.V k40 40 w' w.heap.size (fun k_ => ((P0_ k_ ∨ P1_2_ k_) ∨ w.heap.size ≤ k_) ∧ some k_ ≠ (v7 : Value).ownBlock ∧ k_ ≠ gb286) (.slice A0 l0.length c0) l0) ∧ Aside0 (Kd.N k40 40 w' w.heap.size (fun k_ => ((P0_ k_ ∨ P1_2_ k_) ∨ w.heap.size ≤ k_) ∧ k_ ≠ gb286) v7 x7_3) ∧ Aside0 (Kd.V k24 24 w' w.heap.size (fun k_ => ((P0_ k_ ∨ P1_2_ k_) ∨ w.heap.size ≤ k_) ∧ some k_ ≠ (v7 : Value).ownBlock ∧ k_ ≠ gb286) (.slice A1_2 l1_2.length c1_2) l1_2) ∧ Aside0 (w'.heap[gb286]? = some (.cells #[.string a1_0, .int .i64 a1_1, (.slice A1_2 l1_2.length c1_2)] 40 (0, 0))) ∧ Aside0 (Below w.heap.size w w'))
          case atStart => exact ⟨(([] : List (S40))), (false), (0), (by first | rfl | (simp; done) | (simp; exact qEmp _) | (simp [*]; done)), (by first | rfl | (simp; done) | (simp; exact qEmp _) | (simp [*]; done)), H', ⟨Nat.le_refl _⟩, ⟨by (with_reducible repeat first | apply zVa | apply zVb | apply zVc); exact Kd.V_mono HO_0.out (fun _ hk => ⟨hk.1, ⟨(by simp [Value.ownBlock]), hk.2⟩⟩)⟩, ⟨by first | exact Kd.S_nil _ _ _ _ _ | exact Kd.N_nil _ _ _ _ _ | exact Kd.V_nil _ _ _ _ _ | exact Kd.Q_nil _ _ _ _ _ | exact Kd.R_nil _ _ _ _ _⟩, ⟨by (with_reducible repeat first | apply zVa | apply zVb | apply zVc); exact Kd.V_mono HO_287002.out (fun _ hk => ⟨hk.1, ⟨(by simp [Value.ownBlock]), hk.2⟩⟩)⟩, ⟨by (with_reducible repeat first | apply qA | apply qC | apply qB); exact BK286.out⟩, ⟨by repeat (first | (with_reducible first | exact HB.out | apply qL | apply qJ | apply qK | refine qI ?_ GE286.out) | exact HB.out)⟩⟩
          case round =>
           clear H'
           try clear c1
           try clear c2
           try clear p2
           try clear q2
           try clear hx2
           try clear c4
           try clear c4b0
           try clear c4b1
           try clear c6
           try clear c6b0
           try clear p6
           try clear c14
           try clear c16
           try clear c16b0
           try clear c16b1
           try clear c20
           try clear c21
           try clear c21b0
           try clear c22
           try clear c22b0
           try clear c24
           try clear c24b0
           try clear c28
           try clear c29
           try clear c29b0
           try clear c29b1
           try clear p29
           try clear q29
           try clear hx29
           try clear hcz14_0
           try clear hcz14_1
           try clear hcz14_2
           try clear hcz17_0
           try clear hcz17_1
           try clear hcz17_2
           try clear hcz19_0
           try clear hcz19_1
           try clear hcz19_2
           try clear hcz25_0
           try clear hcz25_1
           try clear hcz25_2
           try clear hcz27_0
           try clear hcz27_1
           try clear hcz27_2
           try clear hcz30_0
           try clear hcz30_1
           try clear hcz30_2
           try clear hcz31_0
           try clear hcz31_1
           try clear hcz31_2
           try clear hcz9_0
           try clear hcz9_1
           try clear hcz9_2
           try clear hfz14_0
           try clear hfz14_1
           try clear hfz14_2
           try clear hfz17_0
           try clear hfz17_1
           try clear hfz17_2
           try clear hfz19_0
           try clear hfz19_1
           try clear hfz19_2
           try clear hfz25_0
           try clear hfz25_1
           try clear hfz25_2
           try clear hfz27_0
           try clear hfz27_1
           try clear hfz27_2
           try clear hfz30_0
           try clear hfz30_1
           try clear hfz30_2
           try clear hfz31_0
           try clear hfz31_1
           try clear hfz31_2
           try clear hfz9_0
           try clear hfz9_1
           try clear hfz9_2
           try clear hx290_0
           try clear hx290_1
           try clear p2
           try clear p290
           try clear q290
           obtain ⟨x7_3, x8_3, x9_3, rfl, rfl, HA, HK3, HO_0, HO_7, HO_287002, BK286, HB⟩ := hrel
           cases gk with
           | zero => exact absurd HA.out (by simp [codicilref19_Add.l1])
           | succ k3 =>
            have H := HA.out
            clear HA
            simp only [codicilref19_Add.l1] at H
            by_cases c32 : x9_3 < (l0.length : Int)
            ·rw [if_pos c32] at H
             have c32b0 : decide (x9_3 < (l0.length : Int)) = true := decide_eq_true c32
             clear c32
             by_cases c33 : x8_3 = true
             ·subst c33
              have H1 : (if 0 ≤ x9_3 then (if x7_3.length < 2932031007402 then (codicilref19_Add.l1 k3 l0 (x7_3 ++ [(⟨(⟨(rd_T40 l0 x9_3).f0.f0, (rd_T40 l0 x9_3).f0.f1⟩ : S24), (rd_T40 l0 x9_3).f1⟩ : S40)]) true (wrap64 (x9_3 + 1)) a1_0 a1_1 l1_2) else (none)) else (none)) = some (r1, r2) := by rw [if_pos rfl] at H; exact H
              clear H
              have H := H1
              clear H1
              by_cases c34 : 0 ≤ x9_3
              ·rw [if_pos c34] at H
               have c34b0 : decide (0 ≤ x9_3) = true := decide_eq_true c34
               clear c34
               by_cases c35 : x7_3.length < 2932031007402
               ·rw [if_pos c35] at H
                have LMc35 := qH c35
                clear c35
                obtain ⟨y293, hy293⟩ : ∃ y_ : List (S40), y_ = (x7_3 ++ [(⟨(⟨(rd_T40 l0 x9_3).f0.f0, (rd_T40 l0 x9_3).f0.f1⟩ : S24), (rd_T40 l0 x9_3).f1⟩ : S40)]) := ⟨_, rfl⟩
                replace H : (codicilref19_Add.l1 k3 l0 y293 true (wrap64 (x9_3 + 1)) a1_0 a1_1 l1_2) = some (r1, r2) := by first | (rw [hy293]; with_reducible exact H) | (have H2_ := (Option.bind_some _ _).symm.trans H; rw [hy293]; with_reducible exact H2_) | (have H2_ := (Option.bind_some _ _).symm.trans H; with_reducible exact H2_) | with_reducible exact H | (rw [hy293]; exact H) | exact H
                have Ny293 := qH hy293
                clear hy293
                have H' := qH H
                clear H
                try go_wp2
                have n0_ := qH (Kd.V_drew HO_0.out)
                have n1_ := qH (Kd.N_drew HO_7.out)
                have n2_ := qH (Kd.V_drew HO_287002.out)
                have n3_ := qH (qC BK286.out)
                have n4_ := qH (qK HB.out)
                clear HO_0
                clear HO_7
                clear HO_287002
                clear BK286
                clear HB
                have HO_0 := n0_
                have HO_7 := n1_
                have HO_287002 := n2_
                have BK286 := n3_
                have HB := n4_
                clear n0_ n1_ n2_ n3_ n4_
                refine start_ (n := 12) (S := fun w' => True) (ds := []) (lb 12 0) (by kernel_rfl) rfl rfl trivial (fun hHeld => ?_); refine with_tabW codicilref19_Add.tab19 codicilref19_Add.bits19 (fun HT_ HW_ => ?_)
                generalize wr.drew = w36 at HO_0 HO_7 HO_287002 BK286 HB hHeld ⊢
                refine pure_ (i := 0) (N := some 51) (v := ?_) (a' := ?_) (lb 12 1) rfl rfl (any_of HT_.out (by kernel_rfl)) (fun _ _ _ h => h) (Or.inl ⟨by rfl, ?_⟩) ?_ ?_
                rotate_left
                ·intro w'
                 go_simp
                 with_reducible rfl
                rotate_left
                ·simp only [Act.put, zS, zT, zU, zV, zW]
                 rfl
                refine pure_ (i := 1) (N := some 52) (v := ?_) (a' := ?_) (lb 12 3) rfl rfl (any_of HT_.out (by kernel_rfl)) (fun _ _ _ h => h) (Or.inl ⟨by rfl, ?_⟩) ?_ ?_
                rotate_left
                ·intro w'
                 go_simp
                 with_reducible rfl
                rotate_left
                ·simp only [Act.put, zS, zT, zU, zV, zW]
                 rfl
                refine pure_ (i := 2) (N := some 53) (v := ?_) (a' := ?_) (lb 12 7) rfl rfl (any_of HT_.out (by kernel_rfl)) (fun _ _ _ h => h) (Or.inl ⟨by rfl, ?_⟩) ?_ ?_
                rotate_left
                ·intro w'
                 go_simp
                 with_reducible rfl
                rotate_left
                ·simp only [Act.put, zS, zT, zU, zV, zW]
                 rfl
                refine pure_ (i := 3) (N := some 54) (v := undef) (a' := ?_) (lb 12 15) rfl rfl (any_of HT_.out (by kernel_rfl)) (fun _ _ _ h => h) (Or.inr ⟨by rfl, rfl⟩) ?_ ?_
                rotate_left
                ·simp only [Act.put, zS, zT, zU, zV, zW]
                 rfl
                refine pure_ (i := 4) (N := some 55) (v := undef) (a' := ?_) (lb 12 31) rfl rfl (any_of HT_.out (by kernel_rfl)) (fun _ _ _ h => h) (Or.inr ⟨by rfl, rfl⟩) ?_ ?_
                rotate_left
                ·simp only [Act.put, zS, zT, zU, zV, zW]
                 rfl
                refine pure_ (i := 5) (N := some 56) (v := undef) (a' := ?_) (lb 12 63) rfl rfl (any_of HT_.out (by kernel_rfl)) (fun _ _ _ h => h) (Or.inr ⟨by rfl, rfl⟩) ?_ ?_
                rotate_left
                ·simp only [Act.put, zS, zT, zU, zV, zW]
                 rfl
                refine pure_ (i := 6) (N := some 57) (v := undef) (a' := ?_) (lb 12 127) rfl rfl (any_of HT_.out (by kernel_rfl)) (fun _ _ _ h => h) (Or.inr ⟨by rfl, rfl⟩) ?_ ?_
                rotate_left
                ·simp only [Act.put, zS, zT, zU, zV, zW]
                 rfl
                refine pure_ (i := 7) (N := some 58) (v := undef) (a' := ?_) (lb 12 255) rfl rfl (any_of HT_.out (by kernel_rfl)) (fun _ _ _ h => h) (Or.inr ⟨by rfl, rfl⟩) ?_ ?_
                rotate_left
                ·simp only [Act.put, zS, zT, zU, zV, zW]
                 rfl
                refine pure_ (i := 8) (N := some 59) (v := undef) (a' := ?_) (lb 12 511) rfl rfl (any_of HT_.out (by kernel_rfl)) (fun _ _ _ h => h) (Or.inr ⟨by rfl, rfl⟩) ?_ ?_
                rotate_left
                ·simp only [Act.put, zS, zT, zU, zV, zW]
                 rfl
                refine pure_ (i := 9) (N := some 60) (v := undef) (a' := ?_) (lb 12 1023) rfl rfl (any_of HT_.out (by kernel_rfl)) (fun _ _ _ h => h) (Or.inr ⟨by rfl, rfl⟩) ?_ ?_
                rotate_left
                ·simp only [Act.put, zS, zT, zU, zV, zW]
                 rfl
                refine pure_ (i := 10) (N := some 61) (v := undef) (a' := ?_) (lb 12 2047) rfl rfl (any_of HT_.out (by kernel_rfl)) (fun _ _ _ h => h) (Or.inr ⟨by rfl, rfl⟩) ?_ ?_
                rotate_left
                ·simp only [Act.put, zS, zT, zU, zV, zW]
                 rfl
                refine pure_ (i := 11) (N := some 62) (v := ?_) (a' := ?_) (lb 12 4095) rfl rfl (any_of HT_.out (by kernel_rfl)) (fun _ _ _ h => h) (Or.inl ⟨by rfl, ?_⟩) ?_ ?_
                rotate_left
                ·intro w'
                 go_simp
                 with_reducible rfl
                rotate_left
                ·simp only [Act.put, zS, zT, zU, zV, zW]
                 rfl
                refine done_ (done_of HT_.out (by kernel_rfl)) ?_
                have p292 : 0 ≤ (x9_3 : Int) := of_decide_eq_true (by first | (with_reducible assumption) | assumption)
                have q292 : x9_3 < (l0.length : Int) := of_decide_eq_true (by first | (with_reducible assumption) | assumption)
                obtain ⟨ad292, A292_2, c292_2, e292, hx292_0, hx292_1, hx292_2, hl292_2, hi292_2⟩ := at_T40 (Kd.V_reads' HO_0.out).2.2 x9_3 p292 q292
                cases e292
                obtain ⟨ce292, hce292, hMe292, hcc292⟩ := Kd.V_get HO_0.out z40 x9_3 p292 (by first | exact q292 | exact of_decide_eq_true (by first | (with_reducible assumption) | assumption) | (have e_ := (Kd.V_reads' HO_0.out).1; omega))
                obtain ⟨ua292_2, uc292_2, rfl, ul292_2, ge292_2⟩ := k40_openF hMe292
                have hv292_2 := hcc292 2 _ rfl
                rw [add_field _ _ 2 (by omega)] at hv292_2
                replace hv292_2 := Option.some.inj (hv292_2.symm.trans hx292_2)
                injection hv292_2 with hva_ hvn_ hvc_
                rw [hva_] at ge292_2
                rw [hvc_] at ul292_2
                have HL292_2 := qH (show Kd.V k24 24 _ w.heap.size _ _ ((rd_T40 l0 x9_3).f1) from Kd.V_mk ul292_2 ge292_2)
                clear hva_ hvn_ hvc_ ge292_2 ul292_2
                clear hcc292 hce292
                have HR292_2 := qH hi292_2
                have HC292_2 := qH hl292_2
                clear hi292_2 hl292_2
                replace p292 := eq_true p292
                replace q292 := eq_true q292
                try go_wp2_with (first | ((with_reducible refine gate_builtin (b := .append) (xs := #[.tmp 67, .tmp 72]) rfl ?_); at_builtin; refine Kd.N_append k40 (w0 := w) w.heap.size rfl (.tmp 67) (.tmp 72) 22 40 (.agg #[(.string ⟨#[]⟩), (.int .i64 0), (.slice none 0 0)]) 48 rfl Try.underlying22 info40 rfl (by decide) (by omega) u7 x7_3 (⟨(⟨(rd_T40 l0 x9_3).f0.f0, (rd_T40 l0 x9_3).f0.f1⟩ : S24), (rd_T40 l0 x9_3).f1⟩ : S40) [.string ((rd_T40 l0 x9_3).f0.f0), .int .i64 ((rd_T40 l0 x9_3).f0.f1), .slice A292_2 ((rd_T40 l0 x9_3).f1).length c292_2] (fun k_ => ((P0_ k_ ∨ P1_2_ k_) ∨ w.heap.size ≤ k_) ∧ k_ ≠ gb286) (fun k_ => ((fun k_ => ((P0_ k_ ∨ P1_2_ k_) ∨ w.heap.size ≤ k_) ∧ k_ ≠ gb286)) k_ ∧ some k_ ≠ (u7 : Value).ownBlock) rfl rfl ?aP (fun _ hk => hk) ?aF ?aO ?aB ?aS ?aL ?_; (case aP => exact (k40_mkF _ _ (⟨(⟨(rd_T40 l0 x9_3).f0.f0, (rd_T40 l0 x9_3).f0.f1⟩ : S24), (rd_T40 l0 x9_3).f1⟩ : S40) (Kd.V_reads' (Kd.V_mono (ok' := (fun k_ => ((fun k_ => ((P0_ k_ ∨ P1_2_ k_) ∨ w.heap.size ≤ k_) ∧ k_ ≠ gb286)) k_ ∧ some k_ ≠ (u7 : Value).ownBlock)) (HL292_2.out) (fun k_ hk => ⟨⟨hk.1, hk.2.2⟩, hk.2.1⟩))).2.1 (Kd.V_F (Kd.V_mono (ok' := (fun k_ => ((fun k_ => ((P0_ k_ ∨ P1_2_ k_) ∨ w.heap.size ≤ k_) ∧ k_ ≠ gb286)) k_ ∧ some k_ ≠ (u7 : Value).ownBlock)) (HL292_2.out) (fun k_ hk => ⟨⟨hk.1, hk.2.2⟩, hk.2.1⟩))))); (case aB => exact (by repeat (first | (with_reducible first | exact HB.out | apply qL | apply qJ | apply qK | refine qI ?_ GE286.out) | exact HB.out))); (case aF => exact (fun k_ hk => ⟨(.inr (Nat.le_trans (below_size (by repeat (first | (with_reducible first | exact HB.out | apply qL | apply qJ | apply qK | refine qI ?_ GE286.out) | exact HB.out))) hk)), Kd.freshB (g := gb286) (by (with_reducible repeat first | apply qA | apply qC | apply qB); exact BK286.out) k_ hk⟩)); (case aO => exact (by (with_reducible repeat first | apply zNa | apply zNb | apply zNc); exact HO_7.out)); (case aS => exact (below_size (by repeat (first | (with_reducible first | exact HB.out | apply qL | apply qJ | apply qK | refine qI ?_ GE286.out) | exact HB.out)))); (case aL => have := LMc35.out; omega); intro v294 w37 ho hb hg hat; rw [← Ny293.out] at ho; have n0_ := qH (Kd.V_afterv (ok := (fun k_ => ((P0_ k_ ∨ P1_2_ k_) ∨ w.heap.size ≤ k_) ∧ k_ ≠ gb286)) (by (with_reducible repeat first | apply zVa | apply zVb | apply zVc); exact Kd.V_mono HO_0.out (fun _ hk => ⟨⟨hk.1, hk.2.2⟩, hk.2.1⟩)) hg hat); have n1_ := qH (Kd.V_afterv (ok := (fun k_ => ((P0_ k_ ∨ P1_2_ k_) ∨ w.heap.size ≤ k_) ∧ k_ ≠ gb286)) (by (with_reducible repeat first | apply zVa | apply zVb | apply zVc); exact Kd.V_mono HO_287002.out (fun _ hk => ⟨⟨hk.1, hk.2.2⟩, hk.2.1⟩)) hg hat); have n2_ := qH (blk_grown (g := gb286) (by (with_reducible repeat first | apply qA | apply qC | apply qB); exact BK286.out) hg (Kd.N_away HO_7.out (fun _ hk => hk.2))); have n3_ := qH (Kd.V_afterv (ok := (fun k_ => ((P0_ k_ ∨ P1_2_ k_) ∨ w.heap.size ≤ k_) ∧ k_ ≠ gb286)) (by (with_reducible repeat first | apply zVa | apply zVb | apply zVc); exact Kd.V_mono HL292_2.out (fun _ hk => ⟨⟨hk.1, hk.2.2⟩, hk.2.1⟩)) hg hat); have n4_ := qH (hb); have n5_ := qH (ho); clear HO_0; clear HO_287002; clear BK286; clear HL292_2; clear HB; clear HO_7; have HO_0 := n0_; have HO_287002 := n1_; have BK286 := n2_; have HL292_2 := n3_; have HB := n4_; have HO295 := n5_; clear n0_ n1_ n2_ n3_ n4_ n5_; clear ho hb hg hat))
                go_roundg k3
                case measure => have := HJ10.out; have := HK2.out; have := HK3.out; omega
                case rel => exact ⟨(y293), (true), (wrap64 (x9_3 + 1)), (by first | rfl | (simp; done) | (simp; exact qEmp _) | (simp [*]; done)), (by first | rfl | (simp; done) | (simp; exact qEmp _) | (simp [*]; done)), H', ⟨by have := HJ10.out; have := HK2.out; have := HK3.out; omega⟩, ⟨by (with_reducible repeat first | apply zVa | apply zVb | apply zVc); exact Kd.V_mono HO_0.out (fun _ hk => ⟨hk.1.1, ⟨hk.2, hk.1.2⟩⟩)⟩, ⟨by (with_reducible repeat first | apply zNa | apply zNb | apply zNc); exact HO295.out⟩, ⟨by (with_reducible repeat first | apply zVa | apply zVb | apply zVc); exact Kd.V_mono HO_287002.out (fun _ hk => ⟨hk.1.1, ⟨hk.2, hk.1.2⟩⟩)⟩, ⟨by (with_reducible repeat first | apply qA | apply qC | apply qB); exact BK286.out⟩, ⟨by repeat (first | (with_reducible first | exact HB.out | apply qL | apply qJ | apply qK | refine qI ?_ GE286.out) | exact HB.out)⟩⟩
               ·rw [if_neg c35] at H
                exact absurd H (by simp)
              ·rw [if_neg c34] at H
               exact absurd H (by simp)
             ·replace c33 := Bool.eq_false_iff.mpr c33
              subst c33
              have H1 : (if 0 ≤ x9_3 then ((codicilref19_Less.f a1_0 a1_1 ((rd_T40 l0 x9_3).f0.f0) ((rd_T40 l0 x9_3).f0.f1)).bind fun t297 => (if t297 = true then (if x7_3.length < 2932031007402 then ((some (x7_3 ++ [(⟨(⟨a1_0, a1_1⟩ : S24), l1_2⟩ : S40)] : List (S40))).bind fun y298 => (if y298.length < 2932031007402 then (codicilref19_Add.l1 k3 l0 (y298 ++ [(⟨(⟨(rd_T40 l0 x9_3).f0.f0, (rd_T40 l0 x9_3).f0.f1⟩ : S24), (rd_T40 l0 x9_3).f1⟩ : S40)]) true (wrap64 (x9_3 + 1)) a1_0 a1_1 l1_2) else (none))) else (none)) else (if x7_3.length < 2932031007402 then (codicilref19_Add.l1 k3 l0 (x7_3 ++ [(⟨(⟨(rd_T40 l0 x9_3).f0.f0, (rd_T40 l0 x9_3).f0.f1⟩ : S24), (rd_T40 l0 x9_3).f1⟩ : S40)]) false (wrap64 (x9_3 + 1)) a1_0 a1_1 l1_2) else (none)))) else (none)) = some (r1, r2) := by rw [if_neg (show ¬ (false = true) by decide)] at H; exact H
              clear H
              have H := H1
              clear H1
              by_cases c38 : 0 ≤ x9_3
              ·rw [if_pos c38] at H
               have c38b0 : decide (0 ≤ x9_3) = true := decide_eq_true c38
               clear c38
               replace H := Option.bind_eq_some_iff.mp H
               obtain ⟨t297, A390, H⟩ := H
               (try dsimp only at H)
               have A39 := qH A390
               clear A390
               by_cases c40 : t297 = true
               ·subst c40
                have H1 : (if x7_3.length < 2932031007402 then ((some (x7_3 ++ [(⟨(⟨a1_0, a1_1⟩ : S24), l1_2⟩ : S40)] : List (S40))).bind fun y298 => (if y298.length < 2932031007402 then (codicilref19_Add.l1 k3 l0 (y298 ++ [(⟨(⟨(rd_T40 l0 x9_3).f0.f0, (rd_T40 l0 x9_3).f0.f1⟩ : S24), (rd_T40 l0 x9_3).f1⟩ : S40)]) true (wrap64 (x9_3 + 1)) a1_0 a1_1 l1_2) else (none))) else (none)) = some (r1, r2) := by rw [if_pos rfl] at H; exact H
                clear H
                have H := H1
                clear H1
                by_cases c41 : x7_3.length < 2932031007402
                ·rw [if_pos c41] at H
                 have LMc41 := qH c41
                 clear c41
                 obtain ⟨y298, hy298⟩ : ∃ y_ : List (S40), y_ = (x7_3 ++ [(⟨(⟨a1_0, a1_1⟩ : S24), l1_2⟩ : S40)]) := ⟨_, rfl⟩
                 replace H : (if y298.length < 2932031007402 then (codicilref19_Add.l1 k3 l0 (y298 ++ [(⟨(⟨(rd_T40 l0 x9_3).f0.f0, (rd_T40 l0 x9_3).f0.f1⟩ : S24), (rd_T40 l0 x9_3).f1⟩ : S40)]) true (wrap64 (x9_3 + 1)) a1_0 a1_1 l1_2) else (none)) = some (r1, r2) := by first | (rw [hy298]; with_reducible exact H) | (have H2_ := (Option.bind_some _ _).symm.trans H; rw [hy298]; with_reducible exact H2_) | (have H2_ := (Option.bind_some _ _).symm.trans H; with_reducible exact H2_) | with_reducible exact H | (rw [hy298]; exact H) | exact H
                 have Ny298 := qH hy298
                 clear hy298
                 by_cases c42 : y298.length < 2932031007402
                 ·rw [if_pos c42] at H
                  have LMc42 := qH c42
                  clear c42
                  obtain ⟨y302, hy302⟩ : ∃ y_ : List (S40), y_ = (y298 ++ [(⟨(⟨(rd_T40 l0 x9_3).f0.f0, (rd_T40 l0 x9_3).f0.f1⟩ : S24), (rd_T40 l0 x9_3).f1⟩ : S40)]) := ⟨_, rfl⟩
                  replace H : (codicilref19_Add.l1 k3 l0 y302 true (wrap64 (x9_3 + 1)) a1_0 a1_1 l1_2) = some (r1, r2) := by first | (rw [hy302]; with_reducible exact H) | (have H2_ := (Option.bind_some _ _).symm.trans H; rw [hy302]; with_reducible exact H2_) | (have H2_ := (Option.bind_some _ _).symm.trans H; with_reducible exact H2_) | with_reducible exact H | (rw [hy302]; exact H) | exact H
                  have Ny302 := qH hy302
                  clear hy302
                  have H' := qH H
                  clear H
                  try go_wp2
                  have n0_ := qH (Kd.V_drew HO_0.out)
                  have n1_ := qH (Kd.N_drew HO_7.out)
                  have n2_ := qH (Kd.V_drew HO_287002.out)
                  have n3_ := qH (qC BK286.out)
                  have n4_ := qH (qK HB.out)
                  clear HO_0
                  clear HO_7
                  clear HO_287002
                  clear BK286
                  clear HB
                  have HO_0 := n0_
                  have HO_7 := n1_
                  have HO_287002 := n2_
                  have BK286 := n3_
                  have HB := n4_
                  clear n0_ n1_ n2_ n3_ n4_
                  have p296 : 0 ≤ (x9_3 : Int) := of_decide_eq_true (by first | (with_reducible assumption) | assumption)
                  have q296 : x9_3 < (l0.length : Int) := of_decide_eq_true (by first | (with_reducible assumption) | assumption)
                  obtain ⟨ad296, A296_2, c296_2, e296, hx296_0, hx296_1, hx296_2, hl296_2, hi296_2⟩ := at_T40 (Kd.V_reads' HO_0.out).2.2 x9_3 p296 q296
                  cases e296
                  obtain ⟨ce296, hce296, hMe296, hcc296⟩ := Kd.V_get HO_0.out z40 x9_3 p296 (by first | exact q296 | exact of_decide_eq_true (by first | (with_reducible assumption) | assumption) | (have e_ := (Kd.V_reads' HO_0.out).1; omega))
                  obtain ⟨ua296_2, uc296_2, rfl, ul296_2, ge296_2⟩ := k40_openF hMe296
                  have hv296_2 := hcc296 2 _ rfl
                  rw [add_field _ _ 2 (by omega)] at hv296_2
                  replace hv296_2 := Option.some.inj (hv296_2.symm.trans hx296_2)
                  injection hv296_2 with hva_ hvn_ hvc_
                  rw [hva_] at ge296_2
                  rw [hvc_] at ul296_2
                  have HL296_2 := qH (show Kd.V k24 24 _ w.heap.size _ _ ((rd_T40 l0 x9_3).f1) from Kd.V_mk ul296_2 ge296_2)
                  clear hva_ hvn_ hvc_ ge296_2 ul296_2
                  clear hcc296 hce296
                  have HR296_2 := qH hi296_2
                  have HC296_2 := qH hl296_2
                  clear hi296_2 hl296_2
                  replace p296 := eq_true p296
                  replace q296 := eq_true q296
                  refine start_ (n := 12) (S := fun w' => w'.cell? ⟨gb286, 0, none⟩ = some (.string a1_0) ∧ w'.cell? ⟨gb286, 1, none⟩ = some (.int .i64 a1_1) ∧ w'.cell? ⟨gb286, 2, none⟩ = some (.slice A1_2 l1_2.length c1_2) ∧ w'.cell? (ad296.add ((x9_3).toNat * 3)) = some (.string ((rd_T40 l0 x9_3).f0.f0)) ∧ w'.cell? ⟨(ad296.add ((x9_3).toNat * 3)).block, (ad296.add ((x9_3).toNat * 3)).off + 1, none⟩ = some (.int .i64 ((rd_T40 l0 x9_3).f0.f1)) ∧ w'.cell? ⟨(ad296.add ((x9_3).toNat * 3)).block, (ad296.add ((x9_3).toNat * 3)).off + 2, none⟩ = some (.slice A296_2 ((rd_T40 l0 x9_3).f1).length c296_2)) (ds := []) (lb 12 0) (by kernel_rfl) rfl rfl ⟨(qE BK286.out 0).trans rfl, (qE BK286.out 1).trans rfl, (qE BK286.out 2).trans rfl, hx296_0, hx296_1, hx296_2⟩ (fun hHeld => ?_); refine with_tabW codicilref19_Add.tab19 codicilref19_Add.bits19 (fun HT_ HW_ => ?_)
                  generalize wr.drew = w43 at HO_0 HO_7 HO_287002 BK286 HB HL296_2 HR296_2 hx296_0 hx296_1 hx296_2 hHeld ⊢
                  refine pure_ (i := 0) (N := some 51) (v := ?_) (a' := ?_) (lb 12 1) rfl rfl (any_of HT_.out (by kernel_rfl)) (fun _ _ _ h => h) (Or.inl ⟨by rfl, ?_⟩) ?_ ?_
                  rotate_left
                  ·intro w'
                   go_simp
                   with_reducible rfl
                  rotate_left
                  ·simp only [Act.put, zS, zT, zU, zV, zW]
                   rfl
                  refine pure_ (i := 1) (N := some 52) (v := ?_) (a' := ?_) (lb 12 3) rfl rfl (any_of HT_.out (by kernel_rfl)) (fun _ _ _ h => h) (Or.inl ⟨by rfl, ?_⟩) ?_ ?_
                  rotate_left
                  ·intro w'
                   go_simp
                   with_reducible rfl
                  rotate_left
                  ·simp only [Act.put, zS, zT, zU, zV, zW]
                   rfl
                  refine pure_ (i := 2) (N := some 53) (v := ?_) (a' := ?_) (lb 12 7) rfl rfl (any_of HT_.out (by kernel_rfl)) (fun _ _ _ h => h) (Or.inl ⟨by rfl, ?_⟩) ?_ ?_
                  rotate_left
                  ·intro w'
                   go_simp
                   with_reducible rfl
                  rotate_left
                  ·simp only [Act.put, zS, zT, zU, zV, zW]
                   rfl
                  refine pure_ (i := 3) (N := some 54) (v := ?_) (a' := ?_) (lb 12 15) rfl rfl (any_of HT_.out (by kernel_rfl)) (fun _ _ _ h => h) (Or.inl ⟨by rfl, ?_⟩) ?_ ?_
                  rotate_left
                  ·intro w'
                   go_simp
                   with_reducible rfl
                  rotate_left
                  ·simp only [Act.put, zS, zT, zU, zV, zW]
                   rfl
                  refine pure_ (i := 5) (N := some 56) (v := ?_) (a' := ?_) (lb 12 47) rfl rfl (any_of HT_.out (by kernel_rfl)) (fun _ _ _ h => h) (Or.inl ⟨by rfl, ?_⟩) ?_ ?_
                  rotate_left
                  ·intro w'
                   go_simp
                   with_reducible rfl
                  rotate_left
                  ·simp only [Act.put, zS, zT, zU, zV, zW]
                   rfl
                  refine pure_ (i := 6) (N := some 57) (v := ?_) (a' := ?_) (lb 12 111) rfl rfl (any_of HT_.out (by kernel_rfl)) (fun _ _ _ h => h) (Or.inl ⟨by rfl, ?_⟩) ?_ ?_
                  rotate_left
                  ·intro w'
                   go_simp
                   with_reducible rfl
                  rotate_left
                  ·simp only [Act.put, zS, zT, zU, zV, zW]
                   rfl
                  refine pure_ (i := 7) (N := some 58) (v := ?_) (a' := ?_) (lb 12 239) rfl rfl (any_of HT_.out (by kernel_rfl)) (fun _ _ _ h => h) (Or.inl ⟨by rfl, ?_⟩) ?_ ?_
                  rotate_left
                  ·intro w'
                   go_simp
                   with_reducible rfl
                  rotate_left
                  ·simp only [Act.put, zS, zT, zU, zV, zW]
                   rfl
                  refine pure_ (i := 8) (N := some 59) (v := ?_) (a' := ?_) (lb 12 495) rfl rfl (any_of HT_.out (by kernel_rfl)) (fun _ _ _ h => h) (Or.inl ⟨by rfl, ?_⟩) ?_ ?_
                  rotate_left
                  ·intro w'
                   go_simp
                   with_reducible rfl
                  rotate_left
                  ·simp only [Act.put, zS, zT, zU, zV, zW]
                   rfl
                  refine take_ (i := 4) (N := some 55) (v := ?_) (a' := ?_) (lb 12 511) rfl rfl (take_ofW HT_.out HW_.out (by kernel_rfl)) (fun _ _ _ h => h) (Or.inl ⟨by rfl, ?_⟩) hHeld ?_ ?_
                  rotate_left
                  ·rintro w' ⟨s0, s1, s2, s3, s4, s5⟩
                   go_simp
                   with_reducible rfl
                  rotate_left
                  ·simp only [Act.put, zS, zT, zU, zV, zW]
                   rfl
                  refine take_ (i := 9) (N := some 60) (v := ?_) (a' := ?_) (lb 12 1023) rfl rfl (take_ofW HT_.out HW_.out (by kernel_rfl)) (fun _ _ _ h => h) (Or.inl ⟨by rfl, ?_⟩) hHeld ?_ ?_
                  rotate_left
                  ·rintro w' ⟨s0, s1, s2, s3, s4, s5⟩
                   go_simp
                   with_reducible rfl
                  rotate_left
                  ·simp only [Act.put, zS, zT, zU, zV, zW]
                   rfl
                  refine one_ (i := 10) (N := some 61) (lb 12 2047) rfl rfl (one_of HT_.out (by kernel_rfl)) (by decide) (fun K hK => ?_)
                  refine goes_ Try.func12 (by kernel_rfl) rfl #[.agg #[.string a1_0, .int .i64 a1_1], .agg #[.string ((rd_T40 l0 x9_3).f0.f0), .int .i64 ((rd_T40 l0 x9_3).f0.f1)]] (by rfl) rfl rfl (by (try simp only [zX, zY, zZ]); first | done | rfl | (simp only [zD, zE]; rfl)) ?_
                  with_reducible refine (codicilref19_Less.calls a1_0 a1_1 ((rd_T40 l0 x9_3).f0.f0) ((rd_T40 l0 x9_3).f0.f1) true _ A39.out).mono ?_
                  rintro e w44 ⟨rfl, hb⟩
                  have HS3_ := (hb.cell (qO _ _ (hHeld.2.2.2.1))).trans (hHeld.2.2.2.1)
                  have HS4_ := (hb.cell (qO _ _ (hHeld.2.2.2.2.1))).trans (hHeld.2.2.2.2.1)
                  have HS5_ := (hb.cell (qO _ _ (hHeld.2.2.2.2.2))).trans (hHeld.2.2.2.2.2)
                  refine ⟨_, rfl, ?_⟩
                  have n0_ := qH (Kd.V_below (by (with_reducible repeat first | apply zVa | apply zVb | apply zVc); exact HO_0.out) hb)
                  have n1_ := qH (Kd.N_below (by (with_reducible repeat first | apply zNa | apply zNb | apply zNc); exact HO_7.out) hb)
                  have n2_ := qH (Kd.V_below (by (with_reducible repeat first | apply zVa | apply zVb | apply zVc); exact HO_287002.out) hb)
                  have n3_ := qH (Kd.V_below (by (with_reducible repeat first | apply zVa | apply zVb | apply zVc); exact HL296_2.out) hb)
                  have n4_ := qH (qD (g := gb286) (by (with_reducible repeat first | apply qA | apply qC | apply qB); exact BK286.out) hb)
                  have n5_ := qH (Kd.C_below (by repeat (first | (with_reducible exact HR296_2.out) | (with_reducible refine Kd.C_alloc ?_ _) | (with_reducible refine Kd.C_drewN ?_ _) | (with_reducible refine Kd.C_drew ?_) | exact HR296_2.out)) hb)
                  have n6_ := qH (below_step (by repeat (first | (with_reducible first | exact HB.out | apply qL | apply qJ | apply qK | refine qI ?_ GE286.out) | exact HB.out)) hb)
                  clear HO_0
                  clear HO_7
                  clear HO_287002
                  clear HL296_2
                  clear BK286
                  clear HR296_2
                  clear HB
                  have HO_0 := n0_
                  have HO_7 := n1_
                  have HO_287002 := n2_
                  have HL296_2 := n3_
                  have BK286 := n4_
                  have HR296_2 := n5_
                  have HB := n6_
                  clear n0_ n1_ n2_ n3_ n4_ n5_ n6_
                  (try clear hb)
                  (try clear hb2)
                  (try clear hk)
                  (try clear hi)
                  refine hK.out _ _ ⟨(qE BK286.out 0).trans rfl, (qE BK286.out 1).trans rfl, (qE BK286.out 2).trans rfl, HS3_, HS4_, HS5_⟩ (fun hHeld => ?_)
                  clear hK K
                  refine norm_ (a' := ?_) ?_ ?_
                  rotate_left
                  ·show Act.put _ (some 61) _ = _
                   simp only [Act.put, zS, zT, zU, zV, zW]
                   rfl
                  refine pure_ (i := 11) (N := some 62) (v := ?_) (a' := ?_) (lb 12 4095) rfl rfl (any_of HT_.out (by kernel_rfl)) (fun _ _ _ h => h) (Or.inl ⟨by rfl, ?_⟩) ?_ ?_
                  rotate_left
                  ·intro w'
                   go_simp
                   with_reducible rfl
                  rotate_left
                  ·simp only [Act.put, zS, zT, zU, zV, zW]
                   rfl
                  refine done_ (done_of HT_.out (by kernel_rfl)) ?_
                  have hcz45_0 : w44.cell? ⟨gb286, 0, none⟩ = some (.string a1_0) := (qE BK286.out 0).trans rfl
                  have hcz45_1 : w44.cell? ⟨gb286, 1, none⟩ = some (.int .i64 a1_1) := (qE BK286.out 1).trans rfl
                  have hcz45_2 : w44.cell? ⟨gb286, 2, none⟩ = some (.slice A1_2 l1_2.length c1_2) := (qE BK286.out 2).trans rfl
                  have hfz45_0 := qF BK286.out 0
                  have hfz45_1 := qF BK286.out 1
                  have hfz45_2 := qF BK286.out 2
                  try go_wp2_with (first | ((with_reducible refine gate_builtin (b := .append) (xs := #[.tmp 63, .tmp 65]) rfl ?_); at_builtin; refine Kd.N_append k40 (w0 := w) w.heap.size rfl (.tmp 63) (.tmp 65) 22 40 (.agg #[(.string ⟨#[]⟩), (.int .i64 0), (.slice none 0 0)]) 48 rfl Try.underlying22 info40 rfl (by decide) (by omega) u7 x7_3 (⟨(⟨a1_0, a1_1⟩ : S24), l1_2⟩ : S40) [.string a1_0, .int .i64 a1_1, .slice A1_2 l1_2.length c1_2] (fun k_ => ((P0_ k_ ∨ P1_2_ k_) ∨ w.heap.size ≤ k_) ∧ k_ ≠ gb286) (fun k_ => ((fun k_ => ((P0_ k_ ∨ P1_2_ k_) ∨ w.heap.size ≤ k_) ∧ k_ ≠ gb286)) k_ ∧ some k_ ≠ (u7 : Value).ownBlock) rfl rfl ?aP (fun _ hk => hk) ?aF ?aO ?aB ?aS ?aL ?_; (case aP => exact (k40_mkF _ _ (⟨(⟨a1_0, a1_1⟩ : S24), l1_2⟩ : S40) (Kd.V_reads' (Kd.V_mono (ok' := (fun k_ => ((fun k_ => ((P0_ k_ ∨ P1_2_ k_) ∨ w.heap.size ≤ k_) ∧ k_ ≠ gb286)) k_ ∧ some k_ ≠ (u7 : Value).ownBlock)) (HO_287002.out) (fun k_ hk => ⟨⟨hk.1, hk.2.2⟩, hk.2.1⟩))).2.1 (Kd.V_F (Kd.V_mono (ok' := (fun k_ => ((fun k_ => ((P0_ k_ ∨ P1_2_ k_) ∨ w.heap.size ≤ k_) ∧ k_ ≠ gb286)) k_ ∧ some k_ ≠ (u7 : Value).ownBlock)) (HO_287002.out) (fun k_ hk => ⟨⟨hk.1, hk.2.2⟩, hk.2.1⟩))))); (case aB => exact (by repeat (first | (with_reducible first | exact HB.out | apply qL | apply qJ | apply qK | refine qI ?_ GE286.out) | exact HB.out))); (case aF => exact (fun k_ hk => ⟨(.inr (Nat.le_trans (below_size (by repeat (first | (with_reducible first | exact HB.out | apply qL | apply qJ | apply qK | refine qI ?_ GE286.out) | exact HB.out))) hk)), Kd.freshB (g := gb286) (by (with_reducible repeat first | apply qA | apply qC | apply qB); exact BK286.out) k_ hk⟩)); (case aO => exact (by (with_reducible repeat first | apply zNa | apply zNb | apply zNc); exact HO_7.out)); (case aS => exact (below_size (by repeat (first | (with_reducible first | exact HB.out | apply qL | apply qJ | apply qK | refine qI ?_ GE286.out) | exact HB.out)))); (case aL => have := LMc41.out; omega); intro v299 w46 ho hb hg hat; rw [← Ny298.out] at ho; have n0_ := qH (Kd.V_afterv (ok := (fun k_ => ((P0_ k_ ∨ P1_2_ k_) ∨ w.heap.size ≤ k_) ∧ k_ ≠ gb286)) (by (with_reducible repeat first | apply zVa | apply zVb | apply zVc); exact Kd.V_mono HO_0.out (fun _ hk => ⟨⟨hk.1, hk.2.2⟩, hk.2.1⟩)) hg hat); have n1_ := qH (Kd.V_afterv (ok := (fun k_ => ((P0_ k_ ∨ P1_2_ k_) ∨ w.heap.size ≤ k_) ∧ k_ ≠ gb286)) (by (with_reducible repeat first | apply zVa | apply zVb | apply zVc); exact Kd.V_mono HO_287002.out (fun _ hk => ⟨⟨hk.1, hk.2.2⟩, hk.2.1⟩)) hg hat); have n2_ := qH (blk_grown (g := gb286) (by (with_reducible repeat first | apply qA | apply qC | apply qB); exact BK286.out) hg (Kd.N_away HO_7.out (fun _ hk => hk.2))); have n3_ := qH (Kd.V_afterv (ok := (fun k_ => ((P0_ k_ ∨ P1_2_ k_) ∨ w.heap.size ≤ k_) ∧ k_ ≠ gb286)) (by (with_reducible repeat first | apply zVa | apply zVb | apply zVc); exact Kd.V_mono HL296_2.out (fun _ hk => ⟨⟨hk.1, hk.2.2⟩, hk.2.1⟩)) hg hat); have n4_ := qH (hb); have n5_ := qH (ho); clear HO_0; clear HO_287002; clear BK286; clear HL296_2; clear HB; clear HO_7; have HO_0 := n0_; have HO_287002 := n1_; have BK286 := n2_; have HL296_2 := n3_; have HB := n4_; have HO300 := n5_; clear n0_ n1_ n2_ n3_ n4_ n5_; clear ho hb hg hat; have p301 : 0 ≤ (x9_3 : Int) := of_decide_eq_true (by first | (with_reducible assumption) | assumption); have q301 : x9_3 < (l0.length : Int) := of_decide_eq_true (by first | (with_reducible assumption) | assumption); obtain ⟨ad301, A301_2, c301_2, e301, hx301_0, hx301_1, hx301_2, hl301_2, hi301_2⟩ := at_T40 (Kd.V_reads' HO_0.out).2.2 x9_3 p301 q301; obtain rfl : ad296 = ad301 := (by injection e301); obtain ⟨ce301, hce301, hMe301, hcc301⟩ := Kd.V_get HO_0.out z40 x9_3 p301 (by first | exact q301 | exact of_decide_eq_true (by first | (with_reducible assumption) | assumption) | (have e_ := (Kd.V_reads' HO_0.out).1; omega)); obtain ⟨ua301_2, uc301_2, rfl, ul301_2, ge301_2⟩ := k40_openF hMe301; have hv301_2 := hcc301 2 _ rfl; rw [add_field _ _ 2 (by omega)] at hv301_2; replace hv301_2 := Option.some.inj (hv301_2.symm.trans hx301_2); injection hv301_2 with hva_ hvn_ hvc_; rw [hva_] at ge301_2; rw [hvc_] at ul301_2; have HL301_2 := qH (show Kd.V k24 24 _ w.heap.size _ _ ((rd_T40 l0 x9_3).f1) from Kd.V_mk ul301_2 ge301_2); clear hva_ hvn_ hvc_ ge301_2 ul301_2; clear hcc301 hce301; have HR301_2 := qH hi301_2; have HC301_2 := qH hl301_2; clear hi301_2 hl301_2; replace p301 := eq_true p301; replace q301 := eq_true q301) | ((with_reducible refine gate_builtin (b := .append) (xs := #[.tmp 67, .tmp 72]) rfl ?_); at_builtin; refine Kd.N_append k40 (w0 := w) w.heap.size rfl (.tmp 67) (.tmp 72) 22 40 (.agg #[(.string ⟨#[]⟩), (.int .i64 0), (.slice none 0 0)]) 48 rfl Try.underlying22 info40 rfl (by decide) (by omega) v299 y298 (⟨(⟨(rd_T40 l0 x9_3).f0.f0, (rd_T40 l0 x9_3).f0.f1⟩ : S24), (rd_T40 l0 x9_3).f1⟩ : S40) [.string ((rd_T40 l0 x9_3).f0.f0), .int .i64 ((rd_T40 l0 x9_3).f0.f1), .slice A301_2 ((rd_T40 l0 x9_3).f1).length c301_2] (fun k_ => ((P0_ k_ ∨ P1_2_ k_) ∨ w.heap.size ≤ k_) ∧ k_ ≠ gb286) (fun k_ => ((fun k_ => ((P0_ k_ ∨ P1_2_ k_) ∨ w.heap.size ≤ k_) ∧ k_ ≠ gb286)) k_ ∧ some k_ ≠ (v299 : Value).ownBlock) rfl rfl ?aP (fun _ hk => hk) ?aF ?aO ?aB ?aS ?aL ?_; (case aP => exact (k40_mkF _ _ (⟨(⟨(rd_T40 l0 x9_3).f0.f0, (rd_T40 l0 x9_3).f0.f1⟩ : S24), (rd_T40 l0 x9_3).f1⟩ : S40) (Kd.V_reads' (Kd.V_mono (ok' := (fun k_ => ((fun k_ => ((P0_ k_ ∨ P1_2_ k_) ∨ w.heap.size ≤ k_) ∧ k_ ≠ gb286)) k_ ∧ some k_ ≠ (v299 : Value).ownBlock)) (HL301_2.out) (fun k_ hk => ⟨⟨hk.1.1, hk.1.2⟩, hk.2⟩))).2.1 (Kd.V_F (Kd.V_mono (ok' := (fun k_ => ((fun k_ => ((P0_ k_ ∨ P1_2_ k_) ∨ w.heap.size ≤ k_) ∧ k_ ≠ gb286)) k_ ∧ some k_ ≠ (v299 : Value).ownBlock)) (HL301_2.out) (fun k_ hk => ⟨⟨hk.1.1, hk.1.2⟩, hk.2⟩))))); (case aB => exact (by repeat (first | (with_reducible first | exact HB.out | apply qL | apply qJ | apply qK | refine qI ?_ GE286.out) | exact HB.out))); (case aF => exact (fun k_ hk => ⟨(.inr (Nat.le_trans (below_size (by repeat (first | (with_reducible first | exact HB.out | apply qL | apply qJ | apply qK | refine qI ?_ GE286.out) | exact HB.out))) hk)), Kd.freshB (g := gb286) (by (with_reducible repeat first | apply qA | apply qC | apply qB); exact BK286.out) k_ hk⟩)); (case aO => exact (by (with_reducible repeat first | apply zNa | apply zNb | apply zNc); exact HO300.out)); (case aS => exact (below_size (by repeat (first | (with_reducible first | exact HB.out | apply qL | apply qJ | apply qK | refine qI ?_ GE286.out) | exact HB.out)))); (case aL => have := LMc42.out; omega); intro v303 w47 ho hb hg hat; rw [← Ny302.out] at ho; have n0_ := qH (Kd.V_afterv (ok := (fun k_ => ((P0_ k_ ∨ P1_2_ k_) ∨ w.heap.size ≤ k_) ∧ k_ ≠ gb286)) (by (with_reducible repeat first | apply zVa | apply zVb | apply zVc); exact HO_0.out) hg hat); have n1_ := qH (Kd.V_afterv (ok := (fun k_ => ((P0_ k_ ∨ P1_2_ k_) ∨ w.heap.size ≤ k_) ∧ k_ ≠ gb286)) (by (with_reducible repeat first | apply zVa | apply zVb | apply zVc); exact HO_287002.out) hg hat); have n2_ := qH (blk_grown (g := gb286) (by (with_reducible repeat first | apply qA | apply qC | apply qB); exact BK286.out) hg (Kd.N_away HO300.out (fun _ hk => hk.2))); have n3_ := qH (Kd.V_afterv (ok := (fun k_ => ((P0_ k_ ∨ P1_2_ k_) ∨ w.heap.size ≤ k_) ∧ k_ ≠ gb286)) (by (with_reducible repeat first | apply zVa | apply zVb | apply zVc); exact HL296_2.out) hg hat); have n4_ := qH (Kd.V_afterv (ok := (fun k_ => ((P0_ k_ ∨ P1_2_ k_) ∨ w.heap.size ≤ k_) ∧ k_ ≠ gb286)) (by (with_reducible repeat first | apply zVa | apply zVb | apply zVc); exact HL301_2.out) hg hat); have n5_ := qH (hb); have n6_ := qH (ho); clear HO_0; clear HO_287002; clear BK286; clear HL296_2; clear HL301_2; clear HB; clear HO300; have HO_0 := n0_; have HO_287002 := n1_; have BK286 := n2_; have HL296_2 := n3_; have HL301_2 := n4_; have HB := n5_; have HO304 := n6_; clear n0_ n1_ n2_ n3_ n4_ n5_ n6_; clear ho hb hg hat))
                  go_roundg k3
                  case measure => have := HJ10.out; have := HK2.out; have := HK3.out; omega
                  case rel => exact ⟨(y302), (true), (wrap64 (x9_3 + 1)), (by first | rfl | (simp; done) | (simp; exact qEmp _) | (simp [*]; done)), (by first | rfl | (simp; done) | (simp; exact qEmp _) | (simp [*]; done)), H', ⟨by have := HJ10.out; have := HK2.out; have := HK3.out; omega⟩, ⟨by (with_reducible repeat first | apply zVa | apply zVb | apply zVc); exact Kd.V_mono HO_0.out (fun _ hk => ⟨hk.1.1, ⟨hk.2, hk.1.2⟩⟩)⟩, ⟨by (with_reducible repeat first | apply zNa | apply zNb | apply zNc); exact HO304.out⟩, ⟨by (with_reducible repeat first | apply zVa | apply zVb | apply zVc); exact Kd.V_mono HO_287002.out (fun _ hk => ⟨hk.1.1, ⟨hk.2, hk.1.2⟩⟩)⟩, ⟨by (with_reducible repeat first | apply qA | apply qC | apply qB); exact BK286.out⟩, ⟨by repeat (first | (with_reducible first | exact HB.out | apply qL | apply qJ | apply qK | refine qI ?_ GE286.out) | exact HB.out)⟩⟩
                 ·rw [if_neg c42] at H
                  exact absurd H (by simp)
                ·rw [if_neg c41] at H
                 exact absurd H (by simp)
               ·replace c40 := Bool.eq_false_iff.mpr c40
                subst c40
                have H1 : (if x7_3.length < 2932031007402 then (codicilref19_Add.l1 k3 l0 (x7_3 ++ [(⟨(⟨(rd_T40 l0 x9_3).f0.f0, (rd_T40 l0 x9_3).f0.f1⟩ : S24), (rd_T40 l0 x9_3).f1⟩ : S40)]) false (wrap64 (x9_3 + 1)) a1_0 a1_1 l1_2) else (none)) = some (r1, r2) := by rw [if_neg (show ¬ (false = true) by decide)] at H; exact H
                clear H
                have H := H1
                clear H1
                by_cases c48 : x7_3.length < 2932031007402
                ·rw [if_pos c48] at H
                 have LMc48 := qH c48
                 clear c48
                 obtain ⟨y306, hy306⟩ : ∃ y_ : List (S40), y_ = (x7_3 ++ [(⟨(⟨(rd_T40 l0 x9_3).f0.f0, (rd_T40 l0 x9_3).f0.f1⟩ : S24), (rd_T40 l0 x9_3).f1⟩ : S40)]) := ⟨_, rfl⟩
                 replace H : (codicilref19_Add.l1 k3 l0 y306 false (wrap64 (x9_3 + 1)) a1_0 a1_1 l1_2) = some (r1, r2) := by first | (rw [hy306]; with_reducible exact H) | (have H2_ := (Option.bind_some _ _).symm.trans H; rw [hy306]; with_reducible exact H2_) | (have H2_ := (Option.bind_some _ _).symm.trans H; with_reducible exact H2_) | with_reducible exact H | (rw [hy306]; exact H) | exact H
                 have Ny306 := qH hy306
                 clear hy306
                 have H' := qH H
                 clear H
                 try go_wp2
                 have n0_ := qH (Kd.V_drew HO_0.out)
                 have n1_ := qH (Kd.N_drew HO_7.out)
                 have n2_ := qH (Kd.V_drew HO_287002.out)
                 have n3_ := qH (qC BK286.out)
                 have n4_ := qH (qK HB.out)
                 clear HO_0
                 clear HO_7
                 clear HO_287002
                 clear BK286
                 clear HB
                 have HO_0 := n0_
                 have HO_7 := n1_
                 have HO_287002 := n2_
                 have BK286 := n3_
                 have HB := n4_
                 clear n0_ n1_ n2_ n3_ n4_
                 have p296 : 0 ≤ (x9_3 : Int) := of_decide_eq_true (by first | (with_reducible assumption) | assumption)
                 have q296 : x9_3 < (l0.length : Int) := of_decide_eq_true (by first | (with_reducible assumption) | assumption)
                 obtain ⟨ad296, A296_2, c296_2, e296, hx296_0, hx296_1, hx296_2, hl296_2, hi296_2⟩ := at_T40 (Kd.V_reads' HO_0.out).2.2 x9_3 p296 q296
                 cases e296
                 obtain ⟨ce296, hce296, hMe296, hcc296⟩ := Kd.V_get HO_0.out z40 x9_3 p296 (by first | exact q296 | exact of_decide_eq_true (by first | (with_reducible assumption) | assumption) | (have e_ := (Kd.V_reads' HO_0.out).1; omega))
                 obtain ⟨ua296_2, uc296_2, rfl, ul296_2, ge296_2⟩ := k40_openF hMe296
                 have hv296_2 := hcc296 2 _ rfl
                 rw [add_field _ _ 2 (by omega)] at hv296_2
                 replace hv296_2 := Option.some.inj (hv296_2.symm.trans hx296_2)
                 injection hv296_2 with hva_ hvn_ hvc_
                 rw [hva_] at ge296_2
                 rw [hvc_] at ul296_2
                 have HL296_2 := qH (show Kd.V k24 24 _ w.heap.size _ _ ((rd_T40 l0 x9_3).f1) from Kd.V_mk ul296_2 ge296_2)
                 clear hva_ hvn_ hvc_ ge296_2 ul296_2
                 clear hcc296 hce296
                 have HR296_2 := qH hi296_2
                 have HC296_2 := qH hl296_2
                 clear hi296_2 hl296_2
                 replace p296 := eq_true p296
                 replace q296 := eq_true q296
                 refine start_ (n := 12) (S := fun w' => w'.cell? ⟨gb286, 0, none⟩ = some (.string a1_0) ∧ w'.cell? ⟨gb286, 1, none⟩ = some (.int .i64 a1_1) ∧ w'.cell? ⟨gb286, 2, none⟩ = some (.slice A1_2 l1_2.length c1_2) ∧ w'.cell? (ad296.add ((x9_3).toNat * 3)) = some (.string ((rd_T40 l0 x9_3).f0.f0)) ∧ w'.cell? ⟨(ad296.add ((x9_3).toNat * 3)).block, (ad296.add ((x9_3).toNat * 3)).off + 1, none⟩ = some (.int .i64 ((rd_T40 l0 x9_3).f0.f1)) ∧ w'.cell? ⟨(ad296.add ((x9_3).toNat * 3)).block, (ad296.add ((x9_3).toNat * 3)).off + 2, none⟩ = some (.slice A296_2 ((rd_T40 l0 x9_3).f1).length c296_2)) (ds := []) (lb 12 0) (by kernel_rfl) rfl rfl ⟨(qE BK286.out 0).trans rfl, (qE BK286.out 1).trans rfl, (qE BK286.out 2).trans rfl, hx296_0, hx296_1, hx296_2⟩ (fun hHeld => ?_); refine with_tabW codicilref19_Add.tab19 codicilref19_Add.bits19 (fun HT_ HW_ => ?_)
                 generalize wr.drew = w49 at HO_0 HO_7 HO_287002 BK286 HB HL296_2 HR296_2 hx296_0 hx296_1 hx296_2 hHeld ⊢
                 refine pure_ (i := 0) (N := some 51) (v := ?_) (a' := ?_) (lb 12 1) rfl rfl (any_of HT_.out (by kernel_rfl)) (fun _ _ _ h => h) (Or.inl ⟨by rfl, ?_⟩) ?_ ?_
                 rotate_left
                 ·intro w'
                  go_simp
                  with_reducible rfl
                 rotate_left
                 ·simp only [Act.put, zS, zT, zU, zV, zW]
                  rfl
                 refine pure_ (i := 1) (N := some 52) (v := ?_) (a' := ?_) (lb 12 3) rfl rfl (any_of HT_.out (by kernel_rfl)) (fun _ _ _ h => h) (Or.inl ⟨by rfl, ?_⟩) ?_ ?_
                 rotate_left
                 ·intro w'
                  go_simp
                  with_reducible rfl
                 rotate_left
                 ·simp only [Act.put, zS, zT, zU, zV, zW]
                  rfl
                 refine pure_ (i := 2) (N := some 53) (v := ?_) (a' := ?_) (lb 12 7) rfl rfl (any_of HT_.out (by kernel_rfl)) (fun _ _ _ h => h) (Or.inl ⟨by rfl, ?_⟩) ?_ ?_
                 rotate_left
                 ·intro w'
                  go_simp
                  with_reducible rfl
                 rotate_left
                 ·simp only [Act.put, zS, zT, zU, zV, zW]
                  rfl
                 refine pure_ (i := 3) (N := some 54) (v := ?_) (a' := ?_) (lb 12 15) rfl rfl (any_of HT_.out (by kernel_rfl)) (fun _ _ _ h => h) (Or.inl ⟨by rfl, ?_⟩) ?_ ?_
                 rotate_left
                 ·intro w'
                  go_simp
                  with_reducible rfl
                 rotate_left
                 ·simp only [Act.put, zS, zT, zU, zV, zW]
                  rfl
                 refine pure_ (i := 5) (N := some 56) (v := ?_) (a' := ?_) (lb 12 47) rfl rfl (any_of HT_.out (by kernel_rfl)) (fun _ _ _ h => h) (Or.inl ⟨by rfl, ?_⟩) ?_ ?_
                 rotate_left
                 ·intro w'
                  go_simp
                  with_reducible rfl
                 rotate_left
                 ·simp only [Act.put, zS, zT, zU, zV, zW]
                  rfl
                 refine pure_ (i := 6) (N := some 57) (v := ?_) (a' := ?_) (lb 12 111) rfl rfl (any_of HT_.out (by kernel_rfl)) (fun _ _ _ h => h) (Or.inl ⟨by rfl, ?_⟩) ?_ ?_
                 rotate_left
                 ·intro w'
                  go_simp
                  with_reducible rfl
                 rotate_left
                 ·simp only [Act.put, zS, zT, zU, zV, zW]
                  rfl
                 refine pure_ (i := 7) (N := some 58) (v := ?_) (a' := ?_) (lb 12 239) rfl rfl (any_of HT_.out (by kernel_rfl)) (fun _ _ _ h => h) (Or.inl ⟨by rfl, ?_⟩) ?_ ?_
                 rotate_left
                 ·intro w'
                  go_simp
                  with_reducible rfl
                 rotate_left
                 ·simp only [Act.put, zS, zT, zU, zV, zW]
                  rfl
                 refine pure_ (i := 8) (N := some 59) (v := ?_) (a' := ?_) (lb 12 495) rfl rfl (any_of HT_.out (by kernel_rfl)) (fun _ _ _ h => h) (Or.inl ⟨by rfl, ?_⟩) ?_ ?_
                 rotate_left
                 ·intro w'
                  go_simp
                  with_reducible rfl
                 rotate_left
                 ·simp only [Act.put, zS, zT, zU, zV, zW]
                  rfl
                 refine take_ (i := 4) (N := some 55) (v := ?_) (a' := ?_) (lb 12 511) rfl rfl (take_ofW HT_.out HW_.out (by kernel_rfl)) (fun _ _ _ h => h) (Or.inl ⟨by rfl, ?_⟩) hHeld ?_ ?_
                 rotate_left
                 ·rintro w' ⟨s0, s1, s2, s3, s4, s5⟩
                  go_simp
                  with_reducible rfl
                 rotate_left
                 ·simp only [Act.put, zS, zT, zU, zV, zW]
                  rfl
                 refine take_ (i := 9) (N := some 60) (v := ?_) (a' := ?_) (lb 12 1023) rfl rfl (take_ofW HT_.out HW_.out (by kernel_rfl)) (fun _ _ _ h => h) (Or.inl ⟨by rfl, ?_⟩) hHeld ?_ ?_
                 rotate_left
                 ·rintro w' ⟨s0, s1, s2, s3, s4, s5⟩
                  go_simp
                  with_reducible rfl
                 rotate_left
                 ·simp only [Act.put, zS, zT, zU, zV, zW]
                  rfl
                 refine one_ (i := 10) (N := some 61) (lb 12 2047) rfl rfl (one_of HT_.out (by kernel_rfl)) (by decide) (fun K hK => ?_)
                 refine goes_ Try.func12 (by kernel_rfl) rfl #[.agg #[.string a1_0, .int .i64 a1_1], .agg #[.string ((rd_T40 l0 x9_3).f0.f0), .int .i64 ((rd_T40 l0 x9_3).f0.f1)]] (by rfl) rfl rfl (by (try simp only [zX, zY, zZ]); first | done | rfl | (simp only [zD, zE]; rfl)) ?_
                 with_reducible refine (codicilref19_Less.calls a1_0 a1_1 ((rd_T40 l0 x9_3).f0.f0) ((rd_T40 l0 x9_3).f0.f1) false _ A39.out).mono ?_
                 rintro e w50 ⟨rfl, hb⟩
                 have HS3_ := (hb.cell (qO _ _ (hHeld.2.2.2.1))).trans (hHeld.2.2.2.1)
                 have HS4_ := (hb.cell (qO _ _ (hHeld.2.2.2.2.1))).trans (hHeld.2.2.2.2.1)
                 have HS5_ := (hb.cell (qO _ _ (hHeld.2.2.2.2.2))).trans (hHeld.2.2.2.2.2)
                 refine ⟨_, rfl, ?_⟩
                 have n0_ := qH (Kd.V_below (by (with_reducible repeat first | apply zVa | apply zVb | apply zVc); exact HO_0.out) hb)
                 have n1_ := qH (Kd.N_below (by (with_reducible repeat first | apply zNa | apply zNb | apply zNc); exact HO_7.out) hb)
                 have n2_ := qH (Kd.V_below (by (with_reducible repeat first | apply zVa | apply zVb | apply zVc); exact HO_287002.out) hb)
                 have n3_ := qH (Kd.V_below (by (with_reducible repeat first | apply zVa | apply zVb | apply zVc); exact HL296_2.out) hb)
                 have n4_ := qH (qD (g := gb286) (by (with_reducible repeat first | apply qA | apply qC | apply qB); exact BK286.out) hb)
                 have n5_ := qH (Kd.C_below (by repeat (first | (with_reducible exact HR296_2.out) | (with_reducible refine Kd.C_alloc ?_ _) | (with_reducible refine Kd.C_drewN ?_ _) | (with_reducible refine Kd.C_drew ?_) | exact HR296_2.out)) hb)
                 have n6_ := qH (below_step (by repeat (first | (with_reducible first | exact HB.out | apply qL | apply qJ | apply qK | refine qI ?_ GE286.out) | exact HB.out)) hb)
                 clear HO_0
                 clear HO_7
                 clear HO_287002
                 clear HL296_2
                 clear BK286
                 clear HR296_2
                 clear HB
                 have HO_0 := n0_
                 have HO_7 := n1_
                 have HO_287002 := n2_
                 have HL296_2 := n3_
                 have BK286 := n4_
                 have HR296_2 := n5_
                 have HB := n6_
                 clear n0_ n1_ n2_ n3_ n4_ n5_ n6_
                 (try clear hb)
                 (try clear hb2)
                 (try clear hk)
                 (try clear hi)
                 refine hK.out _ _ ⟨(qE BK286.out 0).trans rfl, (qE BK286.out 1).trans rfl, (qE BK286.out 2).trans rfl, HS3_, HS4_, HS5_⟩ (fun hHeld => ?_)
                 clear hK K
                 refine norm_ (a' := ?_) ?_ ?_
                 rotate_left
                 ·show Act.put _ (some 61) _ = _
                  simp only [Act.put, zS, zT, zU, zV, zW]
                  rfl
                 refine pure_ (i := 11) (N := some 62) (v := ?_) (a' := ?_) (lb 12 4095) rfl rfl (any_of HT_.out (by kernel_rfl)) (fun _ _ _ h => h) (Or.inl ⟨by rfl, ?_⟩) ?_ ?_
                 rotate_left
                 ·intro w'
                  go_simp
                  with_reducible rfl
                 rotate_left
                 ·simp only [Act.put, zS, zT, zU, zV, zW]
                  rfl
                 refine done_ (done_of HT_.out (by kernel_rfl)) ?_
                 have p305 : 0 ≤ (x9_3 : Int) := of_decide_eq_true (by first | (with_reducible assumption) | assumption)
                 have q305 : x9_3 < (l0.length : Int) := of_decide_eq_true (by first | (with_reducible assumption) | assumption)
                 obtain ⟨ad305, A305_2, c305_2, e305, hx305_0, hx305_1, hx305_2, hl305_2, hi305_2⟩ := at_T40 (Kd.V_reads' HO_0.out).2.2 x9_3 p305 q305
                 obtain rfl : ad296 = ad305 := (by injection e305)
                 obtain ⟨ce305, hce305, hMe305, hcc305⟩ := Kd.V_get HO_0.out z40 x9_3 p305 (by first | exact q305 | exact of_decide_eq_true (by first | (with_reducible assumption) | assumption) | (have e_ := (Kd.V_reads' HO_0.out).1; omega))
                 obtain ⟨ua305_2, uc305_2, rfl, ul305_2, ge305_2⟩ := k40_openF hMe305
                 have hv305_2 := hcc305 2 _ rfl
                 rw [add_field _ _ 2 (by omega)] at hv305_2
                 replace hv305_2 := Option.some.inj (hv305_2.symm.trans hx305_2)
                 injection hv305_2 with hva_ hvn_ hvc_
                 rw [hva_] at ge305_2
                 rw [hvc_] at ul305_2
                 have HL305_2 := qH (show Kd.V k24 24 _ w.heap.size _ _ ((rd_T40 l0 x9_3).f1) from Kd.V_mk ul305_2 ge305_2)
                 clear hva_ hvn_ hvc_ ge305_2 ul305_2
                 clear hcc305 hce305
                 have HR305_2 := qH hi305_2
                 have HC305_2 := qH hl305_2
                 clear hi305_2 hl305_2
                 have ea_ := Option.some.inj (HS5_.symm.trans hx305_2)
                 injection ea_ with ea_ en_ ec_
                 subst ea_
                 subst ec_
                 clear en_
                 replace p305 := eq_true p305
                 replace q305 := eq_true q305
                 try go_wp2_with (first | ((with_reducible refine gate_builtin (b := .append) (xs := #[.tmp 67, .tmp 72]) rfl ?_); at_builtin; refine Kd.N_append k40 (w0 := w) w.heap.size rfl (.tmp 67) (.tmp 72) 22 40 (.agg #[(.string ⟨#[]⟩), (.int .i64 0), (.slice none 0 0)]) 48 rfl Try.underlying22 info40 rfl (by decide) (by omega) u7 x7_3 (⟨(⟨(rd_T40 l0 x9_3).f0.f0, (rd_T40 l0 x9_3).f0.f1⟩ : S24), (rd_T40 l0 x9_3).f1⟩ : S40) [.string ((rd_T40 l0 x9_3).f0.f0), .int .i64 ((rd_T40 l0 x9_3).f0.f1), .slice A296_2 ((rd_T40 l0 x9_3).f1).length c296_2] (fun k_ => ((P0_ k_ ∨ P1_2_ k_) ∨ w.heap.size ≤ k_) ∧ k_ ≠ gb286) (fun k_ => ((fun k_ => ((P0_ k_ ∨ P1_2_ k_) ∨ w.heap.size ≤ k_) ∧ k_ ≠ gb286)) k_ ∧ some k_ ≠ (u7 : Value).ownBlock) rfl rfl ?aP (fun _ hk => hk) ?aF ?aO ?aB ?aS ?aL ?_; (case aP => exact (k40_mkF _ _ (⟨(⟨(rd_T40 l0 x9_3).f0.f0, (rd_T40 l0 x9_3).f0.f1⟩ : S24), (rd_T40 l0 x9_3).f1⟩ : S40) (Kd.V_reads' (Kd.V_mono (ok' := (fun k_ => ((fun k_ => ((P0_ k_ ∨ P1_2_ k_) ∨ w.heap.size ≤ k_) ∧ k_ ≠ gb286)) k_ ∧ some k_ ≠ (u7 : Value).ownBlock)) (HL305_2.out) (fun k_ hk => ⟨⟨hk.1, hk.2.2⟩, hk.2.1⟩))).2.1 (Kd.V_F (Kd.V_mono (ok' := (fun k_ => ((fun k_ => ((P0_ k_ ∨ P1_2_ k_) ∨ w.heap.size ≤ k_) ∧ k_ ≠ gb286)) k_ ∧ some k_ ≠ (u7 : Value).ownBlock)) (HL305_2.out) (fun k_ hk => ⟨⟨hk.1, hk.2.2⟩, hk.2.1⟩))))); (case aB => exact (by repeat (first | (with_reducible first | exact HB.out | apply qL | apply qJ | apply qK | refine qI ?_ GE286.out) | exact HB.out))); (case aF => exact (fun k_ hk => ⟨(.inr (Nat.le_trans (below_size (by repeat (first | (with_reducible first | exact HB.out | apply qL | apply qJ | apply qK | refine qI ?_ GE286.out) | exact HB.out))) hk)), Kd.freshB (g := gb286) (by (with_reducible repeat first | apply qA | apply qC | apply qB); exact BK286.out) k_ hk⟩)); (case aO => exact (by (with_reducible repeat first | apply zNa | apply zNb | apply zNc); exact HO_7.out)); (case aS => exact (below_size (by repeat (first | (with_reducible first | exact HB.out | apply qL | apply qJ | apply qK | refine qI ?_ GE286.out) | exact HB.out)))); (case aL => have := LMc48.out; omega); intro v307 w51 ho hb hg hat; rw [← Ny306.out] at ho; have n0_ := qH (Kd.V_afterv (ok := (fun k_ => ((P0_ k_ ∨ P1_2_ k_) ∨ w.heap.size ≤ k_) ∧ k_ ≠ gb286)) (by (with_reducible repeat first | apply zVa | apply zVb | apply zVc); exact Kd.V_mono HO_0.out (fun _ hk => ⟨⟨hk.1, hk.2.2⟩, hk.2.1⟩)) hg hat); have n1_ := qH (Kd.V_afterv (ok := (fun k_ => ((P0_ k_ ∨ P1_2_ k_) ∨ w.heap.size ≤ k_) ∧ k_ ≠ gb286)) (by (with_reducible repeat first | apply zVa | apply zVb | apply zVc); exact Kd.V_mono HO_287002.out (fun _ hk => ⟨⟨hk.1, hk.2.2⟩, hk.2.1⟩)) hg hat); have n2_ := qH (blk_grown (g := gb286) (by (with_reducible repeat first | apply qA | apply qC | apply qB); exact BK286.out) hg (Kd.N_away HO_7.out (fun _ hk => hk.2))); have n3_ := qH (Kd.V_afterv (ok := (fun k_ => ((P0_ k_ ∨ P1_2_ k_) ∨ w.heap.size ≤ k_) ∧ k_ ≠ gb286)) (by (with_reducible repeat first | apply zVa | apply zVb | apply zVc); exact Kd.V_mono HL296_2.out (fun _ hk => ⟨⟨hk.1, hk.2.2⟩, hk.2.1⟩)) hg hat); have n4_ := qH (Kd.V_afterv (ok := (fun k_ => ((P0_ k_ ∨ P1_2_ k_) ∨ w.heap.size ≤ k_) ∧ k_ ≠ gb286)) (by (with_reducible repeat first | apply zVa | apply zVb | apply zVc); exact Kd.V_mono HL305_2.out (fun _ hk => ⟨⟨hk.1, hk.2.2⟩, hk.2.1⟩)) hg hat); have n5_ := qH (hb); have n6_ := qH (ho); clear HO_0; clear HO_287002; clear BK286; clear HL296_2; clear HL305_2; clear HB; clear HO_7; have HO_0 := n0_; have HO_287002 := n1_; have BK286 := n2_; have HL296_2 := n3_; have HL305_2 := n4_; have HB := n5_; have HO308 := n6_; clear n0_ n1_ n2_ n3_ n4_ n5_ n6_; clear ho hb hg hat))
                 go_roundg k3
                 case measure => have := HJ10.out; have := HK2.out; have := HK3.out; omega
                 case rel => exact ⟨(y306), (false), (wrap64 (x9_3 + 1)), (by first | rfl | (simp; done) | (simp; exact qEmp _) | (simp [*]; done)), (by first | rfl | (simp; done) | (simp; exact qEmp _) | (simp [*]; done)), H', ⟨by have := HJ10.out; have := HK2.out; have := HK3.out; omega⟩, ⟨by (with_reducible repeat first | apply zVa | apply zVb | apply zVc); exact Kd.V_mono HO_0.out (fun _ hk => ⟨hk.1.1, ⟨hk.2, hk.1.2⟩⟩)⟩, ⟨by (with_reducible repeat first | apply zNa | apply zNb | apply zNc); exact HO308.out⟩, ⟨by (with_reducible repeat first | apply zVa | apply zVb | apply zVc); exact Kd.V_mono HO_287002.out (fun _ hk => ⟨hk.1.1, ⟨hk.2, hk.1.2⟩⟩)⟩, ⟨by (with_reducible repeat first | apply qA | apply qC | apply qB); exact BK286.out⟩, ⟨by repeat (first | (with_reducible first | exact HB.out | apply qL | apply qJ | apply qK | refine qI ?_ GE286.out) | exact HB.out)⟩⟩
                ·rw [if_neg c48] at H
                 exact absurd H (by simp)
              ·rw [if_neg c38] at H
               exact absurd H (by simp)
            ·rw [if_neg c32] at H
             have c32b0 : decide (x9_3 < (l0.length : Int)) = false := decide_eq_false c32
             clear c32
             by_cases c52 : x8_3 = true
             ·subst c52
              have H1 : (some (x7_3, 0)) = some (r1, r2) := by rw [if_pos rfl] at H; exact H
              clear H
              have H := H1
              clear H1
              simp only [Option.some.injEq, Prod.mk.injEq] at H
              obtain ⟨rfl, rfl⟩ := H
              go_wp2
              go_ret2
              exact ⟨_, by first | rfl | (simp [errW_none, errW_some] <;> rfl) | (simp [*, errW_none, errW_some] <;> rfl), by (with_reducible repeat first | apply zNa | apply zNb | apply zNc); exact Kd.N_mono HO_7.out (fun _ hk => hk.1), by repeat (first | (with_reducible first | exact HB.out | apply qL | apply qJ | apply qK | refine qI ?_ GE286.out) | exact HB.out)⟩
             ·replace c52 := Bool.eq_false_iff.mpr c52
              subst c52
              have H1 : (if x7_3.length < 2932031007402 then (some ((x7_3 ++ [(⟨(⟨a1_0, a1_1⟩ : S24), l1_2⟩ : S40)]), 0)) else (none)) = some (r1, r2) := by rw [if_neg (show ¬ (false = true) by decide)] at H; exact H
              clear H
              have H := H1
              clear H1
              by_cases c53 : x7_3.length < 2932031007402
              ·rw [if_pos c53] at H
               have LMc53 := qH c53
               clear c53
               obtain ⟨y309, hy309⟩ : ∃ y_ : List (S40), y_ = (x7_3 ++ [(⟨(⟨a1_0, a1_1⟩ : S24), l1_2⟩ : S40)]) := ⟨_, rfl⟩
               replace H : (some (y309, 0)) = some (r1, r2) := by first | (rw [hy309]; with_reducible exact H) | (have H2_ := (Option.bind_some _ _).symm.trans H; rw [hy309]; with_reducible exact H2_) | (have H2_ := (Option.bind_some _ _).symm.trans H; with_reducible exact H2_) | with_reducible exact H | (rw [hy309]; exact H) | exact H
               have Ny309 := qH hy309
               clear hy309
               simp only [Option.some.injEq, Prod.mk.injEq] at H
               obtain ⟨rfl, rfl⟩ := H
               have hcz54_0 : wr.cell? ⟨gb286, 0, none⟩ = some (.string a1_0) := (qE BK286.out 0).trans rfl
               have hcz54_1 : wr.cell? ⟨gb286, 1, none⟩ = some (.int .i64 a1_1) := (qE BK286.out 1).trans rfl
               have hcz54_2 : wr.cell? ⟨gb286, 2, none⟩ = some (.slice A1_2 l1_2.length c1_2) := (qE BK286.out 2).trans rfl
               have hfz54_0 := qF BK286.out 0
               have hfz54_1 := qF BK286.out 1
               have hfz54_2 := qF BK286.out 2
               go_wp2_with (first | ((with_reducible refine gate_builtin (b := .append) (xs := #[.tmp 76, .tmp 78]) rfl ?_); at_builtin; refine Kd.N_append k40 (w0 := w) w.heap.size rfl (.tmp 76) (.tmp 78) 22 40 (.agg #[(.string ⟨#[]⟩), (.int .i64 0), (.slice none 0 0)]) 48 rfl Try.underlying22 info40 rfl (by decide) (by omega) u7 x7_3 (⟨(⟨a1_0, a1_1⟩ : S24), l1_2⟩ : S40) [.string a1_0, .int .i64 a1_1, .slice A1_2 l1_2.length c1_2] (fun k_ => ((P0_ k_ ∨ P1_2_ k_) ∨ w.heap.size ≤ k_) ∧ k_ ≠ gb286) (fun k_ => ((fun k_ => ((P0_ k_ ∨ P1_2_ k_) ∨ w.heap.size ≤ k_) ∧ k_ ≠ gb286)) k_ ∧ some k_ ≠ (u7 : Value).ownBlock) rfl rfl ?aP (fun _ hk => hk) ?aF ?aO ?aB ?aS ?aL ?_; (case aP => exact (k40_mkF _ _ (⟨(⟨a1_0, a1_1⟩ : S24), l1_2⟩ : S40) (Kd.V_reads' (Kd.V_mono (ok' := (fun k_ => ((fun k_ => ((P0_ k_ ∨ P1_2_ k_) ∨ w.heap.size ≤ k_) ∧ k_ ≠ gb286)) k_ ∧ some k_ ≠ (u7 : Value).ownBlock)) (HO_287002.out) (fun k_ hk => ⟨⟨hk.1, hk.2.2⟩, hk.2.1⟩))).2.1 (Kd.V_F (Kd.V_mono (ok' := (fun k_ => ((fun k_ => ((P0_ k_ ∨ P1_2_ k_) ∨ w.heap.size ≤ k_) ∧ k_ ≠ gb286)) k_ ∧ some k_ ≠ (u7 : Value).ownBlock)) (HO_287002.out) (fun k_ hk => ⟨⟨hk.1, hk.2.2⟩, hk.2.1⟩))))); (case aB => exact (by repeat (first | (with_reducible first | exact HB.out | apply qL | apply qJ | apply qK | refine qI ?_ GE286.out) | exact HB.out))); (case aF => exact (fun k_ hk => ⟨(.inr (Nat.le_trans (below_size (by repeat (first | (with_reducible first | exact HB.out | apply qL | apply qJ | apply qK | refine qI ?_ GE286.out) | exact HB.out))) hk)), Kd.freshB (g := gb286) (by (with_reducible repeat first | apply qA | apply qC | apply qB); exact BK286.out) k_ hk⟩)); (case aO => exact (by (with_reducible repeat first | apply zNa | apply zNb | apply zNc); exact HO_7.out)); (case aS => exact (below_size (by repeat (first | (with_reducible first | exact HB.out | apply qL | apply qJ | apply qK | refine qI ?_ GE286.out) | exact HB.out)))); (case aL => have := LMc53.out; omega); intro v310 w55 ho hb hg hat; rw [← Ny309.out] at ho; have n0_ := qH (Kd.V_afterv (ok := (fun k_ => ((P0_ k_ ∨ P1_2_ k_) ∨ w.heap.size ≤ k_) ∧ k_ ≠ gb286)) (by (with_reducible repeat first | apply zVa | apply zVb | apply zVc); exact Kd.V_mono HO_0.out (fun _ hk => ⟨⟨hk.1, hk.2.2⟩, hk.2.1⟩)) hg hat); have n1_ := qH (Kd.V_afterv (ok := (fun k_ => ((P0_ k_ ∨ P1_2_ k_) ∨ w.heap.size ≤ k_) ∧ k_ ≠ gb286)) (by (with_reducible repeat first | apply zVa | apply zVb | apply zVc); exact Kd.V_mono HO_287002.out (fun _ hk => ⟨⟨hk.1, hk.2.2⟩, hk.2.1⟩)) hg hat); have n2_ := qH (blk_grown (g := gb286) (by (with_reducible repeat first | apply qA | apply qC | apply qB); exact BK286.out) hg (Kd.N_away HO_7.out (fun _ hk => hk.2))); have n3_ := qH (hb); have n4_ := qH (ho); clear HO_0; clear HO_287002; clear BK286; clear HB; clear HO_7; have HO_0 := n0_; have HO_287002 := n1_; have BK286 := n2_; have HB := n3_; have HO311 := n4_; clear n0_ n1_ n2_ n3_ n4_; clear ho hb hg hat))
               go_ret2
               exact ⟨_, by first | rfl | (simp [errW_none, errW_some] <;> rfl) | (simp [*, errW_none, errW_some] <;> rfl), by (with_reducible repeat first | apply zNa | apply zNb | apply zNc); exact Kd.N_mono HO311.out (fun _ hk => hk.1), by repeat (first | (with_reducible first | exact HB.out | apply qL | apply qJ | apply qK | refine qI ?_ GE286.out) | exact HB.out)⟩
              ·rw [if_neg c53] at H
               exact absurd H (by simp)
 ·rw [if_neg c4] at H
  have c4b0 : (t287 == 0) = false := beq_eq_false_iff_ne.mpr c4
  have c4b1 : (t287 != 0) = true := bne_iff_ne.mpr c4
  simp only [Option.some.injEq, Prod.mk.injEq] at H
  obtain ⟨rfl, rfl⟩ := H
  go_enter Try.func20, Try.ntmps20
  go_wp2_with (first | ((with_reducible refine gate_dst (N := 3) rfl ?_); refine box_event ?hg (N := 3) ?hd (cs := #[.string a1_0, .int .i64 a1_1, .slice A1_2 l1_2.length c1_2]) (t := 40) ?hr ?_; (case hd => rfl); (case hg => rfl); (case hr => first | (go_simp; done) | (go_simp; rfl) | (go_simp; simp [IntKind.wrap_u32]; done)); intro gb286 hg w56 hbox hb; have n0_ := qH (Kd.V_below (Kd.V_elderB (by (with_reducible repeat first | apply zVa | apply zVb | apply zVc); exact HO0.out) gb286 (Nat.le_of_eq hg.symm)) hb); have n1_ := qH (Kd.V_below (Kd.V_elderB (by (with_reducible repeat first | apply zVa | apply zVb | apply zVc); exact HO1_2.out) gb286 (Nat.le_of_eq hg.symm)) hb); have n2_ := qH (below_step (by repeat (first | (with_reducible first | exact HB.out | apply qL | apply qJ | apply qK) | exact HB.out)) hb); have n3_ := qH (hbox); have n4_ := qH ((by rw [hg]; exact (below_size (by repeat (first | (with_reducible first | exact HB.out | apply qL | apply qJ | apply qK) | exact HB.out))) : w.heap.size ≤ gb286)); have n5_ := n4_; clear HO0; clear HO1_2; clear HB; have HO0 := n0_; have HO1_2 := n1_; have HB := n2_; have BK286 := n3_; have GW286 := n4_; have GE286 := n5_; clear n0_ n1_ n2_ n3_ n4_ n5_; clear hb hbox hg) | ((with_reducible refine gate_callee (f := 14) rfl ?_); refine goesL_ (some 11) rfl rfl Try.func14 (by kernel_rfl) rfl #[.slice A0 l0.length c0] rfl (by (try simp only [zX, zY, zZ]); first | done | rfl | (simp only [zD, zE]; rfl)) ?_; (with_reducible refine (codicilref19_May.calls k _ _ l0 t287 _ ?side1 ?side2 A3.out).mono ?_); (case side1 => repeat (first | exact (Kd.V_reads' HO0.out).2.2 | (with_reducible refine Kd.C_alloc ?_ _) | (with_reducible refine Kd.C_drewN ?_ _) | (with_reducible refine Kd.C_drew ?_))); (case side2 => exact (Kd.V_reads' HO0.out).2.1); rintro e w57 ⟨rfl, hb⟩; refine ⟨_, rfl, ?_⟩; have n0_ := qH (Kd.V_below (by (with_reducible repeat first | apply zVa | apply zVb | apply zVc); exact HO0.out) hb); have n1_ := qH (Kd.V_below (by (with_reducible repeat first | apply zVa | apply zVb | apply zVc); exact HO1_2.out) hb); have n2_ := qH (qD (g := gb286) (by (with_reducible repeat first | apply qA | apply qC | apply qB); exact BK286.out) hb); have n3_ := qH (below_step (by repeat (first | (with_reducible first | exact HB.out | apply qL | apply qJ | apply qK | refine qI ?_ GE286.out) | exact HB.out)) hb); clear HO0; clear HO1_2; clear BK286; clear HB; have HO0 := n0_; have HO1_2 := n1_; have BK286 := n2_; have HB := n3_; clear n0_ n1_ n2_ n3_; (try clear hb); (try clear hb2); (try clear hk); (try clear hi)))
  go_ret2
  exact ⟨_, by first | rfl | (simp [errW_none, errW_some] <;> rfl) | (simp [*, errW_none, errW_some] <;> rfl), by first | exact Kd.S_nil _ _ _ _ _ | exact Kd.N_nil _ _ _ _ _ | exact Kd.V_nil _ _ _ _ _ | exact Kd.Q_nil _ _ _ _ _ | exact Kd.R_nil _ _ _ _ _, by repeat (first | (with_reducible first | exact HB.out | apply qL | apply qJ | apply qK | refine qI ?_ GE286.out) | exact HB.out)⟩

end Go.Proofs.Ytddjhmelniphgaa.Print
