-- Written by wip/tools/xprint.py of this session's repo (the kit's print, run with external functions). Lean checks it.
import Derived.Test.YtddjhmelniphgaaPrint0
import Derived.Test.YtddjhmelniphgaaPrint2
import Derived.Test.YtddjhmelniphgaaPrint3
import Derived.Test.YtddjhmelniphgaaPrint4
import Derived.Test.YtddjhmelniphgaaHAlive19
import Derived.Test.YtddjhmelniphgaaHGAdd
import Derived.Test.YtddjhmelniphgaaHGDrop
import Derived.Test.YtddjhmelniphgaaHGMay
import Derived.Test.YtddjhmelniphgaaHGOrder
namespace Go.Proofs.Ytddjhmelniphgaa.Print
open Go.RowKit Go.Proofs.YtddjhmelniphgaaW.PrintWords Go.Proofs.YtddjhmelniphgaaW.PrintLast Go.Proofs.YtddjhmelniphgaaW.PrintMore
attribute [local go_sem] max2_int min2_int max_two min_two max_three min_three max_four min_four   -- for this text's walks alone
set_option linter.unusedVariables false
set_option linter.unusedSimpArgs false

/-! ### codicillaw19_GraphKeeps: function 5 -/
mutual
def codicillaw19_GraphKeeps.l0 : Nat → List (S52) → List (S40) → Int → Option (Bool)
 | 0, _, _, _ => none
 | k + 1, x0, x3, x4 => if x4 < (x0.length : Int) then (if 0 ≤ x4 then (if (((rd_T52 x0 x4).f1.f1).length : Int) > 40 then ((codicillaw19_alive.f k).bind fun t211 => (some t211)) else (if (Int.tmod ((rd_T52 x0 x4).f0) 3) < 2 then ((graph_Add.f x3 ((rd_T52 x0 x4).f1.f0.f0) ((rd_T52 x0 x4).f1.f0.f1) ((rd_T52 x0 x4).f1.f1)).bind fun bt213 => (if bt213.2 = 0 then ((graph_May.f bt213.1).bind fun t217 => (if t217 = 0 then (codicillaw19_GraphKeeps.l0 k x0 bt213.1 (wrap64 (x4 + 1))) else (some false))) else ((graph_May.f x3).bind fun t218 => (if t218 = 0 then (codicillaw19_GraphKeeps.l0 k x0 x3 (wrap64 (x4 + 1))) else (some false))))) else ((graph_Users.f k x3 ((rd_T52 x0 x4).f1.f0.f0) ((rd_T52 x0 x4).f1.f0.f1)).bind fun t219 => ((graph_Drop.f x3 ((rd_T52 x0 x4).f1.f0.f0) ((rd_T52 x0 x4).f1.f0.f1)).bind fun bt222 => (if (t219.length : Int) > 0 then (codicillaw19_GraphKeeps.j1 k x0 x3 x4 bt222.1 bt222.2 (bt222.2 != 3)) else (codicillaw19_GraphKeeps.j1 k x0 x3 x4 bt222.1 bt222.2 false)))))) else (none)) else (codicillaw19_GraphKeeps.l1 k x3 ([] : List (S24)) 0)
def codicillaw19_GraphKeeps.j1 : Nat → List (S52) → List (S40) → Int → List (S40) → Int → Bool → Option (Bool)
 | 0, _, _, _, _, _, _ => none
 | k + 1, x0, x3, x4, x9, x10, x71 => if x71 = true then (some false) else (if x10 = 0 then ((graph_May.f x9).bind fun t226 => (if t226 = 0 then (codicillaw19_GraphKeeps.l0 k x0 x9 (wrap64 (x4 + 1))) else (some false))) else ((graph_May.f x3).bind fun t227 => (if t227 = 0 then (codicillaw19_GraphKeeps.l0 k x0 x3 (wrap64 (x4 + 1))) else (some false))))
def codicillaw19_GraphKeeps.l1 : Nat → List (S40) → List (S24) → Int → Option (Bool)
 | 0, _, _, _ => none
 | k + 1, x3, x11, x12 => if x12 < (x3.length : Int) then (if 0 ≤ (wrap64 ((wrap64 ((x3.length : Int) - 1)) - x12)) then (if (wrap64 ((wrap64 ((x3.length : Int) - 1)) - x12)) < (x3.length : Int) then (if x11.length < 5864062014805 then (codicillaw19_GraphKeeps.l1 k x3 (x11 ++ [(⟨(rd_T40 x3 (wrap64 ((wrap64 ((x3.length : Int) - 1)) - x12))).f0.f0, (rd_T40 x3 (wrap64 ((wrap64 ((x3.length : Int) - 1)) - x12))).f0.f1⟩ : S24)]) (wrap64 (x12 + 1))) else (none)) else (none)) else (none)) else ((graph_Order.f x3 x11).bind fun bt232 => (if bt232.2 = 0 then (codicillaw19_GraphKeeps.j3 k x3 bt232.1 ((bt232.1.length : Int) != (x3.length : Int))) else (codicillaw19_GraphKeeps.j3 k x3 bt232.1 true)))
def codicillaw19_GraphKeeps.j3 : Nat → List (S40) → List (S24) → Bool → Option (Bool)
 | 0, _, _, _ => none
 | k + 1, x3, x13, x110 => if x110 = true then (some false) else (codicillaw19_GraphKeeps.l2 k x3 x13 0)
def codicillaw19_GraphKeeps.l2 : Nat → List (S40) → List (S24) → Int → Option (Bool)
 | 0, _, _, _ => none
 | k + 1, x3, x13, x15 => if x15 < (x3.length : Int) then (codicillaw19_GraphKeeps.l3 k x3 x13 x15 0) else ((codicillaw19_alive.f k).bind fun t236 => (some t236))
def codicillaw19_GraphKeeps.l3 : Nat → List (S40) → List (S24) → Int → Int → Option (Bool)
 | 0, _, _, _, _ => none
 | k + 1, x3, x13, x15, x16 => if 0 ≤ x15 then (if x15 < (x3.length : Int) then (if x16 < (((rd_T40 x3 x15).f1).length : Int) then (if 0 ≤ x16 then ((codicillaw19_place.f k x13 ((rd_T24 ((rd_T40 x3 x15).f1) x16).f0) ((rd_T24 ((rd_T40 x3 x15).f1) x16).f1)).bind fun t240 => (if t240 < 0 then (some false) else ((codicillaw19_place.f k x13 ((rd_T40 x3 x15).f0.f0) ((rd_T40 x3 x15).f0.f1)).bind fun t242 => (if t240 ≥ t242 then (some false) else (codicillaw19_GraphKeeps.l3 k x3 x13 x15 (wrap64 (x16 + 1))))))) else (none)) else (codicillaw19_GraphKeeps.l2 k x3 x13 (wrap64 (x15 + 1)))) else (none)) else (none)
end
def codicillaw19_GraphKeeps.f (k : Nat) (l0 : List (S52)) : Option (Bool) := if (l0.length : Int) > 40 then ((codicillaw19_alive.f k).bind fun t208 => (some t208)) else (codicillaw19_GraphKeeps.l0 k l0 ([] : List (S40)) 0)
theorem codicillaw19_GraphKeeps.mono_l : ∀ k, (∀ y0 y1 y2, LeO (codicillaw19_GraphKeeps.l0 k y0 y1 y2) (codicillaw19_GraphKeeps.l0 (k + 1) y0 y1 y2)) ∧ (∀ y0 y1 y2 y3 y4 y5, LeO (codicillaw19_GraphKeeps.j1 k y0 y1 y2 y3 y4 y5) (codicillaw19_GraphKeeps.j1 (k + 1) y0 y1 y2 y3 y4 y5)) ∧ (∀ y0 y1 y2, LeO (codicillaw19_GraphKeeps.l1 k y0 y1 y2) (codicillaw19_GraphKeeps.l1 (k + 1) y0 y1 y2)) ∧ (∀ y0 y1 y2, LeO (codicillaw19_GraphKeeps.j3 k y0 y1 y2) (codicillaw19_GraphKeeps.j3 (k + 1) y0 y1 y2)) ∧ (∀ y0 y1 y2, LeO (codicillaw19_GraphKeeps.l2 k y0 y1 y2) (codicillaw19_GraphKeeps.l2 (k + 1) y0 y1 y2)) ∧ (∀ y0 y1 y2 y3, LeO (codicillaw19_GraphKeeps.l3 k y0 y1 y2 y3) (codicillaw19_GraphKeeps.l3 (k + 1) y0 y1 y2 y3))
 | 0 => ⟨fun _ _ _ r h => by simp [codicillaw19_GraphKeeps.l0] at h, fun _ _ _ _ _ _ r h => by simp [codicillaw19_GraphKeeps.j1] at h, fun _ _ _ r h => by simp [codicillaw19_GraphKeeps.l1] at h, fun _ _ _ r h => by simp [codicillaw19_GraphKeeps.j3] at h, fun _ _ _ r h => by simp [codicillaw19_GraphKeeps.l2] at h, fun _ _ _ _ r h => by simp [codicillaw19_GraphKeeps.l3] at h⟩
 | k + 1 => by
  obtain ⟨ih0, ih1, ih2, ih3, ih4, ih5⟩ := codicillaw19_GraphKeeps.mono_l k
  refine ⟨?_, ?_, ?_, ?_, ?_, ?_⟩
  ·intro y0 y1 y2
   unfold codicillaw19_GraphKeeps.l0
   repeat' first
   | (with_reducible exact ih0 _ _ _)
   | (with_reducible exact ih1 _ _ _ _ _ _)
   | (with_reducible exact ih2 _ _ _)
   | (with_reducible exact ih3 _ _ _)
   | (with_reducible exact ih4 _ _ _)
   | (with_reducible exact ih5 _ _ _ _)
   | (with_reducible exact codicillaw19_alive.mono _)
   | (with_reducible exact codicillaw19_place.mono _ _ _ _)
   | (with_reducible exact graph_Users.mono _ _ _ _)
   | (with_reducible exact LeO.refl _)
   | (with_reducible exact LeO.none _)
   | (with_reducible refine LeO.ite ?_ ?_)
   | (with_reducible refine LeO.bind ?_ (fun _ => ?_))
   | exact ih0 _ _ _
   | exact ih1 _ _ _ _ _ _
   | exact ih2 _ _ _
   | exact ih3 _ _ _
   | exact ih4 _ _ _
   | exact ih5 _ _ _ _
   | exact codicillaw19_alive.mono _
   | exact codicillaw19_place.mono _ _ _ _
   | exact graph_Users.mono _ _ _ _
   | exact LeO.none _
   | refine LeO.ite ?_ ?_
   | refine LeO.bind ?_ (fun _ => ?_)
  ·intro y0 y1 y2 y3 y4 y5
   unfold codicillaw19_GraphKeeps.j1
   repeat' first
   | (with_reducible exact ih0 _ _ _)
   | (with_reducible exact ih1 _ _ _ _ _ _)
   | (with_reducible exact ih2 _ _ _)
   | (with_reducible exact ih3 _ _ _)
   | (with_reducible exact ih4 _ _ _)
   | (with_reducible exact ih5 _ _ _ _)
   | (with_reducible exact codicillaw19_alive.mono _)
   | (with_reducible exact codicillaw19_place.mono _ _ _ _)
   | (with_reducible exact graph_Users.mono _ _ _ _)
   | (with_reducible exact LeO.refl _)
   | (with_reducible exact LeO.none _)
   | (with_reducible refine LeO.ite ?_ ?_)
   | (with_reducible refine LeO.bind ?_ (fun _ => ?_))
   | exact ih0 _ _ _
   | exact ih1 _ _ _ _ _ _
   | exact ih2 _ _ _
   | exact ih3 _ _ _
   | exact ih4 _ _ _
   | exact ih5 _ _ _ _
   | exact codicillaw19_alive.mono _
   | exact codicillaw19_place.mono _ _ _ _
   | exact graph_Users.mono _ _ _ _
   | exact LeO.none _
   | refine LeO.ite ?_ ?_
   | refine LeO.bind ?_ (fun _ => ?_)
  ·intro y0 y1 y2
   unfold codicillaw19_GraphKeeps.l1
   repeat' first
   | (with_reducible exact ih0 _ _ _)
   | (with_reducible exact ih1 _ _ _ _ _ _)
   | (with_reducible exact ih2 _ _ _)
   | (with_reducible exact ih3 _ _ _)
   | (with_reducible exact ih4 _ _ _)
   | (with_reducible exact ih5 _ _ _ _)
   | (with_reducible exact codicillaw19_alive.mono _)
   | (with_reducible exact codicillaw19_place.mono _ _ _ _)
   | (with_reducible exact graph_Users.mono _ _ _ _)
   | (with_reducible exact LeO.refl _)
   | (with_reducible exact LeO.none _)
   | (with_reducible refine LeO.ite ?_ ?_)
   | (with_reducible refine LeO.bind ?_ (fun _ => ?_))
   | exact ih0 _ _ _
   | exact ih1 _ _ _ _ _ _
   | exact ih2 _ _ _
   | exact ih3 _ _ _
   | exact ih4 _ _ _
   | exact ih5 _ _ _ _
   | exact codicillaw19_alive.mono _
   | exact codicillaw19_place.mono _ _ _ _
   | exact graph_Users.mono _ _ _ _
   | exact LeO.none _
   | refine LeO.ite ?_ ?_
   | refine LeO.bind ?_ (fun _ => ?_)
  ·intro y0 y1 y2
   unfold codicillaw19_GraphKeeps.j3
   repeat' first
   | (with_reducible exact ih0 _ _ _)
   | (with_reducible exact ih1 _ _ _ _ _ _)
   | (with_reducible exact ih2 _ _ _)
   | (with_reducible exact ih3 _ _ _)
   | (with_reducible exact ih4 _ _ _)
   | (with_reducible exact ih5 _ _ _ _)
   | (with_reducible exact codicillaw19_alive.mono _)
   | (with_reducible exact codicillaw19_place.mono _ _ _ _)
   | (with_reducible exact graph_Users.mono _ _ _ _)
   | (with_reducible exact LeO.refl _)
   | (with_reducible exact LeO.none _)
   | (with_reducible refine LeO.ite ?_ ?_)
   | (with_reducible refine LeO.bind ?_ (fun _ => ?_))
   | exact ih0 _ _ _
   | exact ih1 _ _ _ _ _ _
   | exact ih2 _ _ _
   | exact ih3 _ _ _
   | exact ih4 _ _ _
   | exact ih5 _ _ _ _
   | exact codicillaw19_alive.mono _
   | exact codicillaw19_place.mono _ _ _ _
   | exact graph_Users.mono _ _ _ _
   | exact LeO.none _
   | refine LeO.ite ?_ ?_
   | refine LeO.bind ?_ (fun _ => ?_)
  ·intro y0 y1 y2
   unfold codicillaw19_GraphKeeps.l2
   repeat' first
   | (with_reducible exact ih0 _ _ _)
   | (with_reducible exact ih1 _ _ _ _ _ _)
   | (with_reducible exact ih2 _ _ _)
   | (with_reducible exact ih3 _ _ _)
   | (with_reducible exact ih4 _ _ _)
   | (with_reducible exact ih5 _ _ _ _)
   | (with_reducible exact codicillaw19_alive.mono _)
   | (with_reducible exact codicillaw19_place.mono _ _ _ _)
   | (with_reducible exact graph_Users.mono _ _ _ _)
   | (with_reducible exact LeO.refl _)
   | (with_reducible exact LeO.none _)
   | (with_reducible refine LeO.ite ?_ ?_)
   | (with_reducible refine LeO.bind ?_ (fun _ => ?_))
   | exact ih0 _ _ _
   | exact ih1 _ _ _ _ _ _
   | exact ih2 _ _ _
   | exact ih3 _ _ _
   | exact ih4 _ _ _
   | exact ih5 _ _ _ _
   | exact codicillaw19_alive.mono _
   | exact codicillaw19_place.mono _ _ _ _
   | exact graph_Users.mono _ _ _ _
   | exact LeO.none _
   | refine LeO.ite ?_ ?_
   | refine LeO.bind ?_ (fun _ => ?_)
  ·intro y0 y1 y2 y3
   unfold codicillaw19_GraphKeeps.l3
   repeat' first
   | (with_reducible exact ih0 _ _ _)
   | (with_reducible exact ih1 _ _ _ _ _ _)
   | (with_reducible exact ih2 _ _ _)
   | (with_reducible exact ih3 _ _ _)
   | (with_reducible exact ih4 _ _ _)
   | (with_reducible exact ih5 _ _ _ _)
   | (with_reducible exact codicillaw19_alive.mono _)
   | (with_reducible exact codicillaw19_place.mono _ _ _ _)
   | (with_reducible exact graph_Users.mono _ _ _ _)
   | (with_reducible exact LeO.refl _)
   | (with_reducible exact LeO.none _)
   | (with_reducible refine LeO.ite ?_ ?_)
   | (with_reducible refine LeO.bind ?_ (fun _ => ?_))
   | exact ih0 _ _ _
   | exact ih1 _ _ _ _ _ _
   | exact ih2 _ _ _
   | exact ih3 _ _ _
   | exact ih4 _ _ _
   | exact ih5 _ _ _ _
   | exact codicillaw19_alive.mono _
   | exact codicillaw19_place.mono _ _ _ _
   | exact graph_Users.mono _ _ _ _
   | exact LeO.none _
   | refine LeO.ite ?_ ?_
   | refine LeO.bind ?_ (fun _ => ?_)
theorem codicillaw19_GraphKeeps.mono : ∀ a0 k, LeO (codicillaw19_GraphKeeps.f k a0) (codicillaw19_GraphKeeps.f (k + 1) a0) := by
 intro a0 k
 obtain ⟨ih0, ih1, ih2, ih3, ih4, ih5⟩ := codicillaw19_GraphKeeps.mono_l k
 unfold codicillaw19_GraphKeeps.f
 repeat' first
   | (with_reducible exact ih0 _ _ _)
   | (with_reducible exact ih1 _ _ _ _ _ _)
   | (with_reducible exact ih2 _ _ _)
   | (with_reducible exact ih3 _ _ _)
   | (with_reducible exact ih4 _ _ _)
   | (with_reducible exact ih5 _ _ _ _)
   | (with_reducible exact codicillaw19_alive.mono _)
   | (with_reducible exact codicillaw19_place.mono _ _ _ _)
   | (with_reducible exact graph_Users.mono _ _ _ _)
   | (with_reducible exact LeO.refl _)
   | (with_reducible exact LeO.none _)
   | (with_reducible refine LeO.ite ?_ ?_)
   | (with_reducible refine LeO.bind ?_ (fun _ => ?_))
   | exact ih0 _ _ _
   | exact ih1 _ _ _ _ _ _
   | exact ih2 _ _ _
   | exact ih3 _ _ _
   | exact ih4 _ _ _
   | exact ih5 _ _ _ _
   | exact codicillaw19_alive.mono _
   | exact codicillaw19_place.mono _ _ _ _
   | exact graph_Users.mono _ _ _ _
   | exact LeO.none _
   | refine LeO.ite ?_ ?_
   | refine LeO.bind ?_ (fun _ => ?_)
set_option maxHeartbeats 8000000 in
set_option maxRecDepth 100000 in
theorem codicillaw19_GraphKeeps.calls (k : Nat) (A0 : Option Addr) (c0 : Nat) (l0 : List (S52)) (r : Bool) (w : World) (hr0 : Kd.C k52 w A0 l0.length l0) (hc0 : l0.length ≤ c0) (h : codicillaw19_GraphKeeps.f k l0 = some r) :
  Calls Try.prog 5 #[.slice A0 l0.length c0] w fun e w' => e = .returned (.bool r) ∧ Below w.heap.size w w' := by
 have hu40 := Try.underlying40
 have hu24 := Try.underlying24
 have HR0 := qH hr0
 have HC0 := qH hc0
 clear hr0 hc0
 have HB := qH (Below.refl w.heap.size w)
 have H : (if (l0.length : Int) > 40 then ((codicillaw19_alive.f k).bind fun t208 => (some t208)) else (codicillaw19_GraphKeeps.l0 k l0 ([] : List (S40)) 0)) = some r := h
 clear h
 by_cases c2 : (l0.length : Int) > 40
 ·rw [if_pos c2] at H
  have c2b0 : decide (40 < (l0.length : Int)) = true := decide_eq_true c2
  have c2b1 : decide (40 < l0.length) = true := decide_eq_true (by omega)
  clear c2
  replace H := Option.bind_eq_some_iff.mp H
  obtain ⟨t208, A30, H⟩ := H
  (try dsimp only at H)
  have A3 := qH A30
  clear A30
  obtain rfl := Option.some.inj H
  simp only [Option.some.injEq, Prod.mk.injEq] at H
  obtain ⟨rfl⟩ := H
  go_enter Try.func5, Try.ntmps5
  go_wp2_with (first | ((with_reducible refine gate_callee (f := 8) rfl ?_); refine goesL_ (some 21) rfl rfl Try.func8 (by kernel_rfl) rfl #[] rfl (by (try simp only [List.map_toArray, List.map_cons, List.map_nil]); first | done | rfl | (simp only [List.length_drop, List.length_take]; rfl)) ?_; (with_reducible refine (codicillaw19_alive.calls k  t208 _ A3.out).mono ?_); rintro e w4 ⟨rfl, hb⟩; refine ⟨_, rfl, ?_⟩; have n0_ := qH (below_step (by repeat (first | (with_reducible first | exact HB.out | apply qL | apply qJ | apply qK) | exact HB.out)) hb); clear HB; have HB := n0_; clear n0_; (try clear hb); (try clear hb2); (try clear hk); (try clear hi)))
  go_ret
  exact ⟨by first | rfl | (simp [errW_none, errW_some] <;> rfl) | (simp [*, errW_none, errW_some] <;> rfl), by repeat (first | (with_reducible first | exact HB.out | apply qL | apply qJ | apply qK) | exact HB.out)⟩
 ·rw [if_neg c2] at H
  have c2b0 : decide (40 < (l0.length : Int)) = false := decide_eq_false c2
  have c2b1 : decide (40 < l0.length) = false := decide_eq_false (by omega)
  clear c2
  have H' := qH H
  clear H
  go_enter Try.func5, Try.ntmps5
  go_wp2
  go_loopg [3, 4] k (fun kq v3 v4 w' => ∃ (x3_1 : List (S40)) (x4_1 : Int), v4 = .int .i64 x4_1 ∧ Aside0 (codicillaw19_GraphKeeps.l0 kq l0 x3_1 x4_1 = some r) ∧ Aside0 (kq ≤ k) ∧ Aside0 (Kd.V k40 40 w' w.heap.size (fun _ => True) v3 x3_1) ∧ Aside0 (Below w.heap.size w w'))
  case atStart => exact ⟨(([] : List (S40))), (0), (by first | rfl | (simp; done) | (simp; exact qEmp _) | (simp [*]; done)), H', ⟨Nat.le_refl _⟩, ⟨Kd.V_nil _ _ _ _ _⟩, ⟨by repeat (first | (with_reducible first | exact HB.out | apply qL | apply qJ | apply qK) | exact HB.out)⟩⟩
  case round =>
   clear H'
   try clear c2
   try clear c2b0
   try clear c2b1
   try clear p2
   obtain ⟨x3_1, x4_1, rfl, HA, HK1, HO_3, HB⟩ := hrel
   cases gk with
   | zero => exact absurd HA.out (by simp [codicillaw19_GraphKeeps.l0])
   | succ k1 =>
    have H := HA.out
    clear HA
    simp only [codicillaw19_GraphKeeps.l0] at H
    by_cases c5 : x4_1 < (l0.length : Int)
    ·rw [if_pos c5] at H
     have c5b0 : decide (x4_1 < (l0.length : Int)) = true := decide_eq_true c5
     clear c5
     by_cases c6 : 0 ≤ x4_1
     ·rw [if_pos c6] at H
      have c6b0 : decide (0 ≤ x4_1) = true := decide_eq_true c6
      clear c6
      by_cases c7 : (((rd_T52 l0 x4_1).f1.f1).length : Int) > 40
      ·rw [if_pos c7] at H
       have c7b0 : decide (40 < (((rd_T52 l0 x4_1).f1.f1).length : Int)) = true := decide_eq_true c7
       have c7b1 : decide (40 < ((rd_T52 l0 x4_1).f1.f1).length) = true := decide_eq_true (by omega)
       clear c7
       replace H := Option.bind_eq_some_iff.mp H
       obtain ⟨t211, A80, H⟩ := H
       (try dsimp only at H)
       have A8 := qH A80
       clear A80
       obtain rfl := Option.some.inj H
       simp only [Option.some.injEq, Prod.mk.injEq] at H
       obtain ⟨rfl⟩ := H
       have p209 : 0 ≤ (x4_1 : Int) := of_decide_eq_true (by first | (with_reducible assumption) | assumption)
       have q209 : x4_1 < (l0.length : Int) := of_decide_eq_true (by first | (with_reducible assumption) | assumption)
       obtain ⟨ad209, A209_3, c209_3, e209, hx209_0, hx209_1, hx209_2, hx209_3, hl209_3, hi209_3⟩ := at_T52 HR0.out x4_1 p209 q209
       cases e209
       replace hx209_0 := (HB.out.cell (qO w _ hx209_0)).trans hx209_0
       replace hx209_1 := (HB.out.cell (qO w _ hx209_1)).trans hx209_1
       replace hx209_2 := (HB.out.cell (qO w _ hx209_2)).trans hx209_2
       replace hx209_3 := (HB.out.cell (qO w _ hx209_3)).trans hx209_3
       have HR209_3 := qH hi209_3
       have HC209_3 := qH hl209_3
       clear hi209_3 hl209_3
       replace p209 := eq_true p209
       replace q209 := eq_true q209
       go_wp2_with (first | ((with_reducible refine gate_dst (N := 5) rfl ?_); (try (refine gate_guard (by rfl) ?_; dsimp only)); refine box_event ?hg (N := 5) ?hd (cs := #[.string (⟨#[]⟩ : ByteArray), .int .i64 0, .slice none 0 0]) (t := 40) ?hr ?_; (case hd => rfl); (case hg => rfl); (case hr => first | (go_simp; done) | (go_simp; rfl) | (go_simp; simp [IntKind.wrap_u32]; done)); intro gb210 hg w9 hbox hb; have n0_ := qH (Kd.V_below (Kd.V_elderB (by (with_reducible repeat (first | apply Kd.V_alloc | apply Kd.V_drewN | apply Kd.V_drew)); exact HO_3.out) gb210 (Nat.le_of_eq hg.symm)) hb); have n1_ := qH (below_step (by repeat (first | (with_reducible first | exact HB.out | apply qL | apply qJ | apply qK) | exact HB.out)) hb); have n2_ := qH (hbox); have n3_ := qH ((by rw [hg]; exact (below_size (by repeat (first | (with_reducible first | exact HB.out | apply qL | apply qJ | apply qK) | exact HB.out))) : w.heap.size ≤ gb210)); have n4_ := n3_; clear HO_3; clear HB; have HO_3 := n0_; have HB := n1_; have BK210 := n2_; have GW210 := n3_; have GE210 := n4_; clear n0_ n1_ n2_ n3_ n4_; clear hb hbox hg; obtain ⟨hcz10_0, hcz10_1, hcz10_2⟩ := qc3 BK210.out; obtain ⟨hfz10_0, hfz10_1, hfz10_2⟩ := qf3 BK210.out) | ((with_reducible refine gate_callee (f := 8) rfl ?_); refine goesL_ (some 37) rfl rfl Try.func8 (by kernel_rfl) rfl #[] rfl (by (try simp only [List.map_toArray, List.map_cons, List.map_nil]); first | done | rfl | (simp only [List.length_drop, List.length_take]; rfl)) ?_; (with_reducible refine (codicillaw19_alive.calls k1  t211 _ A8.out).mono ?_); rintro e w11 ⟨rfl, hb⟩; refine ⟨_, rfl, ?_⟩; have n0_ := qH (Kd.V_below (by (with_reducible repeat (first | apply Kd.V_alloc | apply Kd.V_drewN | apply Kd.V_drew)); exact (Kd.V_mono (Kd.V_far (p := ⟨gb210, 2, none⟩) (Kd.V_far (p := ⟨gb210, 1, none⟩) (Kd.V_far (p := ⟨gb210, 0, none⟩) (Kd.V_mono HO_3.out (fun k_ hk => (⟨hk, hk.2⟩ : _ ∧ k_ ≠ gb210))) (fun _ hk => hk.2) (.string ((rd_T52 l0 x4_1).f1.f0.f0))) (fun _ hk => hk.2) (.int .i64 ((rd_T52 l0 x4_1).f1.f0.f1))) (fun _ hk => hk.2) (.slice A209_3 ((rd_T52 l0 x4_1).f1.f1).length c209_3)) (fun _ h_ => h_.1))) hb); have n1_ := qH (qD (g := gb210) (o := .cells #[.string ((rd_T52 l0 x4_1).f1.f0.f0), .int .i64 ((rd_T52 l0 x4_1).f1.f0.f1), .slice A209_3 ((rd_T52 l0 x4_1).f1.f1).length c209_3] 40 (0, 0)) (by (with_reducible repeat first | apply qA | apply qC | apply qB); refine blk_put (cs := #[.string ((rd_T52 l0 x4_1).f1.f0.f0), .int .i64 ((rd_T52 l0 x4_1).f1.f0.f1), .slice none 0 0]) ?_ 2 _ rfl; (with_reducible repeat first | apply qA | apply qC | apply qB); refine blk_put (cs := #[.string ((rd_T52 l0 x4_1).f1.f0.f0), .int .i64 0, .slice none 0 0]) ?_ 1 _ rfl; (with_reducible repeat first | apply qA | apply qC | apply qB); refine blk_put (cs := #[.string (⟨#[]⟩ : ByteArray), .int .i64 0, .slice none 0 0]) ?_ 0 _ rfl; (with_reducible repeat first | apply qA | apply qC | apply qB); exact BK210.out) hb); have n2_ := qH (below_step (by repeat (first | (with_reducible first | exact HB.out | apply qL | apply qJ | apply qK | refine qI ?_ GE210.out) | exact HB.out)) hb); clear HO_3; clear BK210; clear HB; have HO_3 := n0_; have BK210 := n1_; have HB := n2_; clear n0_ n1_ n2_; (try clear hb); (try clear hb2); (try clear hk); (try clear hi)))
       go_ret
       exact ⟨by first | rfl | (simp [errW_none, errW_some] <;> rfl) | (simp [*, errW_none, errW_some] <;> rfl), by repeat (first | (with_reducible first | exact HB.out | apply qL | apply qJ | apply qK | refine qI ?_ GE210.out) | exact HB.out)⟩
      ·rw [if_neg c7] at H
       have c7b0 : decide (40 < (((rd_T52 l0 x4_1).f1.f1).length : Int)) = false := decide_eq_false c7
       have c7b1 : decide (40 < ((rd_T52 l0 x4_1).f1.f1).length) = false := decide_eq_false (by omega)
       clear c7
       by_cases c12 : (Int.tmod ((rd_T52 l0 x4_1).f0) 3) < 2
       ·rw [if_pos c12] at H
        have c12b0 : decide ((Int.tmod ((rd_T52 l0 x4_1).f0) 3) < 2) = true := decide_eq_true c12
        clear c12
        replace H := Option.bind_eq_some_iff.mp H
        obtain ⟨⟨t213, t216⟩, A130, H⟩ := H
        (try dsimp only at H)
        have A13 := qH A130
        clear A130
        by_cases c14 : t216 = 0
        ·rw [if_pos c14] at H
         have c14b0 : (t216 == 0) = true := beq_iff_eq.mpr c14
         have c14b1 : (t216 != 0) = false := bne_eq_false_iff_eq.mpr c14
         clear c14
         replace H := Option.bind_eq_some_iff.mp H
         obtain ⟨t217, A150, H⟩ := H
         (try dsimp only at H)
         have A15 := qH A150
         clear A150
         by_cases c16 : t217 = 0
         ·rw [if_pos c16] at H
          have c16b0 : (t217 == 0) = true := beq_iff_eq.mpr c16
          have c16b1 : (t217 != 0) = false := bne_eq_false_iff_eq.mpr c16
          clear c16
          have H' := qH H
          clear H
          have p209 : 0 ≤ (x4_1 : Int) := of_decide_eq_true (by first | (with_reducible assumption) | assumption)
          have q209 : x4_1 < (l0.length : Int) := of_decide_eq_true (by first | (with_reducible assumption) | assumption)
          obtain ⟨ad209, A209_3, c209_3, e209, hx209_0, hx209_1, hx209_2, hx209_3, hl209_3, hi209_3⟩ := at_T52 HR0.out x4_1 p209 q209
          cases e209
          replace hx209_0 := (HB.out.cell (qO w _ hx209_0)).trans hx209_0
          replace hx209_1 := (HB.out.cell (qO w _ hx209_1)).trans hx209_1
          replace hx209_2 := (HB.out.cell (qO w _ hx209_2)).trans hx209_2
          replace hx209_3 := (HB.out.cell (qO w _ hx209_3)).trans hx209_3
          have HR209_3 := qH hi209_3
          have HC209_3 := qH hl209_3
          clear hi209_3 hl209_3
          replace p209 := eq_true p209
          replace q209 := eq_true q209
          go_wp2_with (first | ((with_reducible refine gate_dst (N := 5) rfl ?_); (try (refine gate_guard (by rfl) ?_; dsimp only)); refine box_event ?hg (N := 5) ?hd (cs := #[.string (⟨#[]⟩ : ByteArray), .int .i64 0, .slice none 0 0]) (t := 40) ?hr ?_; (case hd => rfl); (case hg => rfl); (case hr => first | (go_simp; done) | (go_simp; rfl) | (go_simp; simp [IntKind.wrap_u32]; done)); intro gb210 hg w17 hbox hb; have n0_ := qH (Kd.V_below (Kd.V_elderB (by (with_reducible repeat (first | apply Kd.V_alloc | apply Kd.V_drewN | apply Kd.V_drew)); exact HO_3.out) gb210 (Nat.le_of_eq hg.symm)) hb); have n1_ := qH (below_step (by repeat (first | (with_reducible first | exact HB.out | apply qL | apply qJ | apply qK) | exact HB.out)) hb); have n2_ := qH (hbox); have n3_ := qH ((by rw [hg]; exact (below_size (by repeat (first | (with_reducible first | exact HB.out | apply qL | apply qJ | apply qK) | exact HB.out))) : w.heap.size ≤ gb210)); have n4_ := n3_; clear HO_3; clear HB; have HO_3 := n0_; have HB := n1_; have BK210 := n2_; have GW210 := n3_; have GE210 := n4_; clear n0_ n1_ n2_ n3_ n4_; clear hb hbox hg; obtain ⟨hcz18_0, hcz18_1, hcz18_2⟩ := qc3 BK210.out; obtain ⟨hfz18_0, hfz18_1, hfz18_2⟩ := qf3 BK210.out) | ((with_reducible refine gate_store (t := 40) (p := 5) rfl ?_); refine store_event (t := 40) (p := 5) (v := ?vo_w19) (w1 := (((w17.setCell ⟨gb210, 0, none⟩ (.string ((rd_T52 l0 x4_1).f1.f0.f0))).setCell ⟨gb210, 1, none⟩ (.int .i64 ((rd_T52 l0 x4_1).f1.f0.f1))).setCell ⟨gb210, 2, none⟩ (.slice A209_3 ((rd_T52 l0 x4_1).f1.f1).length c209_3))) ?hg ?ho ?hn ?hr ?_; (case ho => rfl); (case hg => rfl); (case hn => rfl); (case hr => first | (go_simp; done) | (go_simp; rfl) | (go_simp; simp [IntKind.wrap_u32]; done)); intro w19 hw; have n0_ : Aside0 (Kd.V k40 40 w19 w.heap.size (fun k_ => k_ ≠ gb210) u3 x3_1) := ⟨(by rw [hw]; exact (by (with_reducible repeat (first | apply Kd.V_alloc | apply Kd.V_drewN | apply Kd.V_drew)); exact Kd.V_mono (Kd.V_far (p := ⟨gb210, 2, none⟩) (Kd.V_far (p := ⟨gb210, 1, none⟩) (Kd.V_far (p := ⟨gb210, 0, none⟩) (Kd.V_mono HO_3.out (fun k_ hk => (⟨hk, hk.2⟩ : _ ∧ k_ ≠ gb210))) (fun _ hk => hk.2) (.string ((rd_T52 l0 x4_1).f1.f0.f0))) (fun _ hk => hk.2) (.int .i64 ((rd_T52 l0 x4_1).f1.f0.f1))) (fun _ hk => hk.2) (.slice A209_3 ((rd_T52 l0 x4_1).f1.f1).length c209_3)) (fun _ hk => hk.1.2)))⟩; have n1_ : Aside0 (w19.heap[gb210]? = some (.cells #[.string ((rd_T52 l0 x4_1).f1.f0.f0), .int .i64 ((rd_T52 l0 x4_1).f1.f0.f1), .slice A209_3 ((rd_T52 l0 x4_1).f1.f1).length c209_3] 40 (0, 0))) := ⟨(by rw [hw]; exact (by (with_reducible repeat first | apply qA | apply qC | apply qB); refine blk_put (cs := #[.string ((rd_T52 l0 x4_1).f1.f0.f0), .int .i64 ((rd_T52 l0 x4_1).f1.f0.f1), .slice none 0 0]) ?_ 2 _ rfl; (with_reducible repeat first | apply qA | apply qC | apply qB); refine blk_put (cs := #[.string ((rd_T52 l0 x4_1).f1.f0.f0), .int .i64 0, .slice none 0 0]) ?_ 1 _ rfl; (with_reducible repeat first | apply qA | apply qC | apply qB); refine blk_put (cs := #[.string (⟨#[]⟩ : ByteArray), .int .i64 0, .slice none 0 0]) ?_ 0 _ rfl; (with_reducible repeat first | apply qA | apply qC | apply qB); exact BK210.out))⟩; have n2_ : Aside0 (Below w.heap.size w w19) := ⟨(by rw [hw]; exact (by repeat (first | (with_reducible first | exact HB.out | apply qL | apply qJ | apply qK | refine qI ?_ GE210.out) | exact HB.out)))⟩; clear hw; clear HO_3; clear BK210; clear HB; have HO_3 := n0_; have BK210 := n1_; have HB := n2_; clear n0_ n1_ n2_; obtain ⟨hcz20_0, hcz20_1, hcz20_2⟩ := qc3 BK210.out; obtain ⟨hfz20_0, hfz20_1, hfz20_2⟩ := qf3 BK210.out; have p212 : 0 ≤ (x4_1 : Int) := of_decide_eq_true (by first | (with_reducible assumption) | assumption); have q212 : x4_1 < (l0.length : Int) := of_decide_eq_true (by first | (with_reducible assumption) | assumption); obtain ⟨ad212, A212_3, c212_3, e212, hx212_0, hx212_1, hx212_2, hx212_3, hl212_3, hi212_3⟩ := at_T52 HR0.out x4_1 p212 q212; obtain rfl : ad209 = ad212 := (by injection e212); replace hx212_0 := (HB.out.cell (qO w _ hx212_0)).trans hx212_0; replace hx212_1 := (HB.out.cell (qO w _ hx212_1)).trans hx212_1; replace hx212_2 := (HB.out.cell (qO w _ hx212_2)).trans hx212_2; replace hx212_3 := (HB.out.cell (qO w _ hx212_3)).trans hx212_3; have HR212_3 := qH hi212_3; have HC212_3 := qH hl212_3; clear hi212_3 hl212_3; replace p212 := eq_true p212; replace q212 := eq_true q212; obtain ⟨Ao21, co21, eo21⟩ := Kd.V_slice HO_3.out; subst eo21) | ((with_reducible refine gate_callee (f := 19) rfl ?_); refine goesL_ (some 48) rfl rfl Try.func19 (by kernel_rfl) rfl #[.slice Ao21 x3_1.length co21, .agg #[.string ((rd_T52 l0 x4_1).f1.f0.f0), .int .i64 ((rd_T52 l0 x4_1).f1.f0.f1), .slice A209_3 ((rd_T52 l0 x4_1).f1.f1).length c209_3]] rfl (by (try simp only [List.map_toArray, List.map_cons, List.map_nil]); first | done | rfl | (simp only [List.length_drop, List.length_take]; rfl)) ?_; (with_reducible refine (graph_Add.calls (fun k_ => k_ ≠ gb210) _ _ x3_1 ((rd_T52 l0 x4_1).f1.f0.f0) ((rd_T52 l0 x4_1).f1.f0.f1) (fun k_ => k_ < w.heap.size) _ _ ((rd_T52 l0 x4_1).f1.f1) t213 t216 _ ?side1 ?side2 A13.out).mono ?_); (case side1 => exact HO_3.out); (case side2 => exact Kd.V_mk HC209_3.out (Kd.F_below (Kd.C_F k24_heap HR209_3.out) (by repeat (first | (with_reducible first | exact HB.out | apply qL | apply qJ | apply qK | refine qI ?_ GE210.out) | exact HB.out)))); rintro e w22 ⟨v214, rfl, ho0, hb⟩; refine ⟨_, rfl, ?_⟩; have n0_ := qH (Kd.V_below (by (with_reducible repeat (first | apply Kd.V_alloc | apply Kd.V_drewN | apply Kd.V_drew)); exact HO_3.out) hb); have n1_ := qH (Kd.V_lower (Kd.V_mono (ok' := fun k_ => k_ ≠ gb210) ho0 (fun k_ hk_ => Or.elim hk_ (fun hs_ => Or.elim hs_ (fun hs_ => hs_) (fun hs_ => fun e_ => Nat.not_le.2 hs_ (by rw [e_]; exact GW210.out))) (fun hn_ => (Kd.freshB (g := gb210) (by (with_reducible repeat first | apply qA | apply qC | apply qB); exact BK210.out) k_ hn_)))) (below_size (by repeat (first | (with_reducible first | exact HB.out | apply qL | apply qJ | apply qK | refine qI ?_ GE210.out) | exact HB.out)))); have n2_ := qH (qD (g := gb210) (by (with_reducible repeat first | apply qA | apply qC | apply qB); exact BK210.out) hb); have n3_ := qH (below_step (by repeat (first | (with_reducible first | exact HB.out | apply qL | apply qJ | apply qK | refine qI ?_ GE210.out) | exact HB.out)) hb); clear HO_3; clear BK210; clear HB; have HO_3 := n0_; have HO215 := n1_; have BK210 := n2_; have HB := n3_; clear n0_ n1_ n2_ n3_; (try clear hb); (try clear hb2); (try clear hk); (try clear hi); (try clear ho0); obtain ⟨Ao23, co23, eo23⟩ := Kd.V_slice HO215.out; subst eo23) | ((with_reducible refine gate_callee (f := 13) rfl ?_); refine goesL_ (some 76) rfl rfl Try.func13 (by kernel_rfl) rfl #[.slice Ao23 t213.length co23] rfl (by (try simp only [List.map_toArray, List.map_cons, List.map_nil]); first | done | rfl | (simp only [List.length_drop, List.length_take]; rfl)) ?_; (with_reducible refine (graph_May.calls _ _ t213 t217 _ ?side1 ?side2 A15.out).mono ?_); (case side1 => repeat (first | exact (Kd.V_reads' HO215.out).2.2 | (with_reducible refine Kd.C_alloc ?_ _) | (with_reducible refine Kd.C_drewN ?_ _) | (with_reducible refine Kd.C_drew ?_))); (case side2 => exact (Kd.V_reads' HO215.out).2.1); rintro e w24 ⟨rfl, hb⟩; refine ⟨_, rfl, ?_⟩; have n0_ := qH (Kd.V_below (by (with_reducible repeat (first | apply Kd.V_alloc | apply Kd.V_drewN | apply Kd.V_drew)); exact HO_3.out) hb); have n1_ := qH (Kd.V_below (by (with_reducible repeat (first | apply Kd.V_alloc | apply Kd.V_drewN | apply Kd.V_drew)); exact HO215.out) hb); have n2_ := qH (qD (g := gb210) (by (with_reducible repeat first | apply qA | apply qC | apply qB); exact BK210.out) hb); have n3_ := qH (below_step (by repeat (first | (with_reducible first | exact HB.out | apply qL | apply qJ | apply qK | refine qI ?_ GE210.out) | exact HB.out)) hb); clear HO_3; clear HO215; clear BK210; clear HB; have HO_3 := n0_; have HO215 := n1_; have BK210 := n2_; have HB := n3_; clear n0_ n1_ n2_ n3_; (try clear hb); (try clear hb2); (try clear hk); (try clear hi)))
          go_roundg k1
          case measure => have := HK1.out; omega
          case rel => exact ⟨(t213), (wrap64 (x4_1 + 1)), (by first | rfl | (simp; done) | (simp; exact qEmp _) | (simp [*]; done)), H', ⟨by have := HK1.out; omega⟩, ⟨by (with_reducible repeat (first | apply Kd.V_alloc | apply Kd.V_drewN | apply Kd.V_drew)); exact Kd.V_mono HO215.out (fun _ hk => trivial)⟩, ⟨by repeat (first | (with_reducible first | exact HB.out | apply qL | apply qJ | apply qK | refine qI ?_ GE210.out) | exact HB.out)⟩⟩
         ·rw [if_neg c16] at H
          have c16b0 : (t217 == 0) = false := beq_eq_false_iff_ne.mpr c16
          have c16b1 : (t217 != 0) = true := bne_iff_ne.mpr c16
          obtain rfl := Option.some.inj H
          simp only [Option.some.injEq, Prod.mk.injEq] at H
          obtain ⟨rfl⟩ := H
          have p209 : 0 ≤ (x4_1 : Int) := of_decide_eq_true (by first | (with_reducible assumption) | assumption)
          have q209 : x4_1 < (l0.length : Int) := of_decide_eq_true (by first | (with_reducible assumption) | assumption)
          obtain ⟨ad209, A209_3, c209_3, e209, hx209_0, hx209_1, hx209_2, hx209_3, hl209_3, hi209_3⟩ := at_T52 HR0.out x4_1 p209 q209
          cases e209
          replace hx209_0 := (HB.out.cell (qO w _ hx209_0)).trans hx209_0
          replace hx209_1 := (HB.out.cell (qO w _ hx209_1)).trans hx209_1
          replace hx209_2 := (HB.out.cell (qO w _ hx209_2)).trans hx209_2
          replace hx209_3 := (HB.out.cell (qO w _ hx209_3)).trans hx209_3
          have HR209_3 := qH hi209_3
          have HC209_3 := qH hl209_3
          clear hi209_3 hl209_3
          replace p209 := eq_true p209
          replace q209 := eq_true q209
          go_wp2_with (first | ((with_reducible refine gate_dst (N := 5) rfl ?_); (try (refine gate_guard (by rfl) ?_; dsimp only)); refine box_event ?hg (N := 5) ?hd (cs := #[.string (⟨#[]⟩ : ByteArray), .int .i64 0, .slice none 0 0]) (t := 40) ?hr ?_; (case hd => rfl); (case hg => rfl); (case hr => first | (go_simp; done) | (go_simp; rfl) | (go_simp; simp [IntKind.wrap_u32]; done)); intro gb210 hg w25 hbox hb; have n0_ := qH (Kd.V_below (Kd.V_elderB (by (with_reducible repeat (first | apply Kd.V_alloc | apply Kd.V_drewN | apply Kd.V_drew)); exact HO_3.out) gb210 (Nat.le_of_eq hg.symm)) hb); have n1_ := qH (below_step (by repeat (first | (with_reducible first | exact HB.out | apply qL | apply qJ | apply qK) | exact HB.out)) hb); have n2_ := qH (hbox); have n3_ := qH ((by rw [hg]; exact (below_size (by repeat (first | (with_reducible first | exact HB.out | apply qL | apply qJ | apply qK) | exact HB.out))) : w.heap.size ≤ gb210)); have n4_ := n3_; clear HO_3; clear HB; have HO_3 := n0_; have HB := n1_; have BK210 := n2_; have GW210 := n3_; have GE210 := n4_; clear n0_ n1_ n2_ n3_ n4_; clear hb hbox hg; obtain ⟨hcz26_0, hcz26_1, hcz26_2⟩ := qc3 BK210.out; obtain ⟨hfz26_0, hfz26_1, hfz26_2⟩ := qf3 BK210.out) | ((with_reducible refine gate_store (t := 40) (p := 5) rfl ?_); refine store_event (t := 40) (p := 5) (v := ?vo_w27) (w1 := (((w25.setCell ⟨gb210, 0, none⟩ (.string ((rd_T52 l0 x4_1).f1.f0.f0))).setCell ⟨gb210, 1, none⟩ (.int .i64 ((rd_T52 l0 x4_1).f1.f0.f1))).setCell ⟨gb210, 2, none⟩ (.slice A209_3 ((rd_T52 l0 x4_1).f1.f1).length c209_3))) ?hg ?ho ?hn ?hr ?_; (case ho => rfl); (case hg => rfl); (case hn => rfl); (case hr => first | (go_simp; done) | (go_simp; rfl) | (go_simp; simp [IntKind.wrap_u32]; done)); intro w27 hw; have n0_ : Aside0 (Kd.V k40 40 w27 w.heap.size (fun k_ => k_ ≠ gb210) u3 x3_1) := ⟨(by rw [hw]; exact (by (with_reducible repeat (first | apply Kd.V_alloc | apply Kd.V_drewN | apply Kd.V_drew)); exact Kd.V_mono (Kd.V_far (p := ⟨gb210, 2, none⟩) (Kd.V_far (p := ⟨gb210, 1, none⟩) (Kd.V_far (p := ⟨gb210, 0, none⟩) (Kd.V_mono HO_3.out (fun k_ hk => (⟨hk, hk.2⟩ : _ ∧ k_ ≠ gb210))) (fun _ hk => hk.2) (.string ((rd_T52 l0 x4_1).f1.f0.f0))) (fun _ hk => hk.2) (.int .i64 ((rd_T52 l0 x4_1).f1.f0.f1))) (fun _ hk => hk.2) (.slice A209_3 ((rd_T52 l0 x4_1).f1.f1).length c209_3)) (fun _ hk => hk.1.2)))⟩; have n1_ : Aside0 (w27.heap[gb210]? = some (.cells #[.string ((rd_T52 l0 x4_1).f1.f0.f0), .int .i64 ((rd_T52 l0 x4_1).f1.f0.f1), .slice A209_3 ((rd_T52 l0 x4_1).f1.f1).length c209_3] 40 (0, 0))) := ⟨(by rw [hw]; exact (by (with_reducible repeat first | apply qA | apply qC | apply qB); refine blk_put (cs := #[.string ((rd_T52 l0 x4_1).f1.f0.f0), .int .i64 ((rd_T52 l0 x4_1).f1.f0.f1), .slice none 0 0]) ?_ 2 _ rfl; (with_reducible repeat first | apply qA | apply qC | apply qB); refine blk_put (cs := #[.string ((rd_T52 l0 x4_1).f1.f0.f0), .int .i64 0, .slice none 0 0]) ?_ 1 _ rfl; (with_reducible repeat first | apply qA | apply qC | apply qB); refine blk_put (cs := #[.string (⟨#[]⟩ : ByteArray), .int .i64 0, .slice none 0 0]) ?_ 0 _ rfl; (with_reducible repeat first | apply qA | apply qC | apply qB); exact BK210.out))⟩; have n2_ : Aside0 (Below w.heap.size w w27) := ⟨(by rw [hw]; exact (by repeat (first | (with_reducible first | exact HB.out | apply qL | apply qJ | apply qK | refine qI ?_ GE210.out) | exact HB.out)))⟩; clear hw; clear HO_3; clear BK210; clear HB; have HO_3 := n0_; have BK210 := n1_; have HB := n2_; clear n0_ n1_ n2_; obtain ⟨hcz28_0, hcz28_1, hcz28_2⟩ := qc3 BK210.out; obtain ⟨hfz28_0, hfz28_1, hfz28_2⟩ := qf3 BK210.out; have p212 : 0 ≤ (x4_1 : Int) := of_decide_eq_true (by first | (with_reducible assumption) | assumption); have q212 : x4_1 < (l0.length : Int) := of_decide_eq_true (by first | (with_reducible assumption) | assumption); obtain ⟨ad212, A212_3, c212_3, e212, hx212_0, hx212_1, hx212_2, hx212_3, hl212_3, hi212_3⟩ := at_T52 HR0.out x4_1 p212 q212; obtain rfl : ad209 = ad212 := (by injection e212); replace hx212_0 := (HB.out.cell (qO w _ hx212_0)).trans hx212_0; replace hx212_1 := (HB.out.cell (qO w _ hx212_1)).trans hx212_1; replace hx212_2 := (HB.out.cell (qO w _ hx212_2)).trans hx212_2; replace hx212_3 := (HB.out.cell (qO w _ hx212_3)).trans hx212_3; have HR212_3 := qH hi212_3; have HC212_3 := qH hl212_3; clear hi212_3 hl212_3; replace p212 := eq_true p212; replace q212 := eq_true q212; obtain ⟨Ao29, co29, eo29⟩ := Kd.V_slice HO_3.out; subst eo29) | ((with_reducible refine gate_callee (f := 19) rfl ?_); refine goesL_ (some 48) rfl rfl Try.func19 (by kernel_rfl) rfl #[.slice Ao29 x3_1.length co29, .agg #[.string ((rd_T52 l0 x4_1).f1.f0.f0), .int .i64 ((rd_T52 l0 x4_1).f1.f0.f1), .slice A209_3 ((rd_T52 l0 x4_1).f1.f1).length c209_3]] rfl (by (try simp only [List.map_toArray, List.map_cons, List.map_nil]); first | done | rfl | (simp only [List.length_drop, List.length_take]; rfl)) ?_; (with_reducible refine (graph_Add.calls (fun k_ => k_ ≠ gb210) _ _ x3_1 ((rd_T52 l0 x4_1).f1.f0.f0) ((rd_T52 l0 x4_1).f1.f0.f1) (fun k_ => k_ < w.heap.size) _ _ ((rd_T52 l0 x4_1).f1.f1) t213 t216 _ ?side1 ?side2 A13.out).mono ?_); (case side1 => exact HO_3.out); (case side2 => exact Kd.V_mk HC209_3.out (Kd.F_below (Kd.C_F k24_heap HR209_3.out) (by repeat (first | (with_reducible first | exact HB.out | apply qL | apply qJ | apply qK | refine qI ?_ GE210.out) | exact HB.out)))); rintro e w30 ⟨v214, rfl, ho0, hb⟩; refine ⟨_, rfl, ?_⟩; have n0_ := qH (Kd.V_below (by (with_reducible repeat (first | apply Kd.V_alloc | apply Kd.V_drewN | apply Kd.V_drew)); exact HO_3.out) hb); have n1_ := qH (Kd.V_lower (Kd.V_mono (ok' := fun k_ => k_ ≠ gb210) ho0 (fun k_ hk_ => Or.elim hk_ (fun hs_ => Or.elim hs_ (fun hs_ => hs_) (fun hs_ => fun e_ => Nat.not_le.2 hs_ (by rw [e_]; exact GW210.out))) (fun hn_ => (Kd.freshB (g := gb210) (by (with_reducible repeat first | apply qA | apply qC | apply qB); exact BK210.out) k_ hn_)))) (below_size (by repeat (first | (with_reducible first | exact HB.out | apply qL | apply qJ | apply qK | refine qI ?_ GE210.out) | exact HB.out)))); have n2_ := qH (qD (g := gb210) (by (with_reducible repeat first | apply qA | apply qC | apply qB); exact BK210.out) hb); have n3_ := qH (below_step (by repeat (first | (with_reducible first | exact HB.out | apply qL | apply qJ | apply qK | refine qI ?_ GE210.out) | exact HB.out)) hb); clear HO_3; clear BK210; clear HB; have HO_3 := n0_; have HO215 := n1_; have BK210 := n2_; have HB := n3_; clear n0_ n1_ n2_ n3_; (try clear hb); (try clear hb2); (try clear hk); (try clear hi); (try clear ho0); obtain ⟨Ao31, co31, eo31⟩ := Kd.V_slice HO215.out; subst eo31) | ((with_reducible refine gate_callee (f := 13) rfl ?_); refine goesL_ (some 76) rfl rfl Try.func13 (by kernel_rfl) rfl #[.slice Ao31 t213.length co31] rfl (by (try simp only [List.map_toArray, List.map_cons, List.map_nil]); first | done | rfl | (simp only [List.length_drop, List.length_take]; rfl)) ?_; (with_reducible refine (graph_May.calls _ _ t213 t217 _ ?side1 ?side2 A15.out).mono ?_); (case side1 => repeat (first | exact (Kd.V_reads' HO215.out).2.2 | (with_reducible refine Kd.C_alloc ?_ _) | (with_reducible refine Kd.C_drewN ?_ _) | (with_reducible refine Kd.C_drew ?_))); (case side2 => exact (Kd.V_reads' HO215.out).2.1); rintro e w32 ⟨rfl, hb⟩; refine ⟨_, rfl, ?_⟩; have n0_ := qH (Kd.V_below (by (with_reducible repeat (first | apply Kd.V_alloc | apply Kd.V_drewN | apply Kd.V_drew)); exact HO_3.out) hb); have n1_ := qH (Kd.V_below (by (with_reducible repeat (first | apply Kd.V_alloc | apply Kd.V_drewN | apply Kd.V_drew)); exact HO215.out) hb); have n2_ := qH (qD (g := gb210) (by (with_reducible repeat first | apply qA | apply qC | apply qB); exact BK210.out) hb); have n3_ := qH (below_step (by repeat (first | (with_reducible first | exact HB.out | apply qL | apply qJ | apply qK | refine qI ?_ GE210.out) | exact HB.out)) hb); clear HO_3; clear HO215; clear BK210; clear HB; have HO_3 := n0_; have HO215 := n1_; have BK210 := n2_; have HB := n3_; clear n0_ n1_ n2_ n3_; (try clear hb); (try clear hb2); (try clear hk); (try clear hi)))
          go_ret
          exact ⟨by first | rfl | (simp [errW_none, errW_some] <;> rfl) | (simp [*, errW_none, errW_some] <;> rfl), by repeat (first | (with_reducible first | exact HB.out | apply qL | apply qJ | apply qK | refine qI ?_ GE210.out) | exact HB.out)⟩
        ·rw [if_neg c14] at H
         have c14b0 : (t216 == 0) = false := beq_eq_false_iff_ne.mpr c14
         have c14b1 : (t216 != 0) = true := bne_iff_ne.mpr c14
         replace H := Option.bind_eq_some_iff.mp H
         obtain ⟨t218, A330, H⟩ := H
         (try dsimp only at H)
         have A33 := qH A330
         clear A330
         by_cases c34 : t218 = 0
         ·rw [if_pos c34] at H
          have c34b0 : (t218 == 0) = true := beq_iff_eq.mpr c34
          have c34b1 : (t218 != 0) = false := bne_eq_false_iff_eq.mpr c34
          clear c34
          have H' := qH H
          clear H
          have p209 : 0 ≤ (x4_1 : Int) := of_decide_eq_true (by first | (with_reducible assumption) | assumption)
          have q209 : x4_1 < (l0.length : Int) := of_decide_eq_true (by first | (with_reducible assumption) | assumption)
          obtain ⟨ad209, A209_3, c209_3, e209, hx209_0, hx209_1, hx209_2, hx209_3, hl209_3, hi209_3⟩ := at_T52 HR0.out x4_1 p209 q209
          cases e209
          replace hx209_0 := (HB.out.cell (qO w _ hx209_0)).trans hx209_0
          replace hx209_1 := (HB.out.cell (qO w _ hx209_1)).trans hx209_1
          replace hx209_2 := (HB.out.cell (qO w _ hx209_2)).trans hx209_2
          replace hx209_3 := (HB.out.cell (qO w _ hx209_3)).trans hx209_3
          have HR209_3 := qH hi209_3
          have HC209_3 := qH hl209_3
          clear hi209_3 hl209_3
          replace p209 := eq_true p209
          replace q209 := eq_true q209
          go_wp2_with (first | ((with_reducible refine gate_dst (N := 5) rfl ?_); (try (refine gate_guard (by rfl) ?_; dsimp only)); refine box_event ?hg (N := 5) ?hd (cs := #[.string (⟨#[]⟩ : ByteArray), .int .i64 0, .slice none 0 0]) (t := 40) ?hr ?_; (case hd => rfl); (case hg => rfl); (case hr => first | (go_simp; done) | (go_simp; rfl) | (go_simp; simp [IntKind.wrap_u32]; done)); intro gb210 hg w35 hbox hb; have n0_ := qH (Kd.V_below (Kd.V_elderB (by (with_reducible repeat (first | apply Kd.V_alloc | apply Kd.V_drewN | apply Kd.V_drew)); exact HO_3.out) gb210 (Nat.le_of_eq hg.symm)) hb); have n1_ := qH (below_step (by repeat (first | (with_reducible first | exact HB.out | apply qL | apply qJ | apply qK) | exact HB.out)) hb); have n2_ := qH (hbox); have n3_ := qH ((by rw [hg]; exact (below_size (by repeat (first | (with_reducible first | exact HB.out | apply qL | apply qJ | apply qK) | exact HB.out))) : w.heap.size ≤ gb210)); have n4_ := n3_; clear HO_3; clear HB; have HO_3 := n0_; have HB := n1_; have BK210 := n2_; have GW210 := n3_; have GE210 := n4_; clear n0_ n1_ n2_ n3_ n4_; clear hb hbox hg; obtain ⟨hcz36_0, hcz36_1, hcz36_2⟩ := qc3 BK210.out; obtain ⟨hfz36_0, hfz36_1, hfz36_2⟩ := qf3 BK210.out) | ((with_reducible refine gate_store (t := 40) (p := 5) rfl ?_); refine store_event (t := 40) (p := 5) (v := ?vo_w37) (w1 := (((w35.setCell ⟨gb210, 0, none⟩ (.string ((rd_T52 l0 x4_1).f1.f0.f0))).setCell ⟨gb210, 1, none⟩ (.int .i64 ((rd_T52 l0 x4_1).f1.f0.f1))).setCell ⟨gb210, 2, none⟩ (.slice A209_3 ((rd_T52 l0 x4_1).f1.f1).length c209_3))) ?hg ?ho ?hn ?hr ?_; (case ho => rfl); (case hg => rfl); (case hn => rfl); (case hr => first | (go_simp; done) | (go_simp; rfl) | (go_simp; simp [IntKind.wrap_u32]; done)); intro w37 hw; have n0_ : Aside0 (Kd.V k40 40 w37 w.heap.size (fun k_ => k_ ≠ gb210) u3 x3_1) := ⟨(by rw [hw]; exact (by (with_reducible repeat (first | apply Kd.V_alloc | apply Kd.V_drewN | apply Kd.V_drew)); exact Kd.V_mono (Kd.V_far (p := ⟨gb210, 2, none⟩) (Kd.V_far (p := ⟨gb210, 1, none⟩) (Kd.V_far (p := ⟨gb210, 0, none⟩) (Kd.V_mono HO_3.out (fun k_ hk => (⟨hk, hk.2⟩ : _ ∧ k_ ≠ gb210))) (fun _ hk => hk.2) (.string ((rd_T52 l0 x4_1).f1.f0.f0))) (fun _ hk => hk.2) (.int .i64 ((rd_T52 l0 x4_1).f1.f0.f1))) (fun _ hk => hk.2) (.slice A209_3 ((rd_T52 l0 x4_1).f1.f1).length c209_3)) (fun _ hk => hk.1.2)))⟩; have n1_ : Aside0 (w37.heap[gb210]? = some (.cells #[.string ((rd_T52 l0 x4_1).f1.f0.f0), .int .i64 ((rd_T52 l0 x4_1).f1.f0.f1), .slice A209_3 ((rd_T52 l0 x4_1).f1.f1).length c209_3] 40 (0, 0))) := ⟨(by rw [hw]; exact (by (with_reducible repeat first | apply qA | apply qC | apply qB); refine blk_put (cs := #[.string ((rd_T52 l0 x4_1).f1.f0.f0), .int .i64 ((rd_T52 l0 x4_1).f1.f0.f1), .slice none 0 0]) ?_ 2 _ rfl; (with_reducible repeat first | apply qA | apply qC | apply qB); refine blk_put (cs := #[.string ((rd_T52 l0 x4_1).f1.f0.f0), .int .i64 0, .slice none 0 0]) ?_ 1 _ rfl; (with_reducible repeat first | apply qA | apply qC | apply qB); refine blk_put (cs := #[.string (⟨#[]⟩ : ByteArray), .int .i64 0, .slice none 0 0]) ?_ 0 _ rfl; (with_reducible repeat first | apply qA | apply qC | apply qB); exact BK210.out))⟩; have n2_ : Aside0 (Below w.heap.size w w37) := ⟨(by rw [hw]; exact (by repeat (first | (with_reducible first | exact HB.out | apply qL | apply qJ | apply qK | refine qI ?_ GE210.out) | exact HB.out)))⟩; clear hw; clear HO_3; clear BK210; clear HB; have HO_3 := n0_; have BK210 := n1_; have HB := n2_; clear n0_ n1_ n2_; obtain ⟨hcz38_0, hcz38_1, hcz38_2⟩ := qc3 BK210.out; obtain ⟨hfz38_0, hfz38_1, hfz38_2⟩ := qf3 BK210.out; have p212 : 0 ≤ (x4_1 : Int) := of_decide_eq_true (by first | (with_reducible assumption) | assumption); have q212 : x4_1 < (l0.length : Int) := of_decide_eq_true (by first | (with_reducible assumption) | assumption); obtain ⟨ad212, A212_3, c212_3, e212, hx212_0, hx212_1, hx212_2, hx212_3, hl212_3, hi212_3⟩ := at_T52 HR0.out x4_1 p212 q212; obtain rfl : ad209 = ad212 := (by injection e212); replace hx212_0 := (HB.out.cell (qO w _ hx212_0)).trans hx212_0; replace hx212_1 := (HB.out.cell (qO w _ hx212_1)).trans hx212_1; replace hx212_2 := (HB.out.cell (qO w _ hx212_2)).trans hx212_2; replace hx212_3 := (HB.out.cell (qO w _ hx212_3)).trans hx212_3; have HR212_3 := qH hi212_3; have HC212_3 := qH hl212_3; clear hi212_3 hl212_3; replace p212 := eq_true p212; replace q212 := eq_true q212; obtain ⟨Ao39, co39, eo39⟩ := Kd.V_slice HO_3.out; subst eo39) | ((with_reducible refine gate_callee (f := 19) rfl ?_); refine goesL_ (some 48) rfl rfl Try.func19 (by kernel_rfl) rfl #[.slice Ao39 x3_1.length co39, .agg #[.string ((rd_T52 l0 x4_1).f1.f0.f0), .int .i64 ((rd_T52 l0 x4_1).f1.f0.f1), .slice A209_3 ((rd_T52 l0 x4_1).f1.f1).length c209_3]] rfl (by (try simp only [List.map_toArray, List.map_cons, List.map_nil]); first | done | rfl | (simp only [List.length_drop, List.length_take]; rfl)) ?_; (with_reducible refine (graph_Add.calls (fun k_ => k_ ≠ gb210) _ _ x3_1 ((rd_T52 l0 x4_1).f1.f0.f0) ((rd_T52 l0 x4_1).f1.f0.f1) (fun k_ => k_ < w.heap.size) _ _ ((rd_T52 l0 x4_1).f1.f1) t213 t216 _ ?side1 ?side2 A13.out).mono ?_); (case side1 => exact HO_3.out); (case side2 => exact Kd.V_mk HC209_3.out (Kd.F_below (Kd.C_F k24_heap HR209_3.out) (by repeat (first | (with_reducible first | exact HB.out | apply qL | apply qJ | apply qK | refine qI ?_ GE210.out) | exact HB.out)))); rintro e w40 ⟨v214, rfl, ho0, hb⟩; refine ⟨_, rfl, ?_⟩; have n0_ := qH (Kd.V_below (by (with_reducible repeat (first | apply Kd.V_alloc | apply Kd.V_drewN | apply Kd.V_drew)); exact HO_3.out) hb); have n1_ := qH (Kd.V_lower (Kd.V_mono (ok' := fun k_ => k_ ≠ gb210) ho0 (fun k_ hk_ => Or.elim hk_ (fun hs_ => Or.elim hs_ (fun hs_ => hs_) (fun hs_ => fun e_ => Nat.not_le.2 hs_ (by rw [e_]; exact GW210.out))) (fun hn_ => (Kd.freshB (g := gb210) (by (with_reducible repeat first | apply qA | apply qC | apply qB); exact BK210.out) k_ hn_)))) (below_size (by repeat (first | (with_reducible first | exact HB.out | apply qL | apply qJ | apply qK | refine qI ?_ GE210.out) | exact HB.out)))); have n2_ := qH (qD (g := gb210) (by (with_reducible repeat first | apply qA | apply qC | apply qB); exact BK210.out) hb); have n3_ := qH (below_step (by repeat (first | (with_reducible first | exact HB.out | apply qL | apply qJ | apply qK | refine qI ?_ GE210.out) | exact HB.out)) hb); clear HO_3; clear BK210; clear HB; have HO_3 := n0_; have HO215 := n1_; have BK210 := n2_; have HB := n3_; clear n0_ n1_ n2_ n3_; (try clear hb); (try clear hb2); (try clear hk); (try clear hi); (try clear ho0)) | ((with_reducible refine gate_callee (f := 13) rfl ?_); refine goesL_ (some 76) rfl rfl Try.func13 (by kernel_rfl) rfl #[.slice Ao39 x3_1.length co39] rfl (by (try simp only [List.map_toArray, List.map_cons, List.map_nil]); first | done | rfl | (simp only [List.length_drop, List.length_take]; rfl)) ?_; (with_reducible refine (graph_May.calls _ _ x3_1 t218 _ ?side1 ?side2 A33.out).mono ?_); (case side1 => repeat (first | exact (Kd.V_reads' HO_3.out).2.2 | (with_reducible refine Kd.C_alloc ?_ _) | (with_reducible refine Kd.C_drewN ?_ _) | (with_reducible refine Kd.C_drew ?_))); (case side2 => exact (Kd.V_reads' HO_3.out).2.1); rintro e w41 ⟨rfl, hb⟩; refine ⟨_, rfl, ?_⟩; have n0_ := qH (Kd.V_below (by (with_reducible repeat (first | apply Kd.V_alloc | apply Kd.V_drewN | apply Kd.V_drew)); exact HO_3.out) hb); have n1_ := qH (Kd.V_below (by (with_reducible repeat (first | apply Kd.V_alloc | apply Kd.V_drewN | apply Kd.V_drew)); exact HO215.out) hb); have n2_ := qH (qD (g := gb210) (by (with_reducible repeat first | apply qA | apply qC | apply qB); exact BK210.out) hb); have n3_ := qH (below_step (by repeat (first | (with_reducible first | exact HB.out | apply qL | apply qJ | apply qK | refine qI ?_ GE210.out) | exact HB.out)) hb); clear HO_3; clear HO215; clear BK210; clear HB; have HO_3 := n0_; have HO215 := n1_; have BK210 := n2_; have HB := n3_; clear n0_ n1_ n2_ n3_; (try clear hb); (try clear hb2); (try clear hk); (try clear hi)))
          go_roundg k1
          case measure => have := HK1.out; omega
          case rel => exact ⟨(x3_1), (wrap64 (x4_1 + 1)), (by first | rfl | (simp; done) | (simp; exact qEmp _) | (simp [*]; done)), H', ⟨by have := HK1.out; omega⟩, ⟨by (with_reducible repeat (first | apply Kd.V_alloc | apply Kd.V_drewN | apply Kd.V_drew)); exact Kd.V_mono HO_3.out (fun _ hk => trivial)⟩, ⟨by repeat (first | (with_reducible first | exact HB.out | apply qL | apply qJ | apply qK | refine qI ?_ GE210.out) | exact HB.out)⟩⟩
         ·rw [if_neg c34] at H
          have c34b0 : (t218 == 0) = false := beq_eq_false_iff_ne.mpr c34
          have c34b1 : (t218 != 0) = true := bne_iff_ne.mpr c34
          obtain rfl := Option.some.inj H
          simp only [Option.some.injEq, Prod.mk.injEq] at H
          obtain ⟨rfl⟩ := H
          have p209 : 0 ≤ (x4_1 : Int) := of_decide_eq_true (by first | (with_reducible assumption) | assumption)
          have q209 : x4_1 < (l0.length : Int) := of_decide_eq_true (by first | (with_reducible assumption) | assumption)
          obtain ⟨ad209, A209_3, c209_3, e209, hx209_0, hx209_1, hx209_2, hx209_3, hl209_3, hi209_3⟩ := at_T52 HR0.out x4_1 p209 q209
          cases e209
          replace hx209_0 := (HB.out.cell (qO w _ hx209_0)).trans hx209_0
          replace hx209_1 := (HB.out.cell (qO w _ hx209_1)).trans hx209_1
          replace hx209_2 := (HB.out.cell (qO w _ hx209_2)).trans hx209_2
          replace hx209_3 := (HB.out.cell (qO w _ hx209_3)).trans hx209_3
          have HR209_3 := qH hi209_3
          have HC209_3 := qH hl209_3
          clear hi209_3 hl209_3
          replace p209 := eq_true p209
          replace q209 := eq_true q209
          go_wp2_with (first | ((with_reducible refine gate_dst (N := 5) rfl ?_); (try (refine gate_guard (by rfl) ?_; dsimp only)); refine box_event ?hg (N := 5) ?hd (cs := #[.string (⟨#[]⟩ : ByteArray), .int .i64 0, .slice none 0 0]) (t := 40) ?hr ?_; (case hd => rfl); (case hg => rfl); (case hr => first | (go_simp; done) | (go_simp; rfl) | (go_simp; simp [IntKind.wrap_u32]; done)); intro gb210 hg w42 hbox hb; have n0_ := qH (Kd.V_below (Kd.V_elderB (by (with_reducible repeat (first | apply Kd.V_alloc | apply Kd.V_drewN | apply Kd.V_drew)); exact HO_3.out) gb210 (Nat.le_of_eq hg.symm)) hb); have n1_ := qH (below_step (by repeat (first | (with_reducible first | exact HB.out | apply qL | apply qJ | apply qK) | exact HB.out)) hb); have n2_ := qH (hbox); have n3_ := qH ((by rw [hg]; exact (below_size (by repeat (first | (with_reducible first | exact HB.out | apply qL | apply qJ | apply qK) | exact HB.out))) : w.heap.size ≤ gb210)); have n4_ := n3_; clear HO_3; clear HB; have HO_3 := n0_; have HB := n1_; have BK210 := n2_; have GW210 := n3_; have GE210 := n4_; clear n0_ n1_ n2_ n3_ n4_; clear hb hbox hg; obtain ⟨hcz43_0, hcz43_1, hcz43_2⟩ := qc3 BK210.out; obtain ⟨hfz43_0, hfz43_1, hfz43_2⟩ := qf3 BK210.out) | ((with_reducible refine gate_store (t := 40) (p := 5) rfl ?_); refine store_event (t := 40) (p := 5) (v := ?vo_w44) (w1 := (((w42.setCell ⟨gb210, 0, none⟩ (.string ((rd_T52 l0 x4_1).f1.f0.f0))).setCell ⟨gb210, 1, none⟩ (.int .i64 ((rd_T52 l0 x4_1).f1.f0.f1))).setCell ⟨gb210, 2, none⟩ (.slice A209_3 ((rd_T52 l0 x4_1).f1.f1).length c209_3))) ?hg ?ho ?hn ?hr ?_; (case ho => rfl); (case hg => rfl); (case hn => rfl); (case hr => first | (go_simp; done) | (go_simp; rfl) | (go_simp; simp [IntKind.wrap_u32]; done)); intro w44 hw; have n0_ : Aside0 (Kd.V k40 40 w44 w.heap.size (fun k_ => k_ ≠ gb210) u3 x3_1) := ⟨(by rw [hw]; exact (by (with_reducible repeat (first | apply Kd.V_alloc | apply Kd.V_drewN | apply Kd.V_drew)); exact Kd.V_mono (Kd.V_far (p := ⟨gb210, 2, none⟩) (Kd.V_far (p := ⟨gb210, 1, none⟩) (Kd.V_far (p := ⟨gb210, 0, none⟩) (Kd.V_mono HO_3.out (fun k_ hk => (⟨hk, hk.2⟩ : _ ∧ k_ ≠ gb210))) (fun _ hk => hk.2) (.string ((rd_T52 l0 x4_1).f1.f0.f0))) (fun _ hk => hk.2) (.int .i64 ((rd_T52 l0 x4_1).f1.f0.f1))) (fun _ hk => hk.2) (.slice A209_3 ((rd_T52 l0 x4_1).f1.f1).length c209_3)) (fun _ hk => hk.1.2)))⟩; have n1_ : Aside0 (w44.heap[gb210]? = some (.cells #[.string ((rd_T52 l0 x4_1).f1.f0.f0), .int .i64 ((rd_T52 l0 x4_1).f1.f0.f1), .slice A209_3 ((rd_T52 l0 x4_1).f1.f1).length c209_3] 40 (0, 0))) := ⟨(by rw [hw]; exact (by (with_reducible repeat first | apply qA | apply qC | apply qB); refine blk_put (cs := #[.string ((rd_T52 l0 x4_1).f1.f0.f0), .int .i64 ((rd_T52 l0 x4_1).f1.f0.f1), .slice none 0 0]) ?_ 2 _ rfl; (with_reducible repeat first | apply qA | apply qC | apply qB); refine blk_put (cs := #[.string ((rd_T52 l0 x4_1).f1.f0.f0), .int .i64 0, .slice none 0 0]) ?_ 1 _ rfl; (with_reducible repeat first | apply qA | apply qC | apply qB); refine blk_put (cs := #[.string (⟨#[]⟩ : ByteArray), .int .i64 0, .slice none 0 0]) ?_ 0 _ rfl; (with_reducible repeat first | apply qA | apply qC | apply qB); exact BK210.out))⟩; have n2_ : Aside0 (Below w.heap.size w w44) := ⟨(by rw [hw]; exact (by repeat (first | (with_reducible first | exact HB.out | apply qL | apply qJ | apply qK | refine qI ?_ GE210.out) | exact HB.out)))⟩; clear hw; clear HO_3; clear BK210; clear HB; have HO_3 := n0_; have BK210 := n1_; have HB := n2_; clear n0_ n1_ n2_; obtain ⟨hcz45_0, hcz45_1, hcz45_2⟩ := qc3 BK210.out; obtain ⟨hfz45_0, hfz45_1, hfz45_2⟩ := qf3 BK210.out; have p212 : 0 ≤ (x4_1 : Int) := of_decide_eq_true (by first | (with_reducible assumption) | assumption); have q212 : x4_1 < (l0.length : Int) := of_decide_eq_true (by first | (with_reducible assumption) | assumption); obtain ⟨ad212, A212_3, c212_3, e212, hx212_0, hx212_1, hx212_2, hx212_3, hl212_3, hi212_3⟩ := at_T52 HR0.out x4_1 p212 q212; obtain rfl : ad209 = ad212 := (by injection e212); replace hx212_0 := (HB.out.cell (qO w _ hx212_0)).trans hx212_0; replace hx212_1 := (HB.out.cell (qO w _ hx212_1)).trans hx212_1; replace hx212_2 := (HB.out.cell (qO w _ hx212_2)).trans hx212_2; replace hx212_3 := (HB.out.cell (qO w _ hx212_3)).trans hx212_3; have HR212_3 := qH hi212_3; have HC212_3 := qH hl212_3; clear hi212_3 hl212_3; replace p212 := eq_true p212; replace q212 := eq_true q212; obtain ⟨Ao46, co46, eo46⟩ := Kd.V_slice HO_3.out; subst eo46) | ((with_reducible refine gate_callee (f := 19) rfl ?_); refine goesL_ (some 48) rfl rfl Try.func19 (by kernel_rfl) rfl #[.slice Ao46 x3_1.length co46, .agg #[.string ((rd_T52 l0 x4_1).f1.f0.f0), .int .i64 ((rd_T52 l0 x4_1).f1.f0.f1), .slice A209_3 ((rd_T52 l0 x4_1).f1.f1).length c209_3]] rfl (by (try simp only [List.map_toArray, List.map_cons, List.map_nil]); first | done | rfl | (simp only [List.length_drop, List.length_take]; rfl)) ?_; (with_reducible refine (graph_Add.calls (fun k_ => k_ ≠ gb210) _ _ x3_1 ((rd_T52 l0 x4_1).f1.f0.f0) ((rd_T52 l0 x4_1).f1.f0.f1) (fun k_ => k_ < w.heap.size) _ _ ((rd_T52 l0 x4_1).f1.f1) t213 t216 _ ?side1 ?side2 A13.out).mono ?_); (case side1 => exact HO_3.out); (case side2 => exact Kd.V_mk HC209_3.out (Kd.F_below (Kd.C_F k24_heap HR209_3.out) (by repeat (first | (with_reducible first | exact HB.out | apply qL | apply qJ | apply qK | refine qI ?_ GE210.out) | exact HB.out)))); rintro e w47 ⟨v214, rfl, ho0, hb⟩; refine ⟨_, rfl, ?_⟩; have n0_ := qH (Kd.V_below (by (with_reducible repeat (first | apply Kd.V_alloc | apply Kd.V_drewN | apply Kd.V_drew)); exact HO_3.out) hb); have n1_ := qH (Kd.V_lower (Kd.V_mono (ok' := fun k_ => k_ ≠ gb210) ho0 (fun k_ hk_ => Or.elim hk_ (fun hs_ => Or.elim hs_ (fun hs_ => hs_) (fun hs_ => fun e_ => Nat.not_le.2 hs_ (by rw [e_]; exact GW210.out))) (fun hn_ => (Kd.freshB (g := gb210) (by (with_reducible repeat first | apply qA | apply qC | apply qB); exact BK210.out) k_ hn_)))) (below_size (by repeat (first | (with_reducible first | exact HB.out | apply qL | apply qJ | apply qK | refine qI ?_ GE210.out) | exact HB.out)))); have n2_ := qH (qD (g := gb210) (by (with_reducible repeat first | apply qA | apply qC | apply qB); exact BK210.out) hb); have n3_ := qH (below_step (by repeat (first | (with_reducible first | exact HB.out | apply qL | apply qJ | apply qK | refine qI ?_ GE210.out) | exact HB.out)) hb); clear HO_3; clear BK210; clear HB; have HO_3 := n0_; have HO215 := n1_; have BK210 := n2_; have HB := n3_; clear n0_ n1_ n2_ n3_; (try clear hb); (try clear hb2); (try clear hk); (try clear hi); (try clear ho0)) | ((with_reducible refine gate_callee (f := 13) rfl ?_); refine goesL_ (some 76) rfl rfl Try.func13 (by kernel_rfl) rfl #[.slice Ao46 x3_1.length co46] rfl (by (try simp only [List.map_toArray, List.map_cons, List.map_nil]); first | done | rfl | (simp only [List.length_drop, List.length_take]; rfl)) ?_; (with_reducible refine (graph_May.calls _ _ x3_1 t218 _ ?side1 ?side2 A33.out).mono ?_); (case side1 => repeat (first | exact (Kd.V_reads' HO_3.out).2.2 | (with_reducible refine Kd.C_alloc ?_ _) | (with_reducible refine Kd.C_drewN ?_ _) | (with_reducible refine Kd.C_drew ?_))); (case side2 => exact (Kd.V_reads' HO_3.out).2.1); rintro e w48 ⟨rfl, hb⟩; refine ⟨_, rfl, ?_⟩; have n0_ := qH (Kd.V_below (by (with_reducible repeat (first | apply Kd.V_alloc | apply Kd.V_drewN | apply Kd.V_drew)); exact HO_3.out) hb); have n1_ := qH (Kd.V_below (by (with_reducible repeat (first | apply Kd.V_alloc | apply Kd.V_drewN | apply Kd.V_drew)); exact HO215.out) hb); have n2_ := qH (qD (g := gb210) (by (with_reducible repeat first | apply qA | apply qC | apply qB); exact BK210.out) hb); have n3_ := qH (below_step (by repeat (first | (with_reducible first | exact HB.out | apply qL | apply qJ | apply qK | refine qI ?_ GE210.out) | exact HB.out)) hb); clear HO_3; clear HO215; clear BK210; clear HB; have HO_3 := n0_; have HO215 := n1_; have BK210 := n2_; have HB := n3_; clear n0_ n1_ n2_ n3_; (try clear hb); (try clear hb2); (try clear hk); (try clear hi)))
          go_ret
          exact ⟨by first | rfl | (simp [errW_none, errW_some] <;> rfl) | (simp [*, errW_none, errW_some] <;> rfl), by repeat (first | (with_reducible first | exact HB.out | apply qL | apply qJ | apply qK | refine qI ?_ GE210.out) | exact HB.out)⟩
       ·rw [if_neg c12] at H
        have c12b0 : decide ((Int.tmod ((rd_T52 l0 x4_1).f0) 3) < 2) = false := decide_eq_false c12
        clear c12
        replace H := Option.bind_eq_some_iff.mp H
        obtain ⟨t219, A490, H⟩ := H
        (try dsimp only at H)
        have A49 := qH A490
        clear A490
        replace H := Option.bind_eq_some_iff.mp H
        obtain ⟨⟨t222, t225⟩, A500, H⟩ := H
        (try dsimp only at H)
        have A50 := qH A500
        clear A500
        have HC51 := qH H
        clear H
        have p209 : 0 ≤ (x4_1 : Int) := of_decide_eq_true (by first | (with_reducible assumption) | assumption)
        have q209 : x4_1 < (l0.length : Int) := of_decide_eq_true (by first | (with_reducible assumption) | assumption)
        obtain ⟨ad209, A209_3, c209_3, e209, hx209_0, hx209_1, hx209_2, hx209_3, hl209_3, hi209_3⟩ := at_T52 HR0.out x4_1 p209 q209
        cases e209
        replace hx209_0 := (HB.out.cell (qO w _ hx209_0)).trans hx209_0
        replace hx209_1 := (HB.out.cell (qO w _ hx209_1)).trans hx209_1
        replace hx209_2 := (HB.out.cell (qO w _ hx209_2)).trans hx209_2
        replace hx209_3 := (HB.out.cell (qO w _ hx209_3)).trans hx209_3
        have HR209_3 := qH hi209_3
        have HC209_3 := qH hl209_3
        clear hi209_3 hl209_3
        replace p209 := eq_true p209
        replace q209 := eq_true q209
        go_upto_region 16 with (first | ((with_reducible refine gate_dst (N := 5) rfl ?_); (try (refine gate_guard (by rfl) ?_; dsimp only)); refine box_event ?hg (N := 5) ?hd (cs := #[.string (⟨#[]⟩ : ByteArray), .int .i64 0, .slice none 0 0]) (t := 40) ?hr ?_; (case hd => rfl); (case hg => rfl); (case hr => first | (go_simp; done) | (go_simp; rfl) | (go_simp; simp [IntKind.wrap_u32]; done)); intro gb210 hg w52 hbox hb; have n0_ := qH (Kd.V_below (Kd.V_elderB (by (with_reducible repeat (first | apply Kd.V_alloc | apply Kd.V_drewN | apply Kd.V_drew)); exact HO_3.out) gb210 (Nat.le_of_eq hg.symm)) hb); have n1_ := qH (below_step (by repeat (first | (with_reducible first | exact HB.out | apply qL | apply qJ | apply qK) | exact HB.out)) hb); have n2_ := qH (hbox); have n3_ := qH ((by rw [hg]; exact (below_size (by repeat (first | (with_reducible first | exact HB.out | apply qL | apply qJ | apply qK) | exact HB.out))) : w.heap.size ≤ gb210)); have n4_ := n3_; clear HO_3; clear HB; have HO_3 := n0_; have HB := n1_; have BK210 := n2_; have GW210 := n3_; have GE210 := n4_; clear n0_ n1_ n2_ n3_ n4_; clear hb hbox hg; obtain ⟨hcz53_0, hcz53_1, hcz53_2⟩ := qc3 BK210.out; obtain ⟨hfz53_0, hfz53_1, hfz53_2⟩ := qf3 BK210.out; have p212 : 0 ≤ (x4_1 : Int) := of_decide_eq_true (by first | (with_reducible assumption) | assumption); have q212 : x4_1 < (l0.length : Int) := of_decide_eq_true (by first | (with_reducible assumption) | assumption); obtain ⟨ad212, A212_3, c212_3, e212, hx212_0, hx212_1, hx212_2, hx212_3, hl212_3, hi212_3⟩ := at_T52 HR0.out x4_1 p212 q212; obtain rfl : ad209 = ad212 := (by injection e212); have hn212_0 : ad209.block ≠ gb210 := qN (qM (by have := qO _ _ hx212_0; first | rwa [qP] at this | exact this) GW210.out); have hn212_1 : ad209.block ≠ gb210 := qN (qM (by have := qO _ _ hx212_0; first | rwa [qP] at this | exact this) GW210.out); have hn212_2 : ad209.block ≠ gb210 := qN (qM (by have := qO _ _ hx212_0; first | rwa [qP] at this | exact this) GW210.out); replace hx212_0 := (HB.out.cell (qO w _ hx212_0)).trans hx212_0; replace hx212_1 := (HB.out.cell (qO w _ hx212_1)).trans hx212_1; replace hx212_2 := (HB.out.cell (qO w _ hx212_2)).trans hx212_2; replace hx212_3 := (HB.out.cell (qO w _ hx212_3)).trans hx212_3; have HR212_3 := qH hi212_3; have HC212_3 := qH hl212_3; clear hi212_3 hl212_3; replace hx212_0 := (cell_far (p := ⟨gb210, 0, none⟩) (by first | (rw [qP]; exact hn212_0) | (show (Addr.add _ _).block ≠ _; rw [qP]; exact hn212_0) | exact hn212_0) (.string ((rd_T52 l0 x4_1).f1.f0.f0))).trans hx212_0; replace hx212_1 := (cell_far (p := ⟨gb210, 0, none⟩) (by first | (rw [qP]; exact hn212_0) | (show (Addr.add _ _).block ≠ _; rw [qP]; exact hn212_0) | exact hn212_0) (.string ((rd_T52 l0 x4_1).f1.f0.f0))).trans hx212_1; replace hx212_2 := (cell_far (p := ⟨gb210, 0, none⟩) (by first | (rw [qP]; exact hn212_0) | (show (Addr.add _ _).block ≠ _; rw [qP]; exact hn212_0) | exact hn212_0) (.string ((rd_T52 l0 x4_1).f1.f0.f0))).trans hx212_2; replace hx212_3 := (cell_far (p := ⟨gb210, 0, none⟩) (by first | (rw [qP]; exact hn212_0) | (show (Addr.add _ _).block ≠ _; rw [qP]; exact hn212_0) | exact hn212_0) (.string ((rd_T52 l0 x4_1).f1.f0.f0))).trans hx212_3; replace hx212_0 := (cell_far (p := ⟨gb210, 1, none⟩) (by first | (rw [qP]; exact hn212_1) | (show (Addr.add _ _).block ≠ _; rw [qP]; exact hn212_1) | exact hn212_1) (.int .i64 ((rd_T52 l0 x4_1).f1.f0.f1))).trans hx212_0; replace hx212_1 := (cell_far (p := ⟨gb210, 1, none⟩) (by first | (rw [qP]; exact hn212_1) | (show (Addr.add _ _).block ≠ _; rw [qP]; exact hn212_1) | exact hn212_1) (.int .i64 ((rd_T52 l0 x4_1).f1.f0.f1))).trans hx212_1; replace hx212_2 := (cell_far (p := ⟨gb210, 1, none⟩) (by first | (rw [qP]; exact hn212_1) | (show (Addr.add _ _).block ≠ _; rw [qP]; exact hn212_1) | exact hn212_1) (.int .i64 ((rd_T52 l0 x4_1).f1.f0.f1))).trans hx212_2; replace hx212_3 := (cell_far (p := ⟨gb210, 1, none⟩) (by first | (rw [qP]; exact hn212_1) | (show (Addr.add _ _).block ≠ _; rw [qP]; exact hn212_1) | exact hn212_1) (.int .i64 ((rd_T52 l0 x4_1).f1.f0.f1))).trans hx212_3; replace hx212_0 := (cell_far (p := ⟨gb210, 2, none⟩) (by first | (rw [qP]; exact hn212_2) | (show (Addr.add _ _).block ≠ _; rw [qP]; exact hn212_2) | exact hn212_2) (.slice A209_3 ((rd_T52 l0 x4_1).f1.f1).length c209_3)).trans hx212_0; replace hx212_1 := (cell_far (p := ⟨gb210, 2, none⟩) (by first | (rw [qP]; exact hn212_2) | (show (Addr.add _ _).block ≠ _; rw [qP]; exact hn212_2) | exact hn212_2) (.slice A209_3 ((rd_T52 l0 x4_1).f1.f1).length c209_3)).trans hx212_1; replace hx212_2 := (cell_far (p := ⟨gb210, 2, none⟩) (by first | (rw [qP]; exact hn212_2) | (show (Addr.add _ _).block ≠ _; rw [qP]; exact hn212_2) | exact hn212_2) (.slice A209_3 ((rd_T52 l0 x4_1).f1.f1).length c209_3)).trans hx212_2; replace hx212_3 := (cell_far (p := ⟨gb210, 2, none⟩) (by first | (rw [qP]; exact hn212_2) | (show (Addr.add _ _).block ≠ _; rw [qP]; exact hn212_2) | exact hn212_2) (.slice A209_3 ((rd_T52 l0 x4_1).f1.f1).length c209_3)).trans hx212_3; clear hn212_0; clear hn212_1; clear hn212_2; replace p212 := eq_true p212; replace q212 := eq_true q212; obtain ⟨Ao54, co54, eo54⟩ := Kd.V_slice HO_3.out; subst eo54) | ((with_reducible refine gate_callee (f := 16) rfl ?_); refine goesL_ (some 57) rfl rfl Try.func16 (by kernel_rfl) rfl #[.slice Ao54 x3_1.length co54, .agg #[.string ((rd_T52 l0 x4_1).f1.f0.f0), .int .i64 ((rd_T52 l0 x4_1).f1.f0.f1)]] rfl (by (try simp only [List.map_toArray, List.map_cons, List.map_nil]); first | done | rfl | (simp only [List.length_drop, List.length_take]; rfl)) ?_; (with_reducible refine (graph_Users.calls k1 _ _ x3_1 ((rd_T52 l0 x4_1).f1.f0.f0) ((rd_T52 l0 x4_1).f1.f0.f1) t219 _ ?side1 ?side2 A49.out).mono ?_); (case side1 => refine (Kd.V_reads' (e := 40) (base := w.heap.size) (ok := fun k_ => (True ∧ k_ ≠ gb210)) (n := x3_1.length) (c := co54) ?_).2.2; exact (by (with_reducible repeat (first | apply Kd.V_alloc | apply Kd.V_drewN | apply Kd.V_drew)); exact (Kd.V_mono (Kd.V_far (p := ⟨gb210, 2, none⟩) (Kd.V_far (p := ⟨gb210, 1, none⟩) (Kd.V_far (p := ⟨gb210, 0, none⟩) (Kd.V_mono HO_3.out (fun k_ hk => (⟨hk, hk.2⟩ : _ ∧ k_ ≠ gb210))) (fun _ hk => hk.2) (.string ((rd_T52 l0 x4_1).f1.f0.f0))) (fun _ hk => hk.2) (.int .i64 ((rd_T52 l0 x4_1).f1.f0.f1))) (fun _ hk => hk.2) (.slice A209_3 ((rd_T52 l0 x4_1).f1.f1).length c209_3)) (fun _ h_ => h_.1)))); (case side2 => exact (Kd.V_reads' HO_3.out).2.1); rintro e w55 ⟨v220, rfl, ho0, hb⟩; refine ⟨_, rfl, ?_⟩; have n0_ := qH (Kd.V_elder' (by (with_reducible repeat (first | apply Kd.V_alloc | apply Kd.V_drewN | apply Kd.V_drew)); exact (Kd.V_mono (Kd.V_far (p := ⟨gb210, 2, none⟩) (Kd.V_far (p := ⟨gb210, 1, none⟩) (Kd.V_far (p := ⟨gb210, 0, none⟩) (Kd.V_mono HO_3.out (fun k_ hk => (⟨hk, hk.2⟩ : _ ∧ k_ ≠ gb210))) (fun _ hk => hk.2) (.string ((rd_T52 l0 x4_1).f1.f0.f0))) (fun _ hk => hk.2) (.int .i64 ((rd_T52 l0 x4_1).f1.f0.f1))) (fun _ hk => hk.2) (.slice A209_3 ((rd_T52 l0 x4_1).f1.f1).length c209_3)) (fun _ h_ => h_.1))) (Kd.R_base ho0) hb); have n1_ := qH (Kd.R_lower ho0 (below_size (by repeat (first | (with_reducible first | exact HB.out | apply qL | apply qJ | apply qK | refine qI ?_ GE210.out) | exact HB.out)))); have n2_ := qH (qD (g := gb210) (o := .cells #[.string ((rd_T52 l0 x4_1).f1.f0.f0), .int .i64 ((rd_T52 l0 x4_1).f1.f0.f1), .slice A209_3 ((rd_T52 l0 x4_1).f1.f1).length c209_3] 40 (0, 0)) (by (with_reducible repeat first | apply qA | apply qC | apply qB); refine blk_put (cs := #[.string ((rd_T52 l0 x4_1).f1.f0.f0), .int .i64 ((rd_T52 l0 x4_1).f1.f0.f1), .slice none 0 0]) ?_ 2 _ rfl; (with_reducible repeat first | apply qA | apply qC | apply qB); refine blk_put (cs := #[.string ((rd_T52 l0 x4_1).f1.f0.f0), .int .i64 0, .slice none 0 0]) ?_ 1 _ rfl; (with_reducible repeat first | apply qA | apply qC | apply qB); refine blk_put (cs := #[.string (⟨#[]⟩ : ByteArray), .int .i64 0, .slice none 0 0]) ?_ 0 _ rfl; (with_reducible repeat first | apply qA | apply qC | apply qB); exact BK210.out) hb); have n3_ := qH (below_step (by repeat (first | (with_reducible first | exact HB.out | apply qL | apply qJ | apply qK | refine qI ?_ GE210.out) | exact HB.out)) hb); clear HO_3; clear BK210; clear HB; have HO_3 := n0_; have HO221 := n1_; have BK210 := n2_; have HB := n3_; clear n0_ n1_ n2_ n3_; (try clear hb); (try clear hb2); (try clear hk); (try clear hi); (try clear ho0); obtain ⟨Ao56, co56, eo56⟩ := Kd.R_slice HO221.out; subst eo56; obtain ⟨hcz57_0, hcz57_1, hcz57_2⟩ := qc3 BK210.out; obtain ⟨hfz57_0, hfz57_1, hfz57_2⟩ := qf3 BK210.out) | ((with_reducible refine gate_callee (f := 21) rfl ?_); refine goesL_ (some 64) rfl rfl Try.func21 (by kernel_rfl) rfl #[.slice Ao54 x3_1.length co54, .agg #[.string ((rd_T52 l0 x4_1).f1.f0.f0), .int .i64 ((rd_T52 l0 x4_1).f1.f0.f1)]] rfl (by (try simp only [List.map_toArray, List.map_cons, List.map_nil]); first | done | rfl | (simp only [List.length_drop, List.length_take]; rfl)) ?_; (with_reducible refine (graph_Drop.calls (fun k_ => ((True ∧ k_ ≠ gb210) ∧ some k_ ≠ (.slice Ao56 t219.length co56 : Value).ownBlock)) _ _ x3_1 ((rd_T52 l0 x4_1).f1.f0.f0) ((rd_T52 l0 x4_1).f1.f0.f1) t222 t225 _ ?side1 A50.out).mono ?_); (case side1 => exact HO_3.out); rintro e w58 ⟨v223, rfl, ho0, hb⟩; refine ⟨_, rfl, ?_⟩; have n0_ := qH (Kd.V_below (by (with_reducible repeat (first | apply Kd.V_alloc | apply Kd.V_drewN | apply Kd.V_drew)); exact HO_3.out) hb); have n1_ := qH (Kd.R_below (by (with_reducible repeat (first | apply Kd.R_alloc | apply Kd.R_drewN | apply Kd.R_drew)); exact HO221.out) hb); have n2_ := qH (Kd.V_lower (Kd.V_mono (ok' := fun k_ => some k_ ≠ (.slice Ao56 t219.length co56 : Value).ownBlock ∧ k_ ≠ gb210) ho0 (fun k_ hk_ => ⟨Or.elim hk_ (fun hs_ => hs_.2) (fun hn_ => (Kd.fresh' (Kd.R_lt (by (with_reducible repeat (first | apply Kd.R_alloc | apply Kd.R_drewN | apply Kd.R_drew)); exact HO221.out)) k_ hn_)), Or.elim hk_ (fun hs_ => hs_.1.2) (fun hn_ => (Kd.freshB (g := gb210) (by (with_reducible repeat first | apply qA | apply qC | apply qB); exact BK210.out) k_ hn_))⟩)) (below_size (by repeat (first | (with_reducible first | exact HB.out | apply qL | apply qJ | apply qK | refine qI ?_ GE210.out) | exact HB.out)))); have n3_ := qH (qD (g := gb210) (by (with_reducible repeat first | apply qA | apply qC | apply qB); exact BK210.out) hb); have n4_ := qH (below_step (by repeat (first | (with_reducible first | exact HB.out | apply qL | apply qJ | apply qK | refine qI ?_ GE210.out) | exact HB.out)) hb); clear HO_3; clear HO221; clear BK210; clear HB; have HO_3 := n0_; have HO221 := n1_; have HO224 := n2_; have BK210 := n3_; have HB := n4_; clear n0_ n1_ n2_ n3_ n4_; (try clear hb); (try clear hb2); (try clear hk); (try clear hi); (try clear ho0)))
        (try simp only [Act.put, List.setIfInBounds_toArray, List.set_cons_zero, List.set_cons_succ])
        go_cut [8, 71] (fun v8 v71 wc => ∃ (kq : Nat) (x71_50 : Bool), v71 = .bool x71_50 ∧ Aside0 (codicillaw19_GraphKeeps.j1 kq l0 x3_1 x4_1 t222 t225 x71_50 = some r) ∧ Aside0 (kq ≤ k1) ∧ Aside0 (Kd.V k40 40 wc w.heap.size (fun k_ => k_ ≠ gb210) (.slice Ao54 x3_1.length co54) x3_1) ∧ Aside0 (Kd.V k40 40 wc w.heap.size (fun k_ => k_ ≠ gb210) v223 t222) ∧ Aside0 (wc.heap[gb210]? = some (.cells #[.string ((rd_T52 l0 x4_1).f1.f0.f0), .int .i64 ((rd_T52 l0 x4_1).f1.f0.f1), (.slice A209_3 ((rd_T52 l0 x4_1).f1.f1).length c209_3)] 40 (0, 0))) ∧ Aside0 (Below w.heap.size w wc))
        case first =>
         have H := HC51.out
         clear HC51
         by_cases c59 : (t219.length : Int) > 0
         ·rw [if_pos c59] at H
          have c59b0 : decide (0 < (t219.length : Int)) = true := decide_eq_true c59
          have c59b1 : decide (0 < t219.length) = true := decide_eq_true (by omega)
          clear c59
          (first | rw [c59b0] | (simp only [i64_w, i32_w]; rw [c59b0]) | skip)
          have H' := qH H
          clear H
          go_wp2
          go_meet
          case rel => exact ⟨_, ((t225 != 3)), (by first | rfl | (simp; done) | (simp; exact qEmp _) | (simp [*]; done)), H', ⟨by have := HK1.out; first | omega | exact Nat.le_refl _⟩, ⟨by (with_reducible repeat (first | apply Kd.V_alloc | apply Kd.V_drewN | apply Kd.V_drew)); exact Kd.V_mono HO_3.out (fun _ hk => hk.1.2)⟩, ⟨by (with_reducible repeat (first | apply Kd.V_alloc | apply Kd.V_drewN | apply Kd.V_drew)); exact Kd.V_mono HO224.out (fun _ hk => hk.2)⟩, ⟨by (with_reducible repeat first | apply qA | apply qC | apply qB); exact BK210.out⟩, ⟨by repeat (first | (with_reducible first | exact HB.out | apply qL | apply qJ | apply qK | refine qI ?_ GE210.out) | exact HB.out)⟩⟩
         ·rw [if_neg c59] at H
          have c59b0 : decide (0 < (t219.length : Int)) = false := decide_eq_false c59
          have c59b1 : decide (0 < t219.length) = false := decide_eq_false (by omega)
          clear c59
          (first | rw [c59b0] | (simp only [i64_w, i32_w]; rw [c59b0]) | skip)
          have H' := qH H
          clear H
          go_wp2
          go_meet
          case rel => exact ⟨_, (false), (by first | rfl | (simp; done) | (simp; exact qEmp _) | (simp [*]; done)), H', ⟨by have := HK1.out; first | omega | exact Nat.le_refl _⟩, ⟨by (with_reducible repeat (first | apply Kd.V_alloc | apply Kd.V_drewN | apply Kd.V_drew)); exact Kd.V_mono HO_3.out (fun _ hk => hk.1.2)⟩, ⟨by (with_reducible repeat (first | apply Kd.V_alloc | apply Kd.V_drewN | apply Kd.V_drew)); exact Kd.V_mono HO224.out (fun _ hk => hk.2)⟩, ⟨by (with_reducible repeat first | apply qA | apply qC | apply qB); exact BK210.out⟩, ⟨by repeat (first | (with_reducible first | exact HB.out | apply qL | apply qJ | apply qK | refine qI ?_ GE210.out) | exact HB.out)⟩⟩
        case rest =>
         clear HC51
         try clear c1
         try clear c2
         try clear c2b0
         try clear c2b1
         try clear p2
         try clear q2
         try clear hx2
         try clear c3
         try clear c5
         try clear c5b0
         try clear c6
         try clear c6b0
         try clear p6
         try clear c7
         try clear c7b0
         try clear c7b1
         try clear c8
         try clear c12
         try clear c12b0
         try clear c13
         try clear c14
         try clear c14b0
         try clear c14b1
         try clear c16
         try clear c16b0
         try clear c16b1
         try clear c19
         try clear c20
         try clear p20
         try clear q20
         try clear hx20
         try clear c21
         try clear p21
         try clear q21
         try clear hx21
         try clear c34
         try clear c34b0
         try clear c34b1
         try clear c59
         try clear c59b0
         try clear c59b1
         try clear hcz10_0
         try clear hcz10_1
         try clear hcz10_2
         try clear hcz18_0
         try clear hcz18_1
         try clear hcz18_2
         try clear hcz20_0
         try clear hcz20_1
         try clear hcz20_2
         try clear hcz26_0
         try clear hcz26_1
         try clear hcz26_2
         try clear hcz28_0
         try clear hcz28_1
         try clear hcz28_2
         try clear hcz36_0
         try clear hcz36_1
         try clear hcz36_2
         try clear hcz38_0
         try clear hcz38_1
         try clear hcz38_2
         try clear hcz43_0
         try clear hcz43_1
         try clear hcz43_2
         try clear hcz45_0
         try clear hcz45_1
         try clear hcz45_2
         try clear hcz53_0
         try clear hcz53_1
         try clear hcz53_2
         try clear hcz57_0
         try clear hcz57_1
         try clear hcz57_2
         try clear hfz10_0
         try clear hfz10_1
         try clear hfz10_2
         try clear hfz18_0
         try clear hfz18_1
         try clear hfz18_2
         try clear hfz20_0
         try clear hfz20_1
         try clear hfz20_2
         try clear hfz26_0
         try clear hfz26_1
         try clear hfz26_2
         try clear hfz28_0
         try clear hfz28_1
         try clear hfz28_2
         try clear hfz36_0
         try clear hfz36_1
         try clear hfz36_2
         try clear hfz38_0
         try clear hfz38_1
         try clear hfz38_2
         try clear hfz43_0
         try clear hfz43_1
         try clear hfz43_2
         try clear hfz45_0
         try clear hfz45_1
         try clear hfz45_2
         try clear hfz53_0
         try clear hfz53_1
         try clear hfz53_2
         try clear hfz57_0
         try clear hfz57_1
         try clear hfz57_2
         try clear hx209_0
         try clear hx209_1
         try clear hx209_2
         try clear hx209_3
         try clear hx212_0
         try clear hx212_1
         try clear hx212_2
         try clear hx212_3
         try clear p2
         try clear p209
         try clear p212
         try clear q209
         try clear q212
         obtain ⟨kq, x71_50, rfl, HA, HJ50, HO_3, HO_9, BK210, HB⟩ := hcut
         cases kq with
         | zero => exact absurd HA.out (by simp [codicillaw19_GraphKeeps.j1])
         | succ kj50 =>
          have H := HA.out
          clear HA
          simp only [codicillaw19_GraphKeeps.j1] at H
          by_cases c60 : x71_50 = true
          ·subst c60
           have H1 : (some false) = some r := by rw [if_pos rfl] at H; exact H
           clear H
           have H := H1
           clear H1
           obtain rfl := Option.some.inj H
           simp only [Option.some.injEq, Prod.mk.injEq] at H
           obtain ⟨rfl⟩ := H
           go_wp2
           go_ret
           exact ⟨by first | rfl | (simp [errW_none, errW_some] <;> rfl) | (simp [*, errW_none, errW_some] <;> rfl), by repeat (first | (with_reducible first | exact HB.out | apply qL | apply qJ | apply qK | refine qI ?_ GE210.out) | exact HB.out)⟩
          ·replace c60 := Bool.eq_false_iff.mpr c60
           subst c60
           have H1 : (if t225 = 0 then ((graph_May.f t222).bind fun t226 => (if t226 = 0 then (codicillaw19_GraphKeeps.l0 kj50 l0 t222 (wrap64 (x4_1 + 1))) else (some false))) else ((graph_May.f x3_1).bind fun t227 => (if t227 = 0 then (codicillaw19_GraphKeeps.l0 kj50 l0 x3_1 (wrap64 (x4_1 + 1))) else (some false)))) = some r := by rw [if_neg (show ¬ (false = true) by decide)] at H; exact H
           clear H
           have H := H1
           clear H1
           by_cases c61 : t225 = 0
           ·rw [if_pos c61] at H
            have c61b0 : (t225 == 0) = true := beq_iff_eq.mpr c61
            have c61b1 : (t225 != 0) = false := bne_eq_false_iff_eq.mpr c61
            clear c61
            replace H := Option.bind_eq_some_iff.mp H
            obtain ⟨t226, A620, H⟩ := H
            (try dsimp only at H)
            have A62 := qH A620
            clear A620
            by_cases c63 : t226 = 0
            ·rw [if_pos c63] at H
             have c63b0 : (t226 == 0) = true := beq_iff_eq.mpr c63
             have c63b1 : (t226 != 0) = false := bne_eq_false_iff_eq.mpr c63
             clear c63
             have H' := qH H
             clear H
             obtain ⟨Ao64, co64, eo64⟩ := Kd.V_slice HO_9.out
             subst eo64
             go_wp2_with (first | ((with_reducible refine gate_callee (f := 13) rfl ?_); refine goesL_ (some 76) rfl rfl Try.func13 (by kernel_rfl) rfl #[.slice Ao64 t222.length co64] rfl (by (try simp only [List.map_toArray, List.map_cons, List.map_nil]); first | done | rfl | (simp only [List.length_drop, List.length_take]; rfl)) ?_; (with_reducible refine (graph_May.calls _ _ t222 t226 _ ?side1 ?side2 A62.out).mono ?_); (case side1 => repeat (first | exact (Kd.V_reads' HO_9.out).2.2 | (with_reducible refine Kd.C_alloc ?_ _) | (with_reducible refine Kd.C_drewN ?_ _) | (with_reducible refine Kd.C_drew ?_))); (case side2 => exact (Kd.V_reads' HO_9.out).2.1); rintro e w65 ⟨rfl, hb⟩; refine ⟨_, rfl, ?_⟩; have n0_ := qH (Kd.V_below (by (with_reducible repeat (first | apply Kd.V_alloc | apply Kd.V_drewN | apply Kd.V_drew)); exact HO_3.out) hb); have n1_ := qH (Kd.V_below (by (with_reducible repeat (first | apply Kd.V_alloc | apply Kd.V_drewN | apply Kd.V_drew)); exact HO_9.out) hb); have n2_ := qH (qD (g := gb210) (by (with_reducible repeat first | apply qA | apply qC | apply qB); exact BK210.out) hb); have n3_ := qH (below_step (by repeat (first | (with_reducible first | exact HB.out | apply qL | apply qJ | apply qK | refine qI ?_ GE210.out) | exact HB.out)) hb); clear HO_3; clear HO_9; clear BK210; clear HB; have HO_3 := n0_; have HO_9 := n1_; have BK210 := n2_; have HB := n3_; clear n0_ n1_ n2_ n3_; (try clear hb); (try clear hb2); (try clear hk); (try clear hi)))
             go_roundg kj50
             case measure => have := HK1.out; have := HJ50.out; omega
             case rel => exact ⟨(t222), (wrap64 (x4_1 + 1)), (by first | rfl | (simp; done) | (simp; exact qEmp _) | (simp [*]; done)), H', ⟨by have := HK1.out; have := HJ50.out; omega⟩, ⟨by (with_reducible repeat (first | apply Kd.V_alloc | apply Kd.V_drewN | apply Kd.V_drew)); exact Kd.V_mono HO_9.out (fun _ hk => trivial)⟩, ⟨by repeat (first | (with_reducible first | exact HB.out | apply qL | apply qJ | apply qK | refine qI ?_ GE210.out) | exact HB.out)⟩⟩
            ·rw [if_neg c63] at H
             have c63b0 : (t226 == 0) = false := beq_eq_false_iff_ne.mpr c63
             have c63b1 : (t226 != 0) = true := bne_iff_ne.mpr c63
             obtain rfl := Option.some.inj H
             simp only [Option.some.injEq, Prod.mk.injEq] at H
             obtain ⟨rfl⟩ := H
             obtain ⟨Ao66, co66, eo66⟩ := Kd.V_slice HO_9.out
             subst eo66
             go_wp2_with (first | ((with_reducible refine gate_callee (f := 13) rfl ?_); refine goesL_ (some 76) rfl rfl Try.func13 (by kernel_rfl) rfl #[.slice Ao66 t222.length co66] rfl (by (try simp only [List.map_toArray, List.map_cons, List.map_nil]); first | done | rfl | (simp only [List.length_drop, List.length_take]; rfl)) ?_; (with_reducible refine (graph_May.calls _ _ t222 t226 _ ?side1 ?side2 A62.out).mono ?_); (case side1 => repeat (first | exact (Kd.V_reads' HO_9.out).2.2 | (with_reducible refine Kd.C_alloc ?_ _) | (with_reducible refine Kd.C_drewN ?_ _) | (with_reducible refine Kd.C_drew ?_))); (case side2 => exact (Kd.V_reads' HO_9.out).2.1); rintro e w67 ⟨rfl, hb⟩; refine ⟨_, rfl, ?_⟩; have n0_ := qH (Kd.V_below (by (with_reducible repeat (first | apply Kd.V_alloc | apply Kd.V_drewN | apply Kd.V_drew)); exact HO_3.out) hb); have n1_ := qH (Kd.V_below (by (with_reducible repeat (first | apply Kd.V_alloc | apply Kd.V_drewN | apply Kd.V_drew)); exact HO_9.out) hb); have n2_ := qH (qD (g := gb210) (by (with_reducible repeat first | apply qA | apply qC | apply qB); exact BK210.out) hb); have n3_ := qH (below_step (by repeat (first | (with_reducible first | exact HB.out | apply qL | apply qJ | apply qK | refine qI ?_ GE210.out) | exact HB.out)) hb); clear HO_3; clear HO_9; clear BK210; clear HB; have HO_3 := n0_; have HO_9 := n1_; have BK210 := n2_; have HB := n3_; clear n0_ n1_ n2_ n3_; (try clear hb); (try clear hb2); (try clear hk); (try clear hi)))
             go_ret
             exact ⟨by first | rfl | (simp [errW_none, errW_some] <;> rfl) | (simp [*, errW_none, errW_some] <;> rfl), by repeat (first | (with_reducible first | exact HB.out | apply qL | apply qJ | apply qK | refine qI ?_ GE210.out) | exact HB.out)⟩
           ·rw [if_neg c61] at H
            have c61b0 : (t225 == 0) = false := beq_eq_false_iff_ne.mpr c61
            have c61b1 : (t225 != 0) = true := bne_iff_ne.mpr c61
            replace H := Option.bind_eq_some_iff.mp H
            obtain ⟨t227, A680, H⟩ := H
            (try dsimp only at H)
            have A68 := qH A680
            clear A680
            by_cases c69 : t227 = 0
            ·rw [if_pos c69] at H
             have c69b0 : (t227 == 0) = true := beq_iff_eq.mpr c69
             have c69b1 : (t227 != 0) = false := bne_eq_false_iff_eq.mpr c69
             clear c69
             have H' := qH H
             clear H
             go_wp2_with (first | ((with_reducible refine gate_callee (f := 13) rfl ?_); refine goesL_ (some 76) rfl rfl Try.func13 (by kernel_rfl) rfl #[.slice Ao54 x3_1.length co54] rfl (by (try simp only [List.map_toArray, List.map_cons, List.map_nil]); first | done | rfl | (simp only [List.length_drop, List.length_take]; rfl)) ?_; (with_reducible refine (graph_May.calls _ _ x3_1 t227 _ ?side1 ?side2 A68.out).mono ?_); (case side1 => repeat (first | exact (Kd.V_reads' HO_3.out).2.2 | (with_reducible refine Kd.C_alloc ?_ _) | (with_reducible refine Kd.C_drewN ?_ _) | (with_reducible refine Kd.C_drew ?_))); (case side2 => exact (Kd.V_reads' HO_3.out).2.1); rintro e w70 ⟨rfl, hb⟩; refine ⟨_, rfl, ?_⟩; have n0_ := qH (Kd.V_below (by (with_reducible repeat (first | apply Kd.V_alloc | apply Kd.V_drewN | apply Kd.V_drew)); exact HO_3.out) hb); have n1_ := qH (Kd.V_below (by (with_reducible repeat (first | apply Kd.V_alloc | apply Kd.V_drewN | apply Kd.V_drew)); exact HO_9.out) hb); have n2_ := qH (qD (g := gb210) (by (with_reducible repeat first | apply qA | apply qC | apply qB); exact BK210.out) hb); have n3_ := qH (below_step (by repeat (first | (with_reducible first | exact HB.out | apply qL | apply qJ | apply qK | refine qI ?_ GE210.out) | exact HB.out)) hb); clear HO_3; clear HO_9; clear BK210; clear HB; have HO_3 := n0_; have HO_9 := n1_; have BK210 := n2_; have HB := n3_; clear n0_ n1_ n2_ n3_; (try clear hb); (try clear hb2); (try clear hk); (try clear hi)))
             go_roundg kj50
             case measure => have := HK1.out; have := HJ50.out; omega
             case rel => exact ⟨(x3_1), (wrap64 (x4_1 + 1)), (by first | rfl | (simp; done) | (simp; exact qEmp _) | (simp [*]; done)), H', ⟨by have := HK1.out; have := HJ50.out; omega⟩, ⟨by (with_reducible repeat (first | apply Kd.V_alloc | apply Kd.V_drewN | apply Kd.V_drew)); exact Kd.V_mono HO_3.out (fun _ hk => trivial)⟩, ⟨by repeat (first | (with_reducible first | exact HB.out | apply qL | apply qJ | apply qK | refine qI ?_ GE210.out) | exact HB.out)⟩⟩
            ·rw [if_neg c69] at H
             have c69b0 : (t227 == 0) = false := beq_eq_false_iff_ne.mpr c69
             have c69b1 : (t227 != 0) = true := bne_iff_ne.mpr c69
             obtain rfl := Option.some.inj H
             simp only [Option.some.injEq, Prod.mk.injEq] at H
             obtain ⟨rfl⟩ := H
             go_wp2_with (first | ((with_reducible refine gate_callee (f := 13) rfl ?_); refine goesL_ (some 76) rfl rfl Try.func13 (by kernel_rfl) rfl #[.slice Ao54 x3_1.length co54] rfl (by (try simp only [List.map_toArray, List.map_cons, List.map_nil]); first | done | rfl | (simp only [List.length_drop, List.length_take]; rfl)) ?_; (with_reducible refine (graph_May.calls _ _ x3_1 t227 _ ?side1 ?side2 A68.out).mono ?_); (case side1 => repeat (first | exact (Kd.V_reads' HO_3.out).2.2 | (with_reducible refine Kd.C_alloc ?_ _) | (with_reducible refine Kd.C_drewN ?_ _) | (with_reducible refine Kd.C_drew ?_))); (case side2 => exact (Kd.V_reads' HO_3.out).2.1); rintro e w71 ⟨rfl, hb⟩; refine ⟨_, rfl, ?_⟩; have n0_ := qH (Kd.V_below (by (with_reducible repeat (first | apply Kd.V_alloc | apply Kd.V_drewN | apply Kd.V_drew)); exact HO_3.out) hb); have n1_ := qH (Kd.V_below (by (with_reducible repeat (first | apply Kd.V_alloc | apply Kd.V_drewN | apply Kd.V_drew)); exact HO_9.out) hb); have n2_ := qH (qD (g := gb210) (by (with_reducible repeat first | apply qA | apply qC | apply qB); exact BK210.out) hb); have n3_ := qH (below_step (by repeat (first | (with_reducible first | exact HB.out | apply qL | apply qJ | apply qK | refine qI ?_ GE210.out) | exact HB.out)) hb); clear HO_3; clear HO_9; clear BK210; clear HB; have HO_3 := n0_; have HO_9 := n1_; have BK210 := n2_; have HB := n3_; clear n0_ n1_ n2_ n3_; (try clear hb); (try clear hb2); (try clear hk); (try clear hi)))
             go_ret
             exact ⟨by first | rfl | (simp [errW_none, errW_some] <;> rfl) | (simp [*, errW_none, errW_some] <;> rfl), by repeat (first | (with_reducible first | exact HB.out | apply qL | apply qJ | apply qK | refine qI ?_ GE210.out) | exact HB.out)⟩
     ·rw [if_neg c6] at H
      exact absurd H (by simp)
    ·rw [if_neg c5] at H
     have c5b0 : decide (x4_1 < (l0.length : Int)) = false := decide_eq_false c5
     clear c5
     have H' := qH H
     clear H
     go_wp2
     go_loopg [11, 12] k1 (fun kq v11 v12 w' => ∃ (x11_2 : List (S24)) (x12_2 : Int), v12 = .int .i64 x12_2 ∧ Aside0 (codicillaw19_GraphKeeps.l1 kq x3_1 x11_2 x12_2 = some r) ∧ Aside0 (kq ≤ k1) ∧ Aside0 (Kd.V k40 40 w' w.heap.size (fun k_ => some k_ ≠ (v11 : Value).ownBlock) u3 x3_1) ∧ Aside0 (Kd.R k24 24 w' w.heap.size (fun _ => True) v11 x11_2) ∧ Aside0 (Below w.heap.size w w'))
     case atStart => exact ⟨(([] : List (S24))), (0), (by first | rfl | (simp; done) | (simp; exact qEmp _) | (simp [*]; done)), H', ⟨Nat.le_refl _⟩, ⟨by (with_reducible repeat (first | apply Kd.V_alloc | apply Kd.V_drewN | apply Kd.V_drew)); exact Kd.V_mono HO_3.out (fun _ hk => (by simp [Value.ownBlock]))⟩, ⟨by first | exact Kd.R_nil _ _ _ _ _ | exact Kd.N_nil _ _ _ _ _ | exact Kd.V_nil _ _ _ _ _ | exact Kd.Q_nil _ _ _ _ _ | exact Kd.S_nil _ _ _ _ _⟩, ⟨by repeat (first | (with_reducible first | exact HB.out | apply qL | apply qJ | apply qK) | exact HB.out)⟩⟩
     case round =>
      clear H'
      try clear c1
      try clear c2
      try clear c2b0
      try clear c2b1
      try clear p2
      try clear q2
      try clear hx2
      try clear c3
      try clear c5
      try clear c5b0
      try clear c6
      try clear c6b0
      try clear p6
      try clear c7
      try clear c7b0
      try clear c7b1
      try clear c8
      try clear c12
      try clear c12b0
      try clear c13
      try clear c14
      try clear c14b0
      try clear c14b1
      try clear c16
      try clear c16b0
      try clear c16b1
      try clear c19
      try clear c20
      try clear p20
      try clear q20
      try clear hx20
      try clear c21
      try clear p21
      try clear q21
      try clear hx21
      try clear c34
      try clear c34b0
      try clear c34b1
      try clear c59
      try clear c59b0
      try clear c59b1
      try clear c60
      try clear c61
      try clear c61b0
      try clear c61b1
      try clear c63
      try clear c63b0
      try clear c63b1
      try clear p64
      try clear c69
      try clear c69b0
      try clear c69b1
      try clear hcz10_0
      try clear hcz10_1
      try clear hcz10_2
      try clear hcz18_0
      try clear hcz18_1
      try clear hcz18_2
      try clear hcz20_0
      try clear hcz20_1
      try clear hcz20_2
      try clear hcz26_0
      try clear hcz26_1
      try clear hcz26_2
      try clear hcz28_0
      try clear hcz28_1
      try clear hcz28_2
      try clear hcz36_0
      try clear hcz36_1
      try clear hcz36_2
      try clear hcz38_0
      try clear hcz38_1
      try clear hcz38_2
      try clear hcz43_0
      try clear hcz43_1
      try clear hcz43_2
      try clear hcz45_0
      try clear hcz45_1
      try clear hcz45_2
      try clear hcz53_0
      try clear hcz53_1
      try clear hcz53_2
      try clear hcz57_0
      try clear hcz57_1
      try clear hcz57_2
      try clear hfz10_0
      try clear hfz10_1
      try clear hfz10_2
      try clear hfz18_0
      try clear hfz18_1
      try clear hfz18_2
      try clear hfz20_0
      try clear hfz20_1
      try clear hfz20_2
      try clear hfz26_0
      try clear hfz26_1
      try clear hfz26_2
      try clear hfz28_0
      try clear hfz28_1
      try clear hfz28_2
      try clear hfz36_0
      try clear hfz36_1
      try clear hfz36_2
      try clear hfz38_0
      try clear hfz38_1
      try clear hfz38_2
      try clear hfz43_0
      try clear hfz43_1
      try clear hfz43_2
      try clear hfz45_0
      try clear hfz45_1
      try clear hfz45_2
      try clear hfz53_0
      try clear hfz53_1
      try clear hfz53_2
      try clear hfz57_0
      try clear hfz57_1
      try clear hfz57_2
      try clear hx209_0
      try clear hx209_1
      try clear hx209_2
      try clear hx209_3
      try clear hx212_0
      try clear hx212_1
      try clear hx212_2
      try clear hx212_3
      try clear p2
      try clear p20
      try clear p209
      try clear p21
      try clear p212
      try clear p6
      try clear q2
      try clear q20
      try clear q209
      try clear q21
      try clear q212
      obtain ⟨x11_2, x12_2, rfl, HA, HK2, HO_3, HO_11, HB⟩ := hrel
      cases gk with
      | zero => exact absurd HA.out (by simp [codicillaw19_GraphKeeps.l1])
      | succ k2 =>
       have H := HA.out
       clear HA
       simp only [codicillaw19_GraphKeeps.l1] at H
       by_cases c72 : x12_2 < (x3_1.length : Int)
       ·rw [if_pos c72] at H
        have c72b0 : decide (x12_2 < (x3_1.length : Int)) = true := decide_eq_true c72
        clear c72
        obtain ⟨ji73, hji73⟩ : ∃ j_ : Int, (wrap64 ((wrap64 ((x3_1.length : Int) - 1)) - x12_2)) = j_ := ⟨_, rfl⟩
        replace H : (if 0 ≤ (ji73) then (if (ji73) < (x3_1.length : Int) then (if x11_2.length < 5864062014805 then (codicillaw19_GraphKeeps.l1 k2 x3_1 (x11_2 ++ [(⟨(rd_T40 x3_1 (ji73)).f0.f0, (rd_T40 x3_1 (ji73)).f0.f1⟩ : S24)]) (wrap64 (x12_2 + 1))) else (none)) else (none)) else (none)) = some r := by first | (rw [hji73] at H; exact H) | (simp only [hji73] at H ⊢; exact H)
        have hji73w : (IntKind.i64.wrap ((wrap64 ((x3_1.length : Int) - 1)) - x12_2)) = ji73 := (i64_w _).trans hji73
        by_cases c74 : 0 ≤ (ji73)
        ·rw [if_pos c74] at H
         have c74b0 : decide (0 ≤ (ji73)) = true := decide_eq_true c74
         clear c74
         by_cases c75 : (ji73) < (x3_1.length : Int)
         ·rw [if_pos c75] at H
          have c75b0 : decide ((ji73) < (x3_1.length : Int)) = true := decide_eq_true c75
          clear c75
          by_cases c76 : x11_2.length < 5864062014805
          ·rw [if_pos c76] at H
           have LMc76 := qH c76
           clear c76
           obtain ⟨y229, hy229⟩ : ∃ y_ : List (S24), y_ = (x11_2 ++ [(⟨(rd_T40 x3_1 (ji73)).f0.f0, (rd_T40 x3_1 (ji73)).f0.f1⟩ : S24)]) := ⟨_, rfl⟩
           replace H : (codicillaw19_GraphKeeps.l1 k2 x3_1 y229 (wrap64 (x12_2 + 1))) = some r := by first | (rw [hy229]; with_reducible exact H) | (have H2_ := (Option.bind_some _ _).symm.trans H; rw [hy229]; with_reducible exact H2_) | (have H2_ := (Option.bind_some _ _).symm.trans H; with_reducible exact H2_) | with_reducible exact H | (rw [hy229]; exact H) | exact H
           have Ny229 := qH hy229
           clear hy229
           have H' := qH H
           clear H
           obtain ⟨Ao77, co77, eo77⟩ := Kd.V_slice HO_3.out
           subst eo77
           have p228 : 0 ≤ ((ji73) : Int) := of_decide_eq_true (by first | (with_reducible assumption) | assumption)
           have q228 : (ji73) < (x3_1.length : Int) := of_decide_eq_true (by first | (with_reducible assumption) | assumption)
           obtain ⟨ad228, A228_2, c228_2, e228, hx228_0, hx228_1, hx228_2, hl228_2, hi228_2⟩ := at_T40 (Kd.V_reads' HO_3.out).2.2 (ji73) p228 q228
           cases e228
           obtain ⟨ce228, hce228, hMe228, hcc228⟩ := Kd.V_get HO_3.out z40 (ji73) p228 (by first | exact q228 | exact of_decide_eq_true (by first | (with_reducible assumption) | assumption) | (have e_ := (Kd.V_reads' HO_3.out).1; omega))
           obtain ⟨ua228_2, uc228_2, rfl, ul228_2, ge228_2⟩ := k40_openF hMe228
           have hv228_2 := hcc228 2 _ rfl
           rw [add_field _ _ 2 (by omega)] at hv228_2
           replace hv228_2 := Option.some.inj (hv228_2.symm.trans hx228_2)
           injection hv228_2 with hva_ hvn_ hvc_
           rw [hva_] at ge228_2
           rw [hvc_] at ul228_2
           have HL228_2 := qH (show Kd.V k24 24 _ w.heap.size _ _ ((rd_T40 x3_1 (ji73)).f1) from Kd.V_mk ul228_2 ge228_2)
           clear hva_ hvn_ hvc_ ge228_2 ul228_2
           clear hcc228 hce228
           have HR228_2 := qH hi228_2
           have HC228_2 := qH hl228_2
           clear hi228_2 hl228_2
           replace p228 := eq_true p228
           replace q228 := eq_true q228
           go_wp2_with (first | ((with_reducible refine gate_builtin (b := .append) (xs := #[.tmp 84, .tmp 94]) rfl ?_); (try (refine gate_guard (by rfl) ?_; dsimp only)); at_builtin; refine Kd.R_append k24 (w0 := w) w.heap.size rfl (.tmp 84) (.tmp 94) 25 24 (.agg #[(.string ⟨#[]⟩), (.int .i64 0)]) 24 rfl Try.underlying25 info24 rfl (by decide) (by omega) u11 x11_2 (⟨(rd_T40 x3_1 (ji73)).f0.f0, (rd_T40 x3_1 (ji73)).f0.f1⟩ : S24) [.string ((rd_T40 x3_1 (ji73)).f0.f0), .int .i64 ((rd_T40 x3_1 (ji73)).f0.f1)] (fun _ => True) (fun _ => False) rfl rfl ?aP (fun _ hk => hk.elim) ?aF ?aO ?aB ?aS ?aL ?_; (case aP => exact k24_mkM _ _ _ (⟨(rd_T40 x3_1 (ji73)).f0.f0, (rd_T40 x3_1 (ji73)).f0.f1⟩ : S24)); (case aB => exact (by repeat (first | (with_reducible first | exact HB.out | apply qL | apply qJ | apply qK) | exact HB.out))); (case aF => exact (fun _ _ => trivial)); (case aO => exact (by (with_reducible repeat (first | apply Kd.R_alloc | apply Kd.R_drewN | apply Kd.R_drew)); exact HO_11.out)); (case aS => exact (below_size (by repeat (first | (with_reducible first | exact HB.out | apply qL | apply qJ | apply qK) | exact HB.out)))); (case aL => have := LMc76.out; omega); intro v230 w78 ho hb hg hat; rw [← Ny229.out] at ho; have n0_ := qH (Kd.V_afterv (ok := (fun _ => True)) (by (with_reducible repeat (first | apply Kd.V_alloc | apply Kd.V_drewN | apply Kd.V_drew)); exact Kd.V_mono HO_3.out (fun _ hk => ⟨trivial, hk⟩)) hg hat); have n1_ := qH (Kd.V_afterv (ok := (fun _ => True)) (by (with_reducible repeat (first | apply Kd.V_alloc | apply Kd.V_drewN | apply Kd.V_drew)); exact Kd.V_mono HL228_2.out (fun _ hk => ⟨trivial, hk⟩)) hg hat); have n2_ := qH (hb); have n3_ := qH (ho); clear HO_3; clear HL228_2; clear HB; clear HO_11; have HO_3 := n0_; have HL228_2 := n1_; have HB := n2_; have HO231 := n3_; clear n0_ n1_ n2_ n3_; clear ho hb hg hat))
           go_roundg k2
           case measure => have := HK1.out; have := HK2.out; omega
           case rel => exact ⟨(y229), (wrap64 (x12_2 + 1)), (by first | rfl | (simp; done) | (simp; exact qEmp _) | (simp [*]; done)), H', ⟨by have := HK1.out; have := HK2.out; omega⟩, ⟨by (with_reducible repeat (first | apply Kd.V_alloc | apply Kd.V_drewN | apply Kd.V_drew)); exact Kd.V_mono HO_3.out (fun _ hk => hk.2)⟩, ⟨by (with_reducible repeat (first | apply Kd.R_alloc | apply Kd.R_drewN | apply Kd.R_drew)); exact HO231.out⟩, ⟨by repeat (first | (with_reducible first | exact HB.out | apply qL | apply qJ | apply qK) | exact HB.out)⟩⟩
          ·rw [if_neg c76] at H
           exact absurd H (by simp)
         ·rw [if_neg c75] at H
          exact absurd H (by simp)
        ·rw [if_neg c74] at H
         exact absurd H (by simp)
       ·rw [if_neg c72] at H
        have c72b0 : decide (x12_2 < (x3_1.length : Int)) = false := decide_eq_false c72
        clear c72
        replace H := Option.bind_eq_some_iff.mp H
        obtain ⟨⟨t232, t233⟩, A790, H⟩ := H
        (try dsimp only at H)
        have A79 := qH A790
        clear A790
        have HC80 := qH H
        clear H
        obtain ⟨Ao81, co81, eo81⟩ := Kd.V_slice HO_3.out
        subst eo81
        obtain ⟨Ao82, co82, eo82⟩ := Kd.R_slice HO_11.out
        subst eo82
        go_upto_region 28 with (first | ((with_reducible refine gate_callee (f := 9) rfl ?_); refine goesL_ (some 99) rfl rfl Try.func9 (by kernel_rfl) rfl #[.slice Ao81 x3_1.length co81, .slice Ao82 x11_2.length co82] rfl (by (try simp only [List.map_toArray, List.map_cons, List.map_nil]); first | done | rfl | (simp only [List.length_drop, List.length_take]; rfl)) ?_; (with_reducible refine (graph_Order.calls _ _ x3_1 _ _ x11_2 t232 t233 _ ?side1 ?side2 ?side3 ?side4 A79.out).mono ?_); (case side1 => repeat (first | exact (Kd.V_reads' HO_3.out).2.2 | (with_reducible refine Kd.C_alloc ?_ _) | (with_reducible refine Kd.C_drewN ?_ _) | (with_reducible refine Kd.C_drew ?_))); (case side2 => exact (Kd.V_reads' HO_3.out).2.1); (case side3 => repeat (first | exact (Kd.R_reads' HO_11.out).2.2 | (with_reducible refine Kd.C_alloc ?_ _) | (with_reducible refine Kd.C_drewN ?_ _) | (with_reducible refine Kd.C_drew ?_))); (case side4 => exact (Kd.R_reads' HO_11.out).2.1); rintro e w83 ⟨v234, rfl, ho0, hb⟩; refine ⟨_, rfl, ?_⟩; have n0_ := qH (Kd.V_elder' (by (with_reducible repeat (first | apply Kd.V_alloc | apply Kd.V_drewN | apply Kd.V_drew)); exact HO_3.out) (Kd.R_base ho0) hb); have n1_ := qH (Kd.R_elder' (by (with_reducible repeat (first | apply Kd.R_alloc | apply Kd.R_drewN | apply Kd.R_drew)); exact HO_11.out) (Kd.R_base ho0) hb); have n2_ := qH (Kd.R_lower (Kd.R_new' ho0 (Kd.R_lt (by (with_reducible repeat (first | apply Kd.R_alloc | apply Kd.R_drewN | apply Kd.R_drew)); exact HO_11.out))) (below_size (by repeat (first | (with_reducible first | exact HB.out | apply qL | apply qJ | apply qK) | exact HB.out)))); have n3_ := qH (below_step (by repeat (first | (with_reducible first | exact HB.out | apply qL | apply qJ | apply qK) | exact HB.out)) hb); clear HO_3; clear HO_11; clear HB; have HO_3 := n0_; have HO_11 := n1_; have HO235 := n2_; have HB := n3_; clear n0_ n1_ n2_ n3_; (try clear hb); (try clear hb2); (try clear hk); (try clear hi); (try clear ho0)))
        (try simp only [Act.put, List.setIfInBounds_toArray, List.set_cons_zero, List.set_cons_succ])
        go_cut [110] (fun v110 wc => ∃ (kq : Nat) (x110_79 : Bool), v110 = .bool x110_79 ∧ Aside0 (codicillaw19_GraphKeeps.j3 kq x3_1 t232 x110_79 = some r) ∧ Aside0 (kq ≤ k2) ∧ Aside0 (Kd.V k40 40 wc w.heap.size (fun k_ => some k_ ≠ (v234 : Value).ownBlock) (.slice Ao81 x3_1.length co81) x3_1) ∧ Aside0 (Kd.R k24 24 wc w.heap.size (fun _ => True) v234 t232) ∧ Aside0 (Below w.heap.size w wc))
        case first =>
         have H := HC80.out
         clear HC80
         by_cases c84 : t233 = 0
         ·rw [if_pos c84] at H
          have c84b0 : (t233 == 0) = true := beq_iff_eq.mpr c84
          have c84b1 : (t233 != 0) = false := bne_eq_false_iff_eq.mpr c84
          clear c84
          (first | rw [c84b0] | (simp only [i64_w, i32_w]; rw [c84b0]) | skip)
          have H' := qH H
          clear H
          obtain ⟨Ao85, co85, eo85⟩ := Kd.R_slice HO235.out
          subst eo85
          go_wp2
          go_meet
          case rel => exact ⟨_, (((t232.length : Int) != (x3_1.length : Int))), (by first | rfl | (simp; done) | (simp; exact qEmp _) | (simp [*]; done)), H', ⟨by have := HK1.out; have := HK2.out; first | omega | exact Nat.le_refl _⟩, ⟨by (with_reducible repeat (first | apply Kd.V_alloc | apply Kd.V_drewN | apply Kd.V_drew)); exact Kd.V_mono HO_3.out (fun _ hk => hk.2)⟩, ⟨by (with_reducible repeat (first | apply Kd.R_alloc | apply Kd.R_drewN | apply Kd.R_drew)); exact Kd.R_mono HO235.out (fun _ hk => trivial)⟩, ⟨by repeat (first | (with_reducible first | exact HB.out | apply qL | apply qJ | apply qK) | exact HB.out)⟩⟩
         ·rw [if_neg c84] at H
          have c84b0 : (t233 == 0) = false := beq_eq_false_iff_ne.mpr c84
          have c84b1 : (t233 != 0) = true := bne_iff_ne.mpr c84
          (first | rw [c84b0] | (simp only [i64_w, i32_w]; rw [c84b0]) | skip)
          have H' := qH H
          clear H
          go_wp2
          go_meet
          case rel => exact ⟨_, (true), (by first | rfl | (simp; done) | (simp; exact qEmp _) | (simp [*]; done)), H', ⟨by have := HK1.out; have := HK2.out; first | omega | exact Nat.le_refl _⟩, ⟨by (with_reducible repeat (first | apply Kd.V_alloc | apply Kd.V_drewN | apply Kd.V_drew)); exact Kd.V_mono HO_3.out (fun _ hk => hk.2)⟩, ⟨by (with_reducible repeat (first | apply Kd.R_alloc | apply Kd.R_drewN | apply Kd.R_drew)); exact Kd.R_mono HO235.out (fun _ hk => trivial)⟩, ⟨by repeat (first | (with_reducible first | exact HB.out | apply qL | apply qJ | apply qK) | exact HB.out)⟩⟩
        case rest =>
         clear HC80
         try clear c1
         try clear c2
         try clear c2b0
         try clear c2b1
         try clear p2
         try clear q2
         try clear hx2
         try clear c3
         try clear c5
         try clear c5b0
         try clear c6
         try clear c6b0
         try clear p6
         try clear c7
         try clear c7b0
         try clear c7b1
         try clear c8
         try clear c9
         try clear c12
         try clear c12b0
         try clear c13
         try clear c14
         try clear c14b0
         try clear c14b1
         try clear c16
         try clear c16b0
         try clear c16b1
         try clear c19
         try clear c20
         try clear p20
         try clear q20
         try clear hx20
         try clear c21
         try clear p21
         try clear q21
         try clear hx21
         try clear c22
         try clear p22
         try clear q22
         try clear hx22
         try clear c34
         try clear c34b0
         try clear c34b1
         try clear c59
         try clear c59b0
         try clear c59b1
         try clear c60
         try clear c61
         try clear c61b0
         try clear c61b1
         try clear c63
         try clear c63b0
         try clear c63b1
         try clear p64
         try clear c69
         try clear c69b0
         try clear c69b1
         try clear c72
         try clear c72b0
         try clear c74
         try clear c74b0
         try clear c75
         try clear c75b0
         try clear c76
         try clear c84
         try clear c84b0
         try clear c84b1
         try clear hcz10_0
         try clear hcz10_1
         try clear hcz10_2
         try clear hcz18_0
         try clear hcz18_1
         try clear hcz18_2
         try clear hcz20_0
         try clear hcz20_1
         try clear hcz20_2
         try clear hcz26_0
         try clear hcz26_1
         try clear hcz26_2
         try clear hcz28_0
         try clear hcz28_1
         try clear hcz28_2
         try clear hcz36_0
         try clear hcz36_1
         try clear hcz36_2
         try clear hcz38_0
         try clear hcz38_1
         try clear hcz38_2
         try clear hcz43_0
         try clear hcz43_1
         try clear hcz43_2
         try clear hcz45_0
         try clear hcz45_1
         try clear hcz45_2
         try clear hcz53_0
         try clear hcz53_1
         try clear hcz53_2
         try clear hcz57_0
         try clear hcz57_1
         try clear hcz57_2
         try clear hfz10_0
         try clear hfz10_1
         try clear hfz10_2
         try clear hfz18_0
         try clear hfz18_1
         try clear hfz18_2
         try clear hfz20_0
         try clear hfz20_1
         try clear hfz20_2
         try clear hfz26_0
         try clear hfz26_1
         try clear hfz26_2
         try clear hfz28_0
         try clear hfz28_1
         try clear hfz28_2
         try clear hfz36_0
         try clear hfz36_1
         try clear hfz36_2
         try clear hfz38_0
         try clear hfz38_1
         try clear hfz38_2
         try clear hfz43_0
         try clear hfz43_1
         try clear hfz43_2
         try clear hfz45_0
         try clear hfz45_1
         try clear hfz45_2
         try clear hfz53_0
         try clear hfz53_1
         try clear hfz53_2
         try clear hfz57_0
         try clear hfz57_1
         try clear hfz57_2
         try clear hx209_0
         try clear hx209_1
         try clear hx209_2
         try clear hx209_3
         try clear hx212_0
         try clear hx212_1
         try clear hx212_2
         try clear hx212_3
         try clear hx228_0
         try clear hx228_1
         try clear hx228_2
         try clear p2
         try clear p20
         try clear p209
         try clear p21
         try clear p212
         try clear p228
         try clear p6
         try clear p64
         try clear q2
         try clear q20
         try clear q209
         try clear q21
         try clear q212
         try clear q228
         obtain ⟨kq, x110_79, rfl, HA, HJ79, HO_3, HO_13, HB⟩ := hcut
         cases kq with
         | zero => exact absurd HA.out (by simp [codicillaw19_GraphKeeps.j3])
         | succ kj79 =>
          have H := HA.out
          clear HA
          simp only [codicillaw19_GraphKeeps.j3] at H
          by_cases c86 : x110_79 = true
          ·subst c86
           have H1 : (some false) = some r := by rw [if_pos rfl] at H; exact H
           clear H
           have H := H1
           clear H1
           obtain rfl := Option.some.inj H
           simp only [Option.some.injEq, Prod.mk.injEq] at H
           obtain ⟨rfl⟩ := H
           go_wp2
           go_ret
           exact ⟨by first | rfl | (simp [errW_none, errW_some] <;> rfl) | (simp [*, errW_none, errW_some] <;> rfl), by repeat (first | (with_reducible first | exact HB.out | apply qL | apply qJ | apply qK) | exact HB.out)⟩
          ·replace c86 := Bool.eq_false_iff.mpr c86
           subst c86
           have H1 : (codicillaw19_GraphKeeps.l2 kj79 x3_1 t232 0) = some r := by rw [if_neg (show ¬ (false = true) by decide)] at H; exact H
           clear H
           have H := H1
           clear H1
           have H' := qH H
           clear H
           go_wp2
           go_loopg [15] kj79 (fun kq v15 w' => ∃ (x15_4 : Int), v15 = .int .i64 x15_4 ∧ Aside0 (codicillaw19_GraphKeeps.l2 kq x3_1 t232 x15_4 = some r) ∧ Aside0 (kq ≤ kj79) ∧ Aside0 (Kd.V k40 40 w' w.heap.size (fun k_ => some k_ ≠ (v234 : Value).ownBlock) (.slice Ao81 x3_1.length co81) x3_1) ∧ Aside0 (Kd.R k24 24 w' w.heap.size (fun _ => True) v234 t232) ∧ Aside0 (Below w.heap.size w w'))
           case atStart => exact ⟨(0), (by first | rfl | (simp; done) | (simp; exact qEmp _) | (simp [*]; done)), H', ⟨Nat.le_refl _⟩, ⟨by (with_reducible repeat (first | apply Kd.V_alloc | apply Kd.V_drewN | apply Kd.V_drew)); exact HO_3.out⟩, ⟨by (with_reducible repeat (first | apply Kd.R_alloc | apply Kd.R_drewN | apply Kd.R_drew)); exact HO_13.out⟩, ⟨by repeat (first | (with_reducible first | exact HB.out | apply qL | apply qJ | apply qK) | exact HB.out)⟩⟩
           case round =>
            clear H'
            try clear c1
            try clear c2
            try clear c2b0
            try clear c2b1
            try clear p2
            try clear q2
            try clear hx2
            try clear c3
            try clear c5
            try clear c5b0
            try clear c6
            try clear c6b0
            try clear p6
            try clear c7
            try clear c7b0
            try clear c7b1
            try clear c8
            try clear c9
            try clear c12
            try clear c12b0
            try clear c13
            try clear c14
            try clear c14b0
            try clear c14b1
            try clear c16
            try clear c16b0
            try clear c16b1
            try clear c19
            try clear c20
            try clear p20
            try clear q20
            try clear hx20
            try clear c21
            try clear p21
            try clear q21
            try clear hx21
            try clear c22
            try clear p22
            try clear q22
            try clear hx22
            try clear c34
            try clear c34b0
            try clear c34b1
            try clear c59
            try clear c59b0
            try clear c59b1
            try clear c60
            try clear c61
            try clear c61b0
            try clear c61b1
            try clear c63
            try clear c63b0
            try clear c63b1
            try clear p64
            try clear c69
            try clear c69b0
            try clear c69b1
            try clear c72
            try clear c72b0
            try clear c74
            try clear c74b0
            try clear c75
            try clear c75b0
            try clear c76
            try clear c84
            try clear c84b0
            try clear c84b1
            try clear c86
            try clear hcz10_0
            try clear hcz10_1
            try clear hcz10_2
            try clear hcz18_0
            try clear hcz18_1
            try clear hcz18_2
            try clear hcz20_0
            try clear hcz20_1
            try clear hcz20_2
            try clear hcz26_0
            try clear hcz26_1
            try clear hcz26_2
            try clear hcz28_0
            try clear hcz28_1
            try clear hcz28_2
            try clear hcz36_0
            try clear hcz36_1
            try clear hcz36_2
            try clear hcz38_0
            try clear hcz38_1
            try clear hcz38_2
            try clear hcz43_0
            try clear hcz43_1
            try clear hcz43_2
            try clear hcz45_0
            try clear hcz45_1
            try clear hcz45_2
            try clear hcz53_0
            try clear hcz53_1
            try clear hcz53_2
            try clear hcz57_0
            try clear hcz57_1
            try clear hcz57_2
            try clear hfz10_0
            try clear hfz10_1
            try clear hfz10_2
            try clear hfz18_0
            try clear hfz18_1
            try clear hfz18_2
            try clear hfz20_0
            try clear hfz20_1
            try clear hfz20_2
            try clear hfz26_0
            try clear hfz26_1
            try clear hfz26_2
            try clear hfz28_0
            try clear hfz28_1
            try clear hfz28_2
            try clear hfz36_0
            try clear hfz36_1
            try clear hfz36_2
            try clear hfz38_0
            try clear hfz38_1
            try clear hfz38_2
            try clear hfz43_0
            try clear hfz43_1
            try clear hfz43_2
            try clear hfz45_0
            try clear hfz45_1
            try clear hfz45_2
            try clear hfz53_0
            try clear hfz53_1
            try clear hfz53_2
            try clear hfz57_0
            try clear hfz57_1
            try clear hfz57_2
            try clear hx209_0
            try clear hx209_1
            try clear hx209_2
            try clear hx209_3
            try clear hx212_0
            try clear hx212_1
            try clear hx212_2
            try clear hx212_3
            try clear hx228_0
            try clear hx228_1
            try clear hx228_2
            try clear p2
            try clear p20
            try clear p209
            try clear p21
            try clear p212
            try clear p22
            try clear p228
            try clear p6
            try clear p64
            try clear q2
            try clear q20
            try clear q209
            try clear q21
            try clear q212
            try clear q22
            try clear q228
            obtain ⟨x15_4, rfl, HA, HK4, HO_3, HO_13, HB⟩ := hrel
            cases gk with
            | zero => exact absurd HA.out (by simp [codicillaw19_GraphKeeps.l2])
            | succ k4 =>
             have H := HA.out
             clear HA
             simp only [codicillaw19_GraphKeeps.l2] at H
             by_cases c87 : x15_4 < (x3_1.length : Int)
             ·rw [if_pos c87] at H
              have c87b0 : decide (x15_4 < (x3_1.length : Int)) = true := decide_eq_true c87
              clear c87
              have H' := qH H
              clear H
              go_wp2
              go_loopg [16] k4 (fun kq v16 w' => ∃ (x16_5 : Int), v16 = .int .i64 x16_5 ∧ Aside0 (codicillaw19_GraphKeeps.l3 kq x3_1 t232 x15_4 x16_5 = some r) ∧ Aside0 (kq ≤ k4) ∧ Aside0 (Kd.V k40 40 w' w.heap.size (fun k_ => some k_ ≠ (v234 : Value).ownBlock) (.slice Ao81 x3_1.length co81) x3_1) ∧ Aside0 (Kd.R k24 24 w' w.heap.size (fun _ => True) v234 t232) ∧ Aside0 (Below w.heap.size w w'))
              case atStart => exact ⟨(0), (by first | rfl | (simp; done) | (simp; exact qEmp _) | (simp [*]; done)), H', ⟨Nat.le_refl _⟩, ⟨by (with_reducible repeat (first | apply Kd.V_alloc | apply Kd.V_drewN | apply Kd.V_drew)); exact HO_3.out⟩, ⟨by (with_reducible repeat (first | apply Kd.R_alloc | apply Kd.R_drewN | apply Kd.R_drew)); exact HO_13.out⟩, ⟨by repeat (first | (with_reducible first | exact HB.out | apply qL | apply qJ | apply qK) | exact HB.out)⟩⟩
              case round =>
               clear H'
               try clear c1
               try clear c2
               try clear c2b0
               try clear c2b1
               try clear p2
               try clear q2
               try clear hx2
               try clear c3
               try clear c5
               try clear c5b0
               try clear c6
               try clear c6b0
               try clear p6
               try clear c7
               try clear c7b0
               try clear c7b1
               try clear c8
               try clear c9
               try clear c12
               try clear c12b0
               try clear c13
               try clear c14
               try clear c14b0
               try clear c14b1
               try clear c16
               try clear c16b0
               try clear c16b1
               try clear c19
               try clear c20
               try clear p20
               try clear q20
               try clear hx20
               try clear c21
               try clear p21
               try clear q21
               try clear hx21
               try clear c22
               try clear p22
               try clear q22
               try clear hx22
               try clear c34
               try clear c34b0
               try clear c34b1
               try clear c59
               try clear c59b0
               try clear c59b1
               try clear c60
               try clear c61
               try clear c61b0
               try clear c61b1
               try clear c63
               try clear c63b0
               try clear c63b1
               try clear p64
               try clear c69
               try clear c69b0
               try clear c69b1
               try clear c72
               try clear c72b0
               try clear c74
               try clear c74b0
               try clear c75
               try clear c75b0
               try clear c76
               try clear c84
               try clear c84b0
               try clear c84b1
               try clear c86
               try clear c87
               try clear c87b0
               try clear hcz10_0
               try clear hcz10_1
               try clear hcz10_2
               try clear hcz18_0
               try clear hcz18_1
               try clear hcz18_2
               try clear hcz20_0
               try clear hcz20_1
               try clear hcz20_2
               try clear hcz26_0
               try clear hcz26_1
               try clear hcz26_2
               try clear hcz28_0
               try clear hcz28_1
               try clear hcz28_2
               try clear hcz36_0
               try clear hcz36_1
               try clear hcz36_2
               try clear hcz38_0
               try clear hcz38_1
               try clear hcz38_2
               try clear hcz43_0
               try clear hcz43_1
               try clear hcz43_2
               try clear hcz45_0
               try clear hcz45_1
               try clear hcz45_2
               try clear hcz53_0
               try clear hcz53_1
               try clear hcz53_2
               try clear hcz57_0
               try clear hcz57_1
               try clear hcz57_2
               try clear hfz10_0
               try clear hfz10_1
               try clear hfz10_2
               try clear hfz18_0
               try clear hfz18_1
               try clear hfz18_2
               try clear hfz20_0
               try clear hfz20_1
               try clear hfz20_2
               try clear hfz26_0
               try clear hfz26_1
               try clear hfz26_2
               try clear hfz28_0
               try clear hfz28_1
               try clear hfz28_2
               try clear hfz36_0
               try clear hfz36_1
               try clear hfz36_2
               try clear hfz38_0
               try clear hfz38_1
               try clear hfz38_2
               try clear hfz43_0
               try clear hfz43_1
               try clear hfz43_2
               try clear hfz45_0
               try clear hfz45_1
               try clear hfz45_2
               try clear hfz53_0
               try clear hfz53_1
               try clear hfz53_2
               try clear hfz57_0
               try clear hfz57_1
               try clear hfz57_2
               try clear hx209_0
               try clear hx209_1
               try clear hx209_2
               try clear hx209_3
               try clear hx212_0
               try clear hx212_1
               try clear hx212_2
               try clear hx212_3
               try clear hx228_0
               try clear hx228_1
               try clear hx228_2
               try clear p2
               try clear p20
               try clear p209
               try clear p21
               try clear p212
               try clear p22
               try clear p228
               try clear p6
               try clear p64
               try clear q2
               try clear q20
               try clear q209
               try clear q21
               try clear q212
               try clear q22
               try clear q228
               obtain ⟨x16_5, rfl, HA, HK5, HO_3, HO_13, HB⟩ := hrel
               cases gk with
               | zero => exact absurd HA.out (by simp [codicillaw19_GraphKeeps.l3])
               | succ k5 =>
                have H := HA.out
                clear HA
                simp only [codicillaw19_GraphKeeps.l3] at H
                by_cases c88 : 0 ≤ x15_4
                ·rw [if_pos c88] at H
                 have c88b0 : decide (0 ≤ x15_4) = true := decide_eq_true c88
                 clear c88
                 by_cases c89 : x15_4 < (x3_1.length : Int)
                 ·rw [if_pos c89] at H
                  have c89b0 : decide (x15_4 < (x3_1.length : Int)) = true := decide_eq_true c89
                  clear c89
                  by_cases c90 : x16_5 < (((rd_T40 x3_1 x15_4).f1).length : Int)
                  ·rw [if_pos c90] at H
                   have c90b0 : decide (x16_5 < (((rd_T40 x3_1 x15_4).f1).length : Int)) = true := decide_eq_true c90
                   clear c90
                   by_cases c91 : 0 ≤ x16_5
                   ·rw [if_pos c91] at H
                    have c91b0 : decide (0 ≤ x16_5) = true := decide_eq_true c91
                    clear c91
                    replace H := Option.bind_eq_some_iff.mp H
                    obtain ⟨t240, A920, H⟩ := H
                    (try dsimp only at H)
                    have A92 := qH A920
                    clear A920
                    by_cases c93 : t240 < 0
                    ·rw [if_pos c93] at H
                     have c93b0 : decide (t240 < 0) = true := decide_eq_true c93
                     clear c93
                     obtain rfl := Option.some.inj H
                     simp only [Option.some.injEq, Prod.mk.injEq] at H
                     obtain ⟨rfl⟩ := H
                     have p237 : 0 ≤ (x15_4 : Int) := of_decide_eq_true (by first | (with_reducible assumption) | assumption)
                     have q237 : x15_4 < (x3_1.length : Int) := of_decide_eq_true (by first | (with_reducible assumption) | assumption)
                     obtain ⟨ad237, A237_2, c237_2, e237, hx237_0, hx237_1, hx237_2, hl237_2, hi237_2⟩ := at_T40 (Kd.V_reads' HO_3.out).2.2 x15_4 p237 q237
                     cases e237
                     obtain ⟨ce237, hce237, hMe237, hcc237⟩ := Kd.V_get HO_3.out z40 x15_4 p237 (by first | exact q237 | exact of_decide_eq_true (by first | (with_reducible assumption) | assumption) | (have e_ := (Kd.V_reads' HO_3.out).1; omega))
                     obtain ⟨ua237_2, uc237_2, rfl, ul237_2, ge237_2⟩ := k40_openF hMe237
                     have hv237_2 := hcc237 2 _ rfl
                     rw [add_field _ _ 2 (by omega)] at hv237_2
                     replace hv237_2 := Option.some.inj (hv237_2.symm.trans hx237_2)
                     injection hv237_2 with hva_ hvn_ hvc_
                     rw [hva_] at ge237_2
                     rw [hvc_] at ul237_2
                     have HL237_2 := qH (show Kd.V k24 24 _ w.heap.size _ _ ((rd_T40 x3_1 x15_4).f1) from Kd.V_mk ul237_2 ge237_2)
                     clear hva_ hvn_ hvc_ ge237_2 ul237_2
                     clear hcc237 hce237
                     have HR237_2 := qH hi237_2
                     have HC237_2 := qH hl237_2
                     clear hi237_2 hl237_2
                     replace p237 := eq_true p237
                     replace q237 := eq_true q237
                     have p238 : 0 ≤ (x15_4 : Int) := of_decide_eq_true (by first | (with_reducible assumption) | assumption)
                     have q238 : x15_4 < (x3_1.length : Int) := of_decide_eq_true (by first | (with_reducible assumption) | assumption)
                     obtain ⟨ad238, A238_2, c238_2, e238, hx238_0, hx238_1, hx238_2, hl238_2, hi238_2⟩ := at_T40 (Kd.V_reads' HO_3.out).2.2 x15_4 p238 q238
                     obtain rfl : ad237 = ad238 := (by injection e238)
                     obtain ⟨ce238, hce238, hMe238, hcc238⟩ := Kd.V_get HO_3.out z40 x15_4 p238 (by first | exact q238 | exact of_decide_eq_true (by first | (with_reducible assumption) | assumption) | (have e_ := (Kd.V_reads' HO_3.out).1; omega))
                     obtain ⟨ua238_2, uc238_2, rfl, ul238_2, ge238_2⟩ := k40_openF hMe238
                     have hv238_2 := hcc238 2 _ rfl
                     rw [add_field _ _ 2 (by omega)] at hv238_2
                     replace hv238_2 := Option.some.inj (hv238_2.symm.trans hx238_2)
                     injection hv238_2 with hva_ hvn_ hvc_
                     rw [hva_] at ge238_2
                     rw [hvc_] at ul238_2
                     have HL238_2 := qH (show Kd.V k24 24 _ w.heap.size _ _ ((rd_T40 x3_1 x15_4).f1) from Kd.V_mk ul238_2 ge238_2)
                     clear hva_ hvn_ hvc_ ge238_2 ul238_2
                     clear hcc238 hce238
                     have HR238_2 := qH hi238_2
                     have HC238_2 := qH hl238_2
                     clear hi238_2 hl238_2
                     replace p238 := eq_true p238
                     replace q238 := eq_true q238
                     have ea_ := Option.some.inj (hx237_2.symm.trans hx238_2)
                     injection ea_ with ea_ en_ ec_
                     subst ea_
                     subst ec_
                     clear en_
                     have p239 : 0 ≤ (x16_5 : Int) := of_decide_eq_true (by first | (with_reducible assumption) | assumption)
                     have q239 : x16_5 < (((rd_T40 x3_1 x15_4).f1).length : Int) := of_decide_eq_true (by first | (with_reducible assumption) | assumption)
                     obtain ⟨ad239, e239, hx239_0, hx239_1⟩ := at_T24 (by repeat (first | (with_reducible exact HR238_2.out) | (with_reducible refine Kd.C_alloc ?_ _) | (with_reducible refine Kd.C_drewN ?_ _) | (with_reducible refine Kd.C_drew ?_) | exact HR238_2.out)) x16_5 p239 q239
                     cases e239
                     replace p239 := eq_true p239
                     replace q239 := eq_true q239
                     obtain ⟨Ao94, co94, eo94⟩ := Kd.R_slice HO_13.out
                     subst eo94
                     go_wp2_with (first | ((with_reducible refine gate_callee (f := 24) rfl ?_); refine goesL_ (some 136) rfl rfl Try.func24 (by kernel_rfl) rfl #[.slice Ao94 t232.length co94, .agg #[.string ((rd_T24 ((rd_T40 x3_1 x15_4).f1) x16_5).f0), .int .i64 ((rd_T24 ((rd_T40 x3_1 x15_4).f1) x16_5).f1)]] rfl (by (try simp only [List.map_toArray, List.map_cons, List.map_nil]); first | done | rfl | (simp only [List.length_drop, List.length_take]; rfl)) ?_; (with_reducible refine (codicillaw19_place.calls k5 _ _ t232 ((rd_T24 ((rd_T40 x3_1 x15_4).f1) x16_5).f0) ((rd_T24 ((rd_T40 x3_1 x15_4).f1) x16_5).f1) t240 _ ?side1 ?side2 A92.out).mono ?_); (case side1 => repeat (first | exact (Kd.R_reads' HO_13.out).2.2 | (with_reducible refine Kd.C_alloc ?_ _) | (with_reducible refine Kd.C_drewN ?_ _) | (with_reducible refine Kd.C_drew ?_))); (case side2 => exact (Kd.R_reads' HO_13.out).2.1); rintro e w95 ⟨rfl, hb⟩; refine ⟨_, rfl, ?_⟩; have n0_ := qH (Kd.V_below (by (with_reducible repeat (first | apply Kd.V_alloc | apply Kd.V_drewN | apply Kd.V_drew)); exact HO_3.out) hb); have n1_ := qH (Kd.R_below (by (with_reducible repeat (first | apply Kd.R_alloc | apply Kd.R_drewN | apply Kd.R_drew)); exact HO_13.out) hb); have n2_ := qH (Kd.V_below (by (with_reducible repeat (first | apply Kd.V_alloc | apply Kd.V_drewN | apply Kd.V_drew)); exact HL237_2.out) hb); have n3_ := qH (Kd.V_below (by (with_reducible repeat (first | apply Kd.V_alloc | apply Kd.V_drewN | apply Kd.V_drew)); exact HL238_2.out) hb); have n4_ := qH (Kd.C_below (by repeat (first | (with_reducible exact HR237_2.out) | (with_reducible refine Kd.C_alloc ?_ _) | (with_reducible refine Kd.C_drewN ?_ _) | (with_reducible refine Kd.C_drew ?_) | exact HR237_2.out)) hb); have n5_ := qH (Kd.C_below (by repeat (first | (with_reducible exact HR238_2.out) | (with_reducible refine Kd.C_alloc ?_ _) | (with_reducible refine Kd.C_drewN ?_ _) | (with_reducible refine Kd.C_drew ?_) | exact HR238_2.out)) hb); have n6_ := qH (below_step (by repeat (first | (with_reducible first | exact HB.out | apply qL | apply qJ | apply qK) | exact HB.out)) hb); clear HO_3; clear HO_13; clear HL237_2; clear HL238_2; clear HR237_2; clear HR238_2; clear HB; have HO_3 := n0_; have HO_13 := n1_; have HL237_2 := n2_; have HL238_2 := n3_; have HR237_2 := n4_; have HR238_2 := n5_; have HB := n6_; clear n0_ n1_ n2_ n3_ n4_ n5_ n6_; (try clear hb); (try clear hb2); (try clear hk); (try clear hi)))
                     go_ret
                     exact ⟨by first | rfl | (simp [errW_none, errW_some] <;> rfl) | (simp [*, errW_none, errW_some] <;> rfl), by repeat (first | (with_reducible first | exact HB.out | apply qL | apply qJ | apply qK) | exact HB.out)⟩
                    ·rw [if_neg c93] at H
                     have c93b0 : decide (t240 < 0) = false := decide_eq_false c93
                     clear c93
                     replace H := Option.bind_eq_some_iff.mp H
                     obtain ⟨t242, A960, H⟩ := H
                     (try dsimp only at H)
                     have A96 := qH A960
                     clear A960
                     by_cases c97 : t240 ≥ t242
                     ·rw [if_pos c97] at H
                      have c97b0 : decide (t242 ≤ t240) = true := decide_eq_true c97
                      clear c97
                      obtain rfl := Option.some.inj H
                      simp only [Option.some.injEq, Prod.mk.injEq] at H
                      obtain ⟨rfl⟩ := H
                      have p237 : 0 ≤ (x15_4 : Int) := of_decide_eq_true (by first | (with_reducible assumption) | assumption)
                      have q237 : x15_4 < (x3_1.length : Int) := of_decide_eq_true (by first | (with_reducible assumption) | assumption)
                      obtain ⟨ad237, A237_2, c237_2, e237, hx237_0, hx237_1, hx237_2, hl237_2, hi237_2⟩ := at_T40 (Kd.V_reads' HO_3.out).2.2 x15_4 p237 q237
                      cases e237
                      obtain ⟨ce237, hce237, hMe237, hcc237⟩ := Kd.V_get HO_3.out z40 x15_4 p237 (by first | exact q237 | exact of_decide_eq_true (by first | (with_reducible assumption) | assumption) | (have e_ := (Kd.V_reads' HO_3.out).1; omega))
                      obtain ⟨ua237_2, uc237_2, rfl, ul237_2, ge237_2⟩ := k40_openF hMe237
                      have hv237_2 := hcc237 2 _ rfl
                      rw [add_field _ _ 2 (by omega)] at hv237_2
                      replace hv237_2 := Option.some.inj (hv237_2.symm.trans hx237_2)
                      injection hv237_2 with hva_ hvn_ hvc_
                      rw [hva_] at ge237_2
                      rw [hvc_] at ul237_2
                      have HL237_2 := qH (show Kd.V k24 24 _ w.heap.size _ _ ((rd_T40 x3_1 x15_4).f1) from Kd.V_mk ul237_2 ge237_2)
                      clear hva_ hvn_ hvc_ ge237_2 ul237_2
                      clear hcc237 hce237
                      have HR237_2 := qH hi237_2
                      have HC237_2 := qH hl237_2
                      clear hi237_2 hl237_2
                      replace p237 := eq_true p237
                      replace q237 := eq_true q237
                      have p238 : 0 ≤ (x15_4 : Int) := of_decide_eq_true (by first | (with_reducible assumption) | assumption)
                      have q238 : x15_4 < (x3_1.length : Int) := of_decide_eq_true (by first | (with_reducible assumption) | assumption)
                      obtain ⟨ad238, A238_2, c238_2, e238, hx238_0, hx238_1, hx238_2, hl238_2, hi238_2⟩ := at_T40 (Kd.V_reads' HO_3.out).2.2 x15_4 p238 q238
                      obtain rfl : ad237 = ad238 := (by injection e238)
                      obtain ⟨ce238, hce238, hMe238, hcc238⟩ := Kd.V_get HO_3.out z40 x15_4 p238 (by first | exact q238 | exact of_decide_eq_true (by first | (with_reducible assumption) | assumption) | (have e_ := (Kd.V_reads' HO_3.out).1; omega))
                      obtain ⟨ua238_2, uc238_2, rfl, ul238_2, ge238_2⟩ := k40_openF hMe238
                      have hv238_2 := hcc238 2 _ rfl
                      rw [add_field _ _ 2 (by omega)] at hv238_2
                      replace hv238_2 := Option.some.inj (hv238_2.symm.trans hx238_2)
                      injection hv238_2 with hva_ hvn_ hvc_
                      rw [hva_] at ge238_2
                      rw [hvc_] at ul238_2
                      have HL238_2 := qH (show Kd.V k24 24 _ w.heap.size _ _ ((rd_T40 x3_1 x15_4).f1) from Kd.V_mk ul238_2 ge238_2)
                      clear hva_ hvn_ hvc_ ge238_2 ul238_2
                      clear hcc238 hce238
                      have HR238_2 := qH hi238_2
                      have HC238_2 := qH hl238_2
                      clear hi238_2 hl238_2
                      replace p238 := eq_true p238
                      replace q238 := eq_true q238
                      have ea_ := Option.some.inj (hx237_2.symm.trans hx238_2)
                      injection ea_ with ea_ en_ ec_
                      subst ea_
                      subst ec_
                      clear en_
                      have p239 : 0 ≤ (x16_5 : Int) := of_decide_eq_true (by first | (with_reducible assumption) | assumption)
                      have q239 : x16_5 < (((rd_T40 x3_1 x15_4).f1).length : Int) := of_decide_eq_true (by first | (with_reducible assumption) | assumption)
                      obtain ⟨ad239, e239, hx239_0, hx239_1⟩ := at_T24 (by repeat (first | (with_reducible exact HR238_2.out) | (with_reducible refine Kd.C_alloc ?_ _) | (with_reducible refine Kd.C_drewN ?_ _) | (with_reducible refine Kd.C_drew ?_) | exact HR238_2.out)) x16_5 p239 q239
                      cases e239
                      replace p239 := eq_true p239
                      replace q239 := eq_true q239
                      obtain ⟨Ao98, co98, eo98⟩ := Kd.R_slice HO_13.out
                      subst eo98
                      go_wp2_with (first | ((with_reducible refine gate_callee (f := 24) rfl ?_); refine goesL_ (some 136) rfl rfl Try.func24 (by kernel_rfl) rfl #[.slice Ao98 t232.length co98, .agg #[.string ((rd_T24 ((rd_T40 x3_1 x15_4).f1) x16_5).f0), .int .i64 ((rd_T24 ((rd_T40 x3_1 x15_4).f1) x16_5).f1)]] rfl (by (try simp only [List.map_toArray, List.map_cons, List.map_nil]); first | done | rfl | (simp only [List.length_drop, List.length_take]; rfl)) ?_; (with_reducible refine (codicillaw19_place.calls k5 _ _ t232 ((rd_T24 ((rd_T40 x3_1 x15_4).f1) x16_5).f0) ((rd_T24 ((rd_T40 x3_1 x15_4).f1) x16_5).f1) t240 _ ?side1 ?side2 A92.out).mono ?_); (case side1 => repeat (first | exact (Kd.R_reads' HO_13.out).2.2 | (with_reducible refine Kd.C_alloc ?_ _) | (with_reducible refine Kd.C_drewN ?_ _) | (with_reducible refine Kd.C_drew ?_))); (case side2 => exact (Kd.R_reads' HO_13.out).2.1); rintro e w99 ⟨rfl, hb⟩; refine ⟨_, rfl, ?_⟩; have n0_ := qH (Kd.V_below (by (with_reducible repeat (first | apply Kd.V_alloc | apply Kd.V_drewN | apply Kd.V_drew)); exact HO_3.out) hb); have n1_ := qH (Kd.R_below (by (with_reducible repeat (first | apply Kd.R_alloc | apply Kd.R_drewN | apply Kd.R_drew)); exact HO_13.out) hb); have n2_ := qH (Kd.V_below (by (with_reducible repeat (first | apply Kd.V_alloc | apply Kd.V_drewN | apply Kd.V_drew)); exact HL237_2.out) hb); have n3_ := qH (Kd.V_below (by (with_reducible repeat (first | apply Kd.V_alloc | apply Kd.V_drewN | apply Kd.V_drew)); exact HL238_2.out) hb); have n4_ := qH (Kd.C_below (by repeat (first | (with_reducible exact HR237_2.out) | (with_reducible refine Kd.C_alloc ?_ _) | (with_reducible refine Kd.C_drewN ?_ _) | (with_reducible refine Kd.C_drew ?_) | exact HR237_2.out)) hb); have n5_ := qH (Kd.C_below (by repeat (first | (with_reducible exact HR238_2.out) | (with_reducible refine Kd.C_alloc ?_ _) | (with_reducible refine Kd.C_drewN ?_ _) | (with_reducible refine Kd.C_drew ?_) | exact HR238_2.out)) hb); have n6_ := qH (below_step (by repeat (first | (with_reducible first | exact HB.out | apply qL | apply qJ | apply qK) | exact HB.out)) hb); clear HO_3; clear HO_13; clear HL237_2; clear HL238_2; clear HR237_2; clear HR238_2; clear HB; have HO_3 := n0_; have HO_13 := n1_; have HL237_2 := n2_; have HL238_2 := n3_; have HR237_2 := n4_; have HR238_2 := n5_; have HB := n6_; clear n0_ n1_ n2_ n3_ n4_ n5_ n6_; (try clear hb); (try clear hb2); (try clear hk); (try clear hi); have p241 : 0 ≤ (x15_4 : Int) := of_decide_eq_true (by first | (with_reducible assumption) | assumption); have q241 : x15_4 < (x3_1.length : Int) := of_decide_eq_true (by first | (with_reducible assumption) | assumption); obtain ⟨ad241, A241_2, c241_2, e241, hx241_0, hx241_1, hx241_2, hl241_2, hi241_2⟩ := at_T40 (Kd.V_reads' HO_3.out).2.2 x15_4 p241 q241; obtain rfl : ad237 = ad241 := (by injection e241); obtain ⟨ce241, hce241, hMe241, hcc241⟩ := Kd.V_get HO_3.out z40 x15_4 p241 (by first | exact q241 | exact of_decide_eq_true (by first | (with_reducible assumption) | assumption) | (have e_ := (Kd.V_reads' HO_3.out).1; omega)); obtain ⟨ua241_2, uc241_2, rfl, ul241_2, ge241_2⟩ := k40_openF hMe241; have hv241_2 := hcc241 2 _ rfl; rw [add_field _ _ 2 (by omega)] at hv241_2; replace hv241_2 := Option.some.inj (hv241_2.symm.trans hx241_2); injection hv241_2 with hva_ hvn_ hvc_; rw [hva_] at ge241_2; rw [hvc_] at ul241_2; have HL241_2 := qH (show Kd.V k24 24 _ w.heap.size _ _ ((rd_T40 x3_1 x15_4).f1) from Kd.V_mk ul241_2 ge241_2); clear hva_ hvn_ hvc_ ge241_2 ul241_2; clear hcc241 hce241; have HR241_2 := qH hi241_2; have HC241_2 := qH hl241_2; clear hi241_2 hl241_2; replace p241 := eq_true p241; replace q241 := eq_true q241) | (go_at_call 24; (with_reducible refine (codicillaw19_place.calls k5 _ _ t232 ((rd_T40 x3_1 x15_4).f0.f0) ((rd_T40 x3_1 x15_4).f0.f1) t242 _ ?side1 ?side2 A96.out).mono ?_); (case side1 => repeat (first | exact (Kd.R_reads' HO_13.out).2.2 | (with_reducible refine Kd.C_alloc ?_ _) | (with_reducible refine Kd.C_drewN ?_ _) | (with_reducible refine Kd.C_drew ?_))); (case side2 => exact (Kd.R_reads' HO_13.out).2.1); rintro e w100 ⟨rfl, hb⟩; have n0_ := qH (Kd.V_below (by (with_reducible repeat (first | apply Kd.V_alloc | apply Kd.V_drewN | apply Kd.V_drew)); exact HO_3.out) hb); have n1_ := qH (Kd.R_below (by (with_reducible repeat (first | apply Kd.R_alloc | apply Kd.R_drewN | apply Kd.R_drew)); exact HO_13.out) hb); have n2_ := qH (Kd.V_below (by (with_reducible repeat (first | apply Kd.V_alloc | apply Kd.V_drewN | apply Kd.V_drew)); exact HL237_2.out) hb); have n3_ := qH (Kd.V_below (by (with_reducible repeat (first | apply Kd.V_alloc | apply Kd.V_drewN | apply Kd.V_drew)); exact HL238_2.out) hb); have n4_ := qH (Kd.V_below (by (with_reducible repeat (first | apply Kd.V_alloc | apply Kd.V_drewN | apply Kd.V_drew)); exact HL241_2.out) hb); have n5_ := qH (Kd.C_below (by repeat (first | (with_reducible exact HR237_2.out) | (with_reducible refine Kd.C_alloc ?_ _) | (with_reducible refine Kd.C_drewN ?_ _) | (with_reducible refine Kd.C_drew ?_) | exact HR237_2.out)) hb); have n6_ := qH (Kd.C_below (by repeat (first | (with_reducible exact HR238_2.out) | (with_reducible refine Kd.C_alloc ?_ _) | (with_reducible refine Kd.C_drewN ?_ _) | (with_reducible refine Kd.C_drew ?_) | exact HR238_2.out)) hb); have n7_ := qH (Kd.C_below (by repeat (first | (with_reducible exact HR241_2.out) | (with_reducible refine Kd.C_alloc ?_ _) | (with_reducible refine Kd.C_drewN ?_ _) | (with_reducible refine Kd.C_drew ?_) | exact HR241_2.out)) hb); have n8_ := qH (below_step (by repeat (first | (with_reducible first | exact HB.out | apply qL | apply qJ | apply qK) | exact HB.out)) hb); clear HO_3; clear HO_13; clear HL237_2; clear HL238_2; clear HL241_2; clear HR237_2; clear HR238_2; clear HR241_2; clear HB; have HO_3 := n0_; have HO_13 := n1_; have HL237_2 := n2_; have HL238_2 := n3_; have HL241_2 := n4_; have HR237_2 := n5_; have HR238_2 := n6_; have HR241_2 := n7_; have HB := n8_; clear n0_ n1_ n2_ n3_ n4_ n5_ n6_ n7_ n8_; (try clear hb); (try clear hb2); (try clear hk); (try clear hi)))
                      go_ret
                      exact ⟨by first | rfl | (simp [errW_none, errW_some] <;> rfl) | (simp [*, errW_none, errW_some] <;> rfl), by repeat (first | (with_reducible first | exact HB.out | apply qL | apply qJ | apply qK) | exact HB.out)⟩
                     ·rw [if_neg c97] at H
                      have c97b0 : decide (t242 ≤ t240) = false := decide_eq_false c97
                      clear c97
                      have H' := qH H
                      clear H
                      have p237 : 0 ≤ (x15_4 : Int) := of_decide_eq_true (by first | (with_reducible assumption) | assumption)
                      have q237 : x15_4 < (x3_1.length : Int) := of_decide_eq_true (by first | (with_reducible assumption) | assumption)
                      obtain ⟨ad237, A237_2, c237_2, e237, hx237_0, hx237_1, hx237_2, hl237_2, hi237_2⟩ := at_T40 (Kd.V_reads' HO_3.out).2.2 x15_4 p237 q237
                      cases e237
                      obtain ⟨ce237, hce237, hMe237, hcc237⟩ := Kd.V_get HO_3.out z40 x15_4 p237 (by first | exact q237 | exact of_decide_eq_true (by first | (with_reducible assumption) | assumption) | (have e_ := (Kd.V_reads' HO_3.out).1; omega))
                      obtain ⟨ua237_2, uc237_2, rfl, ul237_2, ge237_2⟩ := k40_openF hMe237
                      have hv237_2 := hcc237 2 _ rfl
                      rw [add_field _ _ 2 (by omega)] at hv237_2
                      replace hv237_2 := Option.some.inj (hv237_2.symm.trans hx237_2)
                      injection hv237_2 with hva_ hvn_ hvc_
                      rw [hva_] at ge237_2
                      rw [hvc_] at ul237_2
                      have HL237_2 := qH (show Kd.V k24 24 _ w.heap.size _ _ ((rd_T40 x3_1 x15_4).f1) from Kd.V_mk ul237_2 ge237_2)
                      clear hva_ hvn_ hvc_ ge237_2 ul237_2
                      clear hcc237 hce237
                      have HR237_2 := qH hi237_2
                      have HC237_2 := qH hl237_2
                      clear hi237_2 hl237_2
                      replace p237 := eq_true p237
                      replace q237 := eq_true q237
                      have p238 : 0 ≤ (x15_4 : Int) := of_decide_eq_true (by first | (with_reducible assumption) | assumption)
                      have q238 : x15_4 < (x3_1.length : Int) := of_decide_eq_true (by first | (with_reducible assumption) | assumption)
                      obtain ⟨ad238, A238_2, c238_2, e238, hx238_0, hx238_1, hx238_2, hl238_2, hi238_2⟩ := at_T40 (Kd.V_reads' HO_3.out).2.2 x15_4 p238 q238
                      obtain rfl : ad237 = ad238 := (by injection e238)
                      obtain ⟨ce238, hce238, hMe238, hcc238⟩ := Kd.V_get HO_3.out z40 x15_4 p238 (by first | exact q238 | exact of_decide_eq_true (by first | (with_reducible assumption) | assumption) | (have e_ := (Kd.V_reads' HO_3.out).1; omega))
                      obtain ⟨ua238_2, uc238_2, rfl, ul238_2, ge238_2⟩ := k40_openF hMe238
                      have hv238_2 := hcc238 2 _ rfl
                      rw [add_field _ _ 2 (by omega)] at hv238_2
                      replace hv238_2 := Option.some.inj (hv238_2.symm.trans hx238_2)
                      injection hv238_2 with hva_ hvn_ hvc_
                      rw [hva_] at ge238_2
                      rw [hvc_] at ul238_2
                      have HL238_2 := qH (show Kd.V k24 24 _ w.heap.size _ _ ((rd_T40 x3_1 x15_4).f1) from Kd.V_mk ul238_2 ge238_2)
                      clear hva_ hvn_ hvc_ ge238_2 ul238_2
                      clear hcc238 hce238
                      have HR238_2 := qH hi238_2
                      have HC238_2 := qH hl238_2
                      clear hi238_2 hl238_2
                      replace p238 := eq_true p238
                      replace q238 := eq_true q238
                      have ea_ := Option.some.inj (hx237_2.symm.trans hx238_2)
                      injection ea_ with ea_ en_ ec_
                      subst ea_
                      subst ec_
                      clear en_
                      have p239 : 0 ≤ (x16_5 : Int) := of_decide_eq_true (by first | (with_reducible assumption) | assumption)
                      have q239 : x16_5 < (((rd_T40 x3_1 x15_4).f1).length : Int) := of_decide_eq_true (by first | (with_reducible assumption) | assumption)
                      obtain ⟨ad239, e239, hx239_0, hx239_1⟩ := at_T24 (by repeat (first | (with_reducible exact HR238_2.out) | (with_reducible refine Kd.C_alloc ?_ _) | (with_reducible refine Kd.C_drewN ?_ _) | (with_reducible refine Kd.C_drew ?_) | exact HR238_2.out)) x16_5 p239 q239
                      cases e239
                      replace p239 := eq_true p239
                      replace q239 := eq_true q239
                      obtain ⟨Ao101, co101, eo101⟩ := Kd.R_slice HO_13.out
                      subst eo101
                      go_wp2_with (first | ((with_reducible refine gate_callee (f := 24) rfl ?_); refine goesL_ (some 136) rfl rfl Try.func24 (by kernel_rfl) rfl #[.slice Ao101 t232.length co101, .agg #[.string ((rd_T24 ((rd_T40 x3_1 x15_4).f1) x16_5).f0), .int .i64 ((rd_T24 ((rd_T40 x3_1 x15_4).f1) x16_5).f1)]] rfl (by (try simp only [List.map_toArray, List.map_cons, List.map_nil]); first | done | rfl | (simp only [List.length_drop, List.length_take]; rfl)) ?_; (with_reducible refine (codicillaw19_place.calls k5 _ _ t232 ((rd_T24 ((rd_T40 x3_1 x15_4).f1) x16_5).f0) ((rd_T24 ((rd_T40 x3_1 x15_4).f1) x16_5).f1) t240 _ ?side1 ?side2 A92.out).mono ?_); (case side1 => repeat (first | exact (Kd.R_reads' HO_13.out).2.2 | (with_reducible refine Kd.C_alloc ?_ _) | (with_reducible refine Kd.C_drewN ?_ _) | (with_reducible refine Kd.C_drew ?_))); (case side2 => exact (Kd.R_reads' HO_13.out).2.1); rintro e w102 ⟨rfl, hb⟩; refine ⟨_, rfl, ?_⟩; have n0_ := qH (Kd.V_below (by (with_reducible repeat (first | apply Kd.V_alloc | apply Kd.V_drewN | apply Kd.V_drew)); exact HO_3.out) hb); have n1_ := qH (Kd.R_below (by (with_reducible repeat (first | apply Kd.R_alloc | apply Kd.R_drewN | apply Kd.R_drew)); exact HO_13.out) hb); have n2_ := qH (Kd.V_below (by (with_reducible repeat (first | apply Kd.V_alloc | apply Kd.V_drewN | apply Kd.V_drew)); exact HL237_2.out) hb); have n3_ := qH (Kd.V_below (by (with_reducible repeat (first | apply Kd.V_alloc | apply Kd.V_drewN | apply Kd.V_drew)); exact HL238_2.out) hb); have n4_ := qH (Kd.C_below (by repeat (first | (with_reducible exact HR237_2.out) | (with_reducible refine Kd.C_alloc ?_ _) | (with_reducible refine Kd.C_drewN ?_ _) | (with_reducible refine Kd.C_drew ?_) | exact HR237_2.out)) hb); have n5_ := qH (Kd.C_below (by repeat (first | (with_reducible exact HR238_2.out) | (with_reducible refine Kd.C_alloc ?_ _) | (with_reducible refine Kd.C_drewN ?_ _) | (with_reducible refine Kd.C_drew ?_) | exact HR238_2.out)) hb); have n6_ := qH (below_step (by repeat (first | (with_reducible first | exact HB.out | apply qL | apply qJ | apply qK) | exact HB.out)) hb); clear HO_3; clear HO_13; clear HL237_2; clear HL238_2; clear HR237_2; clear HR238_2; clear HB; have HO_3 := n0_; have HO_13 := n1_; have HL237_2 := n2_; have HL238_2 := n3_; have HR237_2 := n4_; have HR238_2 := n5_; have HB := n6_; clear n0_ n1_ n2_ n3_ n4_ n5_ n6_; (try clear hb); (try clear hb2); (try clear hk); (try clear hi); have p241 : 0 ≤ (x15_4 : Int) := of_decide_eq_true (by first | (with_reducible assumption) | assumption); have q241 : x15_4 < (x3_1.length : Int) := of_decide_eq_true (by first | (with_reducible assumption) | assumption); obtain ⟨ad241, A241_2, c241_2, e241, hx241_0, hx241_1, hx241_2, hl241_2, hi241_2⟩ := at_T40 (Kd.V_reads' HO_3.out).2.2 x15_4 p241 q241; obtain rfl : ad237 = ad241 := (by injection e241); obtain ⟨ce241, hce241, hMe241, hcc241⟩ := Kd.V_get HO_3.out z40 x15_4 p241 (by first | exact q241 | exact of_decide_eq_true (by first | (with_reducible assumption) | assumption) | (have e_ := (Kd.V_reads' HO_3.out).1; omega)); obtain ⟨ua241_2, uc241_2, rfl, ul241_2, ge241_2⟩ := k40_openF hMe241; have hv241_2 := hcc241 2 _ rfl; rw [add_field _ _ 2 (by omega)] at hv241_2; replace hv241_2 := Option.some.inj (hv241_2.symm.trans hx241_2); injection hv241_2 with hva_ hvn_ hvc_; rw [hva_] at ge241_2; rw [hvc_] at ul241_2; have HL241_2 := qH (show Kd.V k24 24 _ w.heap.size _ _ ((rd_T40 x3_1 x15_4).f1) from Kd.V_mk ul241_2 ge241_2); clear hva_ hvn_ hvc_ ge241_2 ul241_2; clear hcc241 hce241; have HR241_2 := qH hi241_2; have HC241_2 := qH hl241_2; clear hi241_2 hl241_2; replace p241 := eq_true p241; replace q241 := eq_true q241) | (go_at_call 24; (with_reducible refine (codicillaw19_place.calls k5 _ _ t232 ((rd_T40 x3_1 x15_4).f0.f0) ((rd_T40 x3_1 x15_4).f0.f1) t242 _ ?side1 ?side2 A96.out).mono ?_); (case side1 => repeat (first | exact (Kd.R_reads' HO_13.out).2.2 | (with_reducible refine Kd.C_alloc ?_ _) | (with_reducible refine Kd.C_drewN ?_ _) | (with_reducible refine Kd.C_drew ?_))); (case side2 => exact (Kd.R_reads' HO_13.out).2.1); rintro e w103 ⟨rfl, hb⟩; have n0_ := qH (Kd.V_below (by (with_reducible repeat (first | apply Kd.V_alloc | apply Kd.V_drewN | apply Kd.V_drew)); exact HO_3.out) hb); have n1_ := qH (Kd.R_below (by (with_reducible repeat (first | apply Kd.R_alloc | apply Kd.R_drewN | apply Kd.R_drew)); exact HO_13.out) hb); have n2_ := qH (Kd.V_below (by (with_reducible repeat (first | apply Kd.V_alloc | apply Kd.V_drewN | apply Kd.V_drew)); exact HL237_2.out) hb); have n3_ := qH (Kd.V_below (by (with_reducible repeat (first | apply Kd.V_alloc | apply Kd.V_drewN | apply Kd.V_drew)); exact HL238_2.out) hb); have n4_ := qH (Kd.V_below (by (with_reducible repeat (first | apply Kd.V_alloc | apply Kd.V_drewN | apply Kd.V_drew)); exact HL241_2.out) hb); have n5_ := qH (Kd.C_below (by repeat (first | (with_reducible exact HR237_2.out) | (with_reducible refine Kd.C_alloc ?_ _) | (with_reducible refine Kd.C_drewN ?_ _) | (with_reducible refine Kd.C_drew ?_) | exact HR237_2.out)) hb); have n6_ := qH (Kd.C_below (by repeat (first | (with_reducible exact HR238_2.out) | (with_reducible refine Kd.C_alloc ?_ _) | (with_reducible refine Kd.C_drewN ?_ _) | (with_reducible refine Kd.C_drew ?_) | exact HR238_2.out)) hb); have n7_ := qH (Kd.C_below (by repeat (first | (with_reducible exact HR241_2.out) | (with_reducible refine Kd.C_alloc ?_ _) | (with_reducible refine Kd.C_drewN ?_ _) | (with_reducible refine Kd.C_drew ?_) | exact HR241_2.out)) hb); have n8_ := qH (below_step (by repeat (first | (with_reducible first | exact HB.out | apply qL | apply qJ | apply qK) | exact HB.out)) hb); clear HO_3; clear HO_13; clear HL237_2; clear HL238_2; clear HL241_2; clear HR237_2; clear HR238_2; clear HR241_2; clear HB; have HO_3 := n0_; have HO_13 := n1_; have HL237_2 := n2_; have HL238_2 := n3_; have HL241_2 := n4_; have HR237_2 := n5_; have HR238_2 := n6_; have HR241_2 := n7_; have HB := n8_; clear n0_ n1_ n2_ n3_ n4_ n5_ n6_ n7_ n8_; (try clear hb); (try clear hb2); (try clear hk); (try clear hi)))
                      go_roundg k5
                      case measure => have := HK1.out; have := HK2.out; have := HJ79.out; have := HK4.out; have := HK5.out; omega
                      case rel => exact ⟨(wrap64 (x16_5 + 1)), (by first | rfl | (simp; done) | (simp; exact qEmp _) | (simp [*]; done)), H', ⟨by have := HK1.out; have := HK2.out; have := HJ79.out; have := HK4.out; have := HK5.out; omega⟩, ⟨by (with_reducible repeat (first | apply Kd.V_alloc | apply Kd.V_drewN | apply Kd.V_drew)); exact HO_3.out⟩, ⟨by (with_reducible repeat (first | apply Kd.R_alloc | apply Kd.R_drewN | apply Kd.R_drew)); exact HO_13.out⟩, ⟨by repeat (first | (with_reducible first | exact HB.out | apply qL | apply qJ | apply qK) | exact HB.out)⟩⟩
                   ·rw [if_neg c91] at H
                    exact absurd H (by simp)
                  ·rw [if_neg c90] at H
                   have c90b0 : decide (x16_5 < (((rd_T40 x3_1 x15_4).f1).length : Int)) = false := decide_eq_false c90
                   clear c90
                   have H' := qH H
                   clear H
                   have p237 : 0 ≤ (x15_4 : Int) := of_decide_eq_true (by first | (with_reducible assumption) | assumption)
                   have q237 : x15_4 < (x3_1.length : Int) := of_decide_eq_true (by first | (with_reducible assumption) | assumption)
                   obtain ⟨ad237, A237_2, c237_2, e237, hx237_0, hx237_1, hx237_2, hl237_2, hi237_2⟩ := at_T40 (Kd.V_reads' HO_3.out).2.2 x15_4 p237 q237
                   cases e237
                   obtain ⟨ce237, hce237, hMe237, hcc237⟩ := Kd.V_get HO_3.out z40 x15_4 p237 (by first | exact q237 | exact of_decide_eq_true (by first | (with_reducible assumption) | assumption) | (have e_ := (Kd.V_reads' HO_3.out).1; omega))
                   obtain ⟨ua237_2, uc237_2, rfl, ul237_2, ge237_2⟩ := k40_openF hMe237
                   have hv237_2 := hcc237 2 _ rfl
                   rw [add_field _ _ 2 (by omega)] at hv237_2
                   replace hv237_2 := Option.some.inj (hv237_2.symm.trans hx237_2)
                   injection hv237_2 with hva_ hvn_ hvc_
                   rw [hva_] at ge237_2
                   rw [hvc_] at ul237_2
                   have HL237_2 := qH (show Kd.V k24 24 _ w.heap.size _ _ ((rd_T40 x3_1 x15_4).f1) from Kd.V_mk ul237_2 ge237_2)
                   clear hva_ hvn_ hvc_ ge237_2 ul237_2
                   clear hcc237 hce237
                   have HR237_2 := qH hi237_2
                   have HC237_2 := qH hl237_2
                   clear hi237_2 hl237_2
                   replace p237 := eq_true p237
                   replace q237 := eq_true q237
                   go_wp2
                   go_roundg k5
                   case measure => have := HK1.out; have := HK2.out; have := HJ79.out; have := HK4.out; have := HK5.out; omega
                   case rel => exact ⟨(wrap64 (x15_4 + 1)), (by first | rfl | (simp; done) | (simp; exact qEmp _) | (simp [*]; done)), H', ⟨by have := HK1.out; have := HK2.out; have := HJ79.out; have := HK4.out; have := HK5.out; omega⟩, ⟨by (with_reducible repeat (first | apply Kd.V_alloc | apply Kd.V_drewN | apply Kd.V_drew)); exact HO_3.out⟩, ⟨by (with_reducible repeat (first | apply Kd.R_alloc | apply Kd.R_drewN | apply Kd.R_drew)); exact HO_13.out⟩, ⟨by repeat (first | (with_reducible first | exact HB.out | apply qL | apply qJ | apply qK) | exact HB.out)⟩⟩
                 ·rw [if_neg c89] at H
                  exact absurd H (by simp)
                ·rw [if_neg c88] at H
                 exact absurd H (by simp)
             ·rw [if_neg c87] at H
              have c87b0 : decide (x15_4 < (x3_1.length : Int)) = false := decide_eq_false c87
              clear c87
              replace H := Option.bind_eq_some_iff.mp H
              obtain ⟨t236, A1040, H⟩ := H
              (try dsimp only at H)
              have A104 := qH A1040
              clear A1040
              obtain rfl := Option.some.inj H
              simp only [Option.some.injEq, Prod.mk.injEq] at H
              obtain ⟨rfl⟩ := H
              go_wp2_with (first | ((with_reducible refine gate_callee (f := 8) rfl ?_); refine goesL_ (some 150) rfl rfl Try.func8 (by kernel_rfl) rfl #[] rfl (by (try simp only [List.map_toArray, List.map_cons, List.map_nil]); first | done | rfl | (simp only [List.length_drop, List.length_take]; rfl)) ?_; (with_reducible refine (codicillaw19_alive.calls k4  t236 _ A104.out).mono ?_); rintro e w105 ⟨rfl, hb⟩; refine ⟨_, rfl, ?_⟩; have n0_ := qH (Kd.V_below (by (with_reducible repeat (first | apply Kd.V_alloc | apply Kd.V_drewN | apply Kd.V_drew)); exact HO_3.out) hb); have n1_ := qH (Kd.R_below (by (with_reducible repeat (first | apply Kd.R_alloc | apply Kd.R_drewN | apply Kd.R_drew)); exact HO_13.out) hb); have n2_ := qH (below_step (by repeat (first | (with_reducible first | exact HB.out | apply qL | apply qJ | apply qK) | exact HB.out)) hb); clear HO_3; clear HO_13; clear HB; have HO_3 := n0_; have HO_13 := n1_; have HB := n2_; clear n0_ n1_ n2_; (try clear hb); (try clear hb2); (try clear hk); (try clear hi)))
              go_ret
              exact ⟨by first | rfl | (simp [errW_none, errW_some] <;> rfl) | (simp [*, errW_none, errW_some] <;> rfl), by repeat (first | (with_reducible first | exact HB.out | apply qL | apply qJ | apply qK) | exact HB.out)⟩

end Go.Proofs.Ytddjhmelniphgaa.Print
