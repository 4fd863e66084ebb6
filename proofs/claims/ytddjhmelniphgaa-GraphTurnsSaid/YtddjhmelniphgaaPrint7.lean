-- Written by wip/tools/xprint.py of this session's repo (the kit's print, run with external functions). Lean checks it.
import Derived.Test.YtddjhmelniphgaaHLb
import Derived.Test.YtddjhmelniphgaaPrint0
import Derived.Test.YtddjhmelniphgaaPrint5
import Derived.Test.YtddjhmelniphgaaPrint6
namespace Go.Proofs.Ytddjhmelniphgaa.Print
open Go.RowKit Go.Proofs.YtddjhmelniphgaaW.PrintWords Go.Proofs.YtddjhmelniphgaaW.PrintLast Go.Proofs.YtddjhmelniphgaaW.PrintMore
attribute [local go_sem] max2_int min2_int max_two min_two max_three min_three max_four min_four   -- for this text's walks alone
set_option linter.unusedVariables false
set_option linter.unusedSimpArgs false

/-! ### codicilref19_May: function 14 -/
mutual
def codicilref19_May.l0 : Nat → List (S40) → Int → Option (Int)
 | 0, _, _ => none
 | k + 1, x0, x3 => if x3 < (x0.length : Int) then (if x3 > 0 then (if 0 ≤ (wrap64 (x3 - 1)) then (if (wrap64 (x3 - 1)) < (x0.length : Int) then (if 0 ≤ x3 then ((codicilref19_Less.f ((rd_T40 x0 (wrap64 (x3 - 1))).f0.f0) ((rd_T40 x0 (wrap64 (x3 - 1))).f0.f1) ((rd_T40 x0 x3).f0.f0) ((rd_T40 x0 x3).f0.f1)).bind fun t227 => (if t227 = true then (if (((rd_T40 x0 x3).f1).length : Int) > 16 then (some 8) else ((codicilref19_twice.f k ((rd_T40 x0 x3).f1)).bind fun t230 => (if t230 = true then (some 8) else (codicilref19_May.l0 k x0 (wrap64 (x3 + 1)))))) else (some 8))) else (none)) else (none)) else (none)) else (if 0 ≤ x3 then (if (((rd_T40 x0 x3).f1).length : Int) > 16 then (some 8) else ((codicilref19_twice.f k ((rd_T40 x0 x3).f1)).bind fun t233 => (if t233 = true then (some 8) else (codicilref19_May.l0 k x0 (wrap64 (x3 + 1)))))) else (none))) else (codicilref19_May.l1 k x0 0)
def codicilref19_May.l1 : Nat → List (S40) → Int → Option (Int)
 | 0, _, _ => none
 | k + 1, x0, x4 => if x4 < (x0.length : Int) then (codicilref19_May.l2 k x0 x4 0) else ((codicilref19_circles.f k x0).bind fun t234 => (if t234 = true then (some 8) else (some 0)))
def codicilref19_May.l2 : Nat → List (S40) → Int → Int → Option (Int)
 | 0, _, _, _ => none
 | k + 1, x0, x4, x5 => if 0 ≤ x4 then (if x4 < (x0.length : Int) then (if x5 < (((rd_T40 x0 x4).f1).length : Int) then (if 0 ≤ x5 then ((codicilref19_at.f k x0 ((rd_T24 ((rd_T40 x0 x4).f1) x5).f0) ((rd_T24 ((rd_T40 x0 x4).f1) x5).f1)).bind fun t238 => (if t238 < 0 then (some 8) else (codicilref19_May.l2 k x0 x4 (wrap64 (x5 + 1))))) else (none)) else (codicilref19_May.l1 k x0 (wrap64 (x4 + 1)))) else (none)) else (none)
end
def codicilref19_May.f (k : Nat) (l0 : List (S40)) : Option (Int) := if (l0.length : Int) > 1024 then (some 8) else (codicilref19_May.l0 k l0 0)
theorem codicilref19_May.mono_l : ∀ k, (∀ y0 y1, LeO (codicilref19_May.l0 k y0 y1) (codicilref19_May.l0 (k + 1) y0 y1)) ∧ (∀ y0 y1, LeO (codicilref19_May.l1 k y0 y1) (codicilref19_May.l1 (k + 1) y0 y1)) ∧ (∀ y0 y1 y2, LeO (codicilref19_May.l2 k y0 y1 y2) (codicilref19_May.l2 (k + 1) y0 y1 y2))
 | 0 => ⟨fun _ _ r h => by simp [codicilref19_May.l0] at h, fun _ _ r h => by simp [codicilref19_May.l1] at h, fun _ _ _ r h => by simp [codicilref19_May.l2] at h⟩
 | k + 1 => by
  obtain ⟨ih0, ih1, ih2⟩ := codicilref19_May.mono_l k
  refine ⟨?_, ?_, ?_⟩
  ·intro y0 y1
   unfold codicilref19_May.l0
   repeat' first
   | (with_reducible exact ih0 _ _)
   | (with_reducible exact ih1 _ _)
   | (with_reducible exact ih2 _ _ _)
   | (with_reducible exact codicilref19_at.mono _ _ _ _)
   | (with_reducible exact codicilref19_circles.mono _ _)
   | (with_reducible exact codicilref19_twice.mono _ _)
   | (with_reducible exact LeO.refl _)
   | (with_reducible exact LeO.none _)
   | (with_reducible refine LeO.ite ?_ ?_)
   | (with_reducible refine LeO.bind ?_ (fun _ => ?_))
   | exact ih0 _ _
   | exact ih1 _ _
   | exact ih2 _ _ _
   | exact codicilref19_at.mono _ _ _ _
   | exact codicilref19_circles.mono _ _
   | exact codicilref19_twice.mono _ _
   | exact LeO.none _
   | refine LeO.ite ?_ ?_
   | refine LeO.bind ?_ (fun _ => ?_)
  ·intro y0 y1
   unfold codicilref19_May.l1
   repeat' first
   | (with_reducible exact ih0 _ _)
   | (with_reducible exact ih1 _ _)
   | (with_reducible exact ih2 _ _ _)
   | (with_reducible exact codicilref19_at.mono _ _ _ _)
   | (with_reducible exact codicilref19_circles.mono _ _)
   | (with_reducible exact codicilref19_twice.mono _ _)
   | (with_reducible exact LeO.refl _)
   | (with_reducible exact LeO.none _)
   | (with_reducible refine LeO.ite ?_ ?_)
   | (with_reducible refine LeO.bind ?_ (fun _ => ?_))
   | exact ih0 _ _
   | exact ih1 _ _
   | exact ih2 _ _ _
   | exact codicilref19_at.mono _ _ _ _
   | exact codicilref19_circles.mono _ _
   | exact codicilref19_twice.mono _ _
   | exact LeO.none _
   | refine LeO.ite ?_ ?_
   | refine LeO.bind ?_ (fun _ => ?_)
  ·intro y0 y1 y2
   unfold codicilref19_May.l2
   repeat' first
   | (with_reducible exact ih0 _ _)
   | (with_reducible exact ih1 _ _)
   | (with_reducible exact ih2 _ _ _)
   | (with_reducible exact codicilref19_at.mono _ _ _ _)
   | (with_reducible exact codicilref19_circles.mono _ _)
   | (with_reducible exact codicilref19_twice.mono _ _)
   | (with_reducible exact LeO.refl _)
   | (with_reducible exact LeO.none _)
   | (with_reducible refine LeO.ite ?_ ?_)
   | (with_reducible refine LeO.bind ?_ (fun _ => ?_))
   | exact ih0 _ _
   | exact ih1 _ _
   | exact ih2 _ _ _
   | exact codicilref19_at.mono _ _ _ _
   | exact codicilref19_circles.mono _ _
   | exact codicilref19_twice.mono _ _
   | exact LeO.none _
   | refine LeO.ite ?_ ?_
   | refine LeO.bind ?_ (fun _ => ?_)
theorem codicilref19_May.mono : ∀ a0 k, LeO (codicilref19_May.f k a0) (codicilref19_May.f (k + 1) a0) := by
 intro a0 k
 obtain ⟨ih0, ih1, ih2⟩ := codicilref19_May.mono_l k
 unfold codicilref19_May.f
 repeat' first
   | (with_reducible exact ih0 _ _)
   | (with_reducible exact ih1 _ _)
   | (with_reducible exact ih2 _ _ _)
   | (with_reducible exact codicilref19_at.mono _ _ _ _)
   | (with_reducible exact codicilref19_circles.mono _ _)
   | (with_reducible exact codicilref19_twice.mono _ _)
   | (with_reducible exact LeO.refl _)
   | (with_reducible exact LeO.none _)
   | (with_reducible refine LeO.ite ?_ ?_)
   | (with_reducible refine LeO.bind ?_ (fun _ => ?_))
   | exact ih0 _ _
   | exact ih1 _ _
   | exact ih2 _ _ _
   | exact codicilref19_at.mono _ _ _ _
   | exact codicilref19_circles.mono _ _
   | exact codicilref19_twice.mono _ _
   | exact LeO.none _
   | refine LeO.ite ?_ ?_
   | refine LeO.bind ?_ (fun _ => ?_)
def codicilref19_May.T6 : Bool × List (List Nat × List Nat) := (true, [([], []), ([0], [0]), ([1], [1]), ([2], [2]), ([2], [2]), ([4, 2], [2, 4]), ([3, 5, 2], [2, 3, 5]), ([6, 2], [2, 6]), ([7, 2], [2, 7]), ([2], [2]), ([2], [2]), ([9, 10, 2], [2, 9, 10]), ([11, 2], [2, 11]), ([12, 2], [2, 12]), ([8, 13, 2, 2], [2, 8, 13]), ([14, 2], [2, 14]), ([2, 15], [2, 15]), ([16, 14], [16]), ([17], [17]), ([17], [17]), ([18, 19, 17], [17, 18, 19]), ([20, 17], [17, 20]), ([21, 17], [17, 21]), ([22, 17], [17, 22]), ([23, 17], [17, 23]), ([17, 24], [17, 24]), ([25, 17], [25]), ([26], [26]), ([26], [26]), ([27, 28, 26], [26, 27, 28]), ([29, 26], [26, 29]), ([30, 26], [26, 30]), ([31, 26, 26], [26, 31]), ([26, 32], [26, 32])])
def codicilref19_May.B6 : List Nat := [0, 1, 3, 7, 7, 23, 63, 127, 255, 7, 7, 1543, 3591, 7687, 16383, 32767, 65535, 131071, 262143, 262143, 1048575, 2097151, 4194303, 8388607, 16777215, 33554431, 67108863, 134217727, 134217727, 536870911, 1073741823, 2147483647, 4294967295, 8589934591]
theorem codicilref19_May.tab6 : rtab .any (opsOf Try.f14 6) = codicilref19_May.T6 := by kernel_rfl
theorem codicilref19_May.bits6 : waitsOk codicilref19_May.T6.2 codicilref19_May.B6 = true := by kernel_rfl
set_option maxHeartbeats 8000000 in
set_option maxRecDepth 100000 in
theorem codicilref19_May.calls (k : Nat) (A0 : Option Addr) (c0 : Nat) (l0 : List (S40)) (r : Int) (w : World) (hr0 : Kd.C k40 w A0 l0.length l0) (hc0 : l0.length ≤ c0) (h : codicilref19_May.f k l0 = some r) :
  Calls Try.prog 14 #[.slice A0 l0.length c0] w fun e w' => e = .returned (.int .i64 r) ∧ Below w.heap.size w w' := by
 have hu24 := Try.underlying24
 have HR0 := qH hr0
 have HC0 := qH hc0
 clear hr0 hc0
 have HB := qH (Below.refl w.heap.size w)
 have H : (if (l0.length : Int) > 1024 then (some 8) else (codicilref19_May.l0 k l0 0)) = some r := h
 clear h
 by_cases c2 : (l0.length : Int) > 1024
 ·rw [if_pos c2] at H
  have c2b0 : decide (1024 < (l0.length : Int)) = true := decide_eq_true c2
  have c2b1 : decide (1024 < l0.length) = true := decide_eq_true (by omega)
  clear c2
  obtain rfl := Option.some.inj H
  simp only [Option.some.injEq, Prod.mk.injEq] at H
  obtain ⟨rfl⟩ := H
  go_enter Try.func14, Try.ntmps14
  go_wp2
  go_ret
  exact ⟨by first | rfl | (simp [errW_none, errW_some] <;> rfl) | (simp [*, errW_none, errW_some] <;> rfl), by repeat (first | (with_reducible first | exact HB.out | apply qL | apply qJ | apply qK) | exact HB.out)⟩
 ·rw [if_neg c2] at H
  have c2b0 : decide (1024 < (l0.length : Int)) = false := decide_eq_false c2
  have c2b1 : decide (1024 < l0.length) = false := decide_eq_false (by omega)
  clear c2
  have H' := qH H
  clear H
  go_enter Try.func14, Try.ntmps14
  go_wp2
  go_loopg [3] k (fun kq v3 w' => ∃ (x3_1 : Int), v3 = .int .i64 x3_1 ∧ Aside0 (codicilref19_May.l0 kq l0 x3_1 = some r) ∧ Aside0 (kq ≤ k) ∧ Aside0 (Below w.heap.size w w'))
  case atStart => exact ⟨(0), (by first | rfl | (simp; done) | (simp; exact qEmp _) | (simp [*]; done)), H', ⟨Nat.le_refl _⟩, ⟨by repeat (first | (with_reducible first | exact HB.out | apply qL | apply qJ | apply qK) | exact HB.out)⟩⟩
  case round =>
   clear H'
   try clear c1
   try clear c2
   try clear c2b0
   try clear c2b1
   try clear p2
   obtain ⟨x3_1, rfl, HA, HK1, HB⟩ := hrel
   cases gk with
   | zero => exact absurd HA.out (by simp [codicilref19_May.l0])
   | succ k1 =>
    have H := HA.out
    clear HA
    simp only [codicilref19_May.l0] at H
    by_cases c3 : x3_1 < (l0.length : Int)
    ·rw [if_pos c3] at H
     have c3b0 : decide (x3_1 < (l0.length : Int)) = true := decide_eq_true c3
     clear c3
     by_cases c4 : x3_1 > 0
     ·rw [if_pos c4] at H
      have c4b0 : decide (0 < x3_1) = true := decide_eq_true c4
      clear c4
      obtain ⟨ji5, hji5⟩ : ∃ j_ : Int, (wrap64 (x3_1 - 1)) = j_ := ⟨_, rfl⟩
      replace H : (if 0 ≤ (ji5) then (if (ji5) < (l0.length : Int) then (if 0 ≤ x3_1 then ((codicilref19_Less.f ((rd_T40 l0 (ji5)).f0.f0) ((rd_T40 l0 (ji5)).f0.f1) ((rd_T40 l0 x3_1).f0.f0) ((rd_T40 l0 x3_1).f0.f1)).bind fun t227 => (if t227 = true then (if (((rd_T40 l0 x3_1).f1).length : Int) > 16 then (some 8) else ((codicilref19_twice.f k1 ((rd_T40 l0 x3_1).f1)).bind fun t230 => (if t230 = true then (some 8) else (codicilref19_May.l0 k1 l0 (wrap64 (x3_1 + 1)))))) else (some 8))) else (none)) else (none)) else (none)) = some r := by first | (rw [hji5] at H; exact H) | (simp only [hji5] at H ⊢; exact H)
      have hji5w : (IntKind.i64.wrap (x3_1 - 1)) = ji5 := (i64_w _).trans hji5
      by_cases c6 : 0 ≤ (ji5)
      ·rw [if_pos c6] at H
       have c6b0 : decide (0 ≤ (ji5)) = true := decide_eq_true c6
       clear c6
       by_cases c7 : (ji5) < (l0.length : Int)
       ·rw [if_pos c7] at H
        have c7b0 : decide ((ji5) < (l0.length : Int)) = true := decide_eq_true c7
        clear c7
        by_cases c8 : 0 ≤ x3_1
        ·rw [if_pos c8] at H
         have c8b0 : decide (0 ≤ x3_1) = true := decide_eq_true c8
         clear c8
         replace H := Option.bind_eq_some_iff.mp H
         obtain ⟨t227, A90, H⟩ := H
         (try dsimp only at H)
         have A9 := qH A90
         clear A90
         by_cases c10 : t227 = true
         ·subst c10
          have H1 : (if (((rd_T40 l0 x3_1).f1).length : Int) > 16 then (some 8) else ((codicilref19_twice.f k1 ((rd_T40 l0 x3_1).f1)).bind fun t230 => (if t230 = true then (some 8) else (codicilref19_May.l0 k1 l0 (wrap64 (x3_1 + 1)))))) = some r := by rw [if_pos rfl] at H; exact H
          clear H
          have H := H1
          clear H1
          by_cases c11 : (((rd_T40 l0 x3_1).f1).length : Int) > 16
          ·rw [if_pos c11] at H
           have c11b0 : decide (16 < (((rd_T40 l0 x3_1).f1).length : Int)) = true := decide_eq_true c11
           have c11b1 : decide (16 < ((rd_T40 l0 x3_1).f1).length) = true := decide_eq_true (by omega)
           clear c11
           obtain rfl := Option.some.inj H
           simp only [Option.some.injEq, Prod.mk.injEq] at H
           obtain ⟨rfl⟩ := H
           try go_wp2
           have n0_ := qH (qK HB.out)
           clear HB
           have HB := n0_
           clear n0_
           have p225 : 0 ≤ ((ji5) : Int) := of_decide_eq_true (by first | (with_reducible assumption) | assumption)
           have q225 : (ji5) < (l0.length : Int) := of_decide_eq_true (by first | (with_reducible assumption) | assumption)
           obtain ⟨ad225, A225_2, c225_2, e225, hx225_0, hx225_1, hx225_2, hl225_2, hi225_2⟩ := at_T40 HR0.out (ji5) p225 q225
           have hw225_2 := hx225_2
           have hw225_1 := hx225_1
           have hw225_0 := hx225_0
           cases e225
           replace hx225_0 := (HB.out.cell (qO w _ hx225_0)).trans hx225_0
           replace hx225_1 := (HB.out.cell (qO w _ hx225_1)).trans hx225_1
           replace hx225_2 := (HB.out.cell (qO w _ hx225_2)).trans hx225_2
           have HR225_2 := qH hi225_2
           have HC225_2 := qH hl225_2
           clear hi225_2 hl225_2
           replace p225 := eq_true p225
           replace q225 := eq_true q225
           have p226 : 0 ≤ (x3_1 : Int) := of_decide_eq_true (by first | (with_reducible assumption) | assumption)
           have q226 : x3_1 < (l0.length : Int) := of_decide_eq_true (by first | (with_reducible assumption) | assumption)
           obtain ⟨ad226, A226_2, c226_2, e226, hx226_0, hx226_1, hx226_2, hl226_2, hi226_2⟩ := at_T40 HR0.out x3_1 p226 q226
           have hw226_2 := hx226_2
           have hw226_1 := hx226_1
           have hw226_0 := hx226_0
           obtain rfl : ad225 = ad226 := (by injection e226)
           replace hx226_0 := (HB.out.cell (qO w _ hx226_0)).trans hx226_0
           replace hx226_1 := (HB.out.cell (qO w _ hx226_1)).trans hx226_1
           replace hx226_2 := (HB.out.cell (qO w _ hx226_2)).trans hx226_2
           have HR226_2 := qH hi226_2
           have HC226_2 := qH hl226_2
           clear hi226_2 hl226_2
           replace p226 := eq_true p226
           replace q226 := eq_true q226
           have p228 : 0 ≤ (x3_1 : Int) := of_decide_eq_true (by first | (with_reducible assumption) | assumption)
           have q228 : x3_1 < (l0.length : Int) := of_decide_eq_true (by first | (with_reducible assumption) | assumption)
           obtain ⟨ad228, A228_2, c228_2, e228, hx228_0, hx228_1, hx228_2, hl228_2, hi228_2⟩ := at_T40 HR0.out x3_1 p228 q228
           have hw228_2 := hx228_2
           have hw228_1 := hx228_1
           have hw228_0 := hx228_0
           obtain rfl : ad225 = ad228 := (by injection e228)
           replace hx228_0 := (HB.out.cell (qO w _ hx228_0)).trans hx228_0
           replace hx228_1 := (HB.out.cell (qO w _ hx228_1)).trans hx228_1
           replace hx228_2 := (HB.out.cell (qO w _ hx228_2)).trans hx228_2
           have HR228_2 := qH hi228_2
           have HC228_2 := qH hl228_2
           clear hi228_2 hl228_2
           replace p228 := eq_true p228
           replace q228 := eq_true q228
           have ea_ := Option.some.inj (hx226_2.symm.trans hx228_2)
           injection ea_ with ea_ en_ ec_
           subst ea_
           subst ec_
           clear en_
           refine start_ (n := 34) (S := fun w' => w'.cell? (ad225.add (((ji5)).toNat * 3)) = some (.string ((rd_T40 l0 (ji5)).f0.f0)) ∧ w'.cell? ⟨(ad225.add (((ji5)).toNat * 3)).block, (ad225.add (((ji5)).toNat * 3)).off + 1, none⟩ = some (.int .i64 ((rd_T40 l0 (ji5)).f0.f1)) ∧ w'.cell? ⟨(ad225.add (((ji5)).toNat * 3)).block, (ad225.add (((ji5)).toNat * 3)).off + 2, none⟩ = some (.slice A225_2 ((rd_T40 l0 (ji5)).f1).length c225_2) ∧ w'.cell? (ad225.add ((x3_1).toNat * 3)) = some (.string ((rd_T40 l0 x3_1).f0.f0)) ∧ w'.cell? ⟨(ad225.add ((x3_1).toNat * 3)).block, (ad225.add ((x3_1).toNat * 3)).off + 1, none⟩ = some (.int .i64 ((rd_T40 l0 x3_1).f0.f1)) ∧ w'.cell? ⟨(ad225.add ((x3_1).toNat * 3)).block, (ad225.add ((x3_1).toNat * 3)).off + 2, none⟩ = some (.slice A226_2 ((rd_T40 l0 x3_1).f1).length c226_2) ∧ w'.cell? (ad225.add ((x3_1).toNat * 3)) = some (.string ((rd_T40 l0 x3_1).f0.f0)) ∧ w'.cell? ⟨(ad225.add ((x3_1).toNat * 3)).block, (ad225.add ((x3_1).toNat * 3)).off + 1, none⟩ = some (.int .i64 ((rd_T40 l0 x3_1).f0.f1)) ∧ w'.cell? ⟨(ad225.add ((x3_1).toNat * 3)).block, (ad225.add ((x3_1).toNat * 3)).off + 2, none⟩ = some (.slice A226_2 ((rd_T40 l0 x3_1).f1).length c226_2)) (ds := []) (lb 34 0) (by kernel_rfl) rfl rfl ⟨((HB.out.cell (qO w _ hw225_0)).trans hw225_0), ((HB.out.cell (qO w _ hw225_1)).trans hw225_1), ((HB.out.cell (qO w _ hw225_2)).trans hw225_2), ((HB.out.cell (qO w _ hw226_0)).trans hw226_0), ((HB.out.cell (qO w _ hw226_1)).trans hw226_1), ((HB.out.cell (qO w _ hw226_2)).trans hw226_2), ((HB.out.cell (qO w _ hw228_0)).trans hw228_0), ((HB.out.cell (qO w _ hw228_1)).trans hw228_1), ((HB.out.cell (qO w _ hw228_2)).trans hw228_2)⟩ (fun hHeld => ?_); refine with_tabW codicilref19_May.tab6 codicilref19_May.bits6 (fun HT_ HW_ => ?_)
           generalize wr.drew = w12 at HB HR225_2 HR226_2 HR228_2 hx225_0 hx225_1 hx225_2 hx226_0 hx226_1 hx226_2 hx228_0 hx228_1 hx228_2 hHeld ⊢
           refine pure_ (i := 0) (N := some 15) (v := ?_) (a' := ?_) (lb 34 1) rfl rfl (any_of HT_.out (by kernel_rfl)) (fun _ _ _ h => h) (Or.inl ⟨by rfl, ?_⟩) ?_ ?_
           rotate_left
           ·intro w'
            go_simp
            with_reducible rfl
           rotate_left
           ·simp only [Act.put, zS, zT, zU, zV, zW]
            rfl
           refine pure_ (i := 1) (N := some 16) (v := ?_) (a' := ?_) (lb 34 3) rfl rfl (any_of HT_.out (by kernel_rfl)) (fun _ _ _ h => h) (Or.inl ⟨by rfl, ?_⟩) ?_ ?_
           rotate_left
           ·intro w'
            go_simp
            with_reducible rfl
           rotate_left
           ·simp only [Act.put, zS, zT, zU, zV, zW]
            rfl
           refine pure_ (i := 2) (N := some 17) (v := ?_) (a' := ?_) (lb 34 7) rfl rfl (any_of HT_.out (by kernel_rfl)) (fun _ _ _ h => h) (Or.inl ⟨by rfl, ?_⟩) ?_ ?_
           rotate_left
           ·intro w'
            go_simp
            with_reducible rfl
           rotate_left
           ·simp only [Act.put, zS, zT, zU, zV, zW]
            rfl
           refine pure_ (i := 3) (N := some 18) (v := ?_) (a' := ?_) (lb 34 15) rfl rfl (any_of HT_.out (by kernel_rfl)) (fun _ _ _ h => h) (Or.inl ⟨by rfl, ?_⟩) ?_ ?_
           rotate_left
           ·intro w'
            go_simp
            with_reducible rfl
           rotate_left
           ·simp only [Act.put, zS, zT, zU, zV, zW]
            rfl
           refine pure_ (i := 4) (N := some 19) (v := ?_) (a' := ?_) (lb 34 31) rfl rfl (any_of HT_.out (by kernel_rfl)) (fun _ _ _ h => h) (Or.inl ⟨by rfl, ?_⟩) ?_ ?_
           rotate_left
           ·intro w'
            go_simp
            with_reducible rfl
           rotate_left
           ·simp only [Act.put, zS, zT, zU, zV, zW]
            rfl
           refine pure_ (i := 5) (N := some 20) (v := ?_) (a' := ?_) (lb 34 63) rfl rfl (any_of HT_.out (by kernel_rfl)) (fun _ _ _ h => h) (Or.inl ⟨by rfl, ?_⟩) ?_ ?_
           rotate_left
           ·intro w'
            go_simp
            with_reducible rfl
           rotate_left
           ·simp only [Act.put, zS, zT, zU, zV, zW]
            rfl
           refine pure_ (i := 6) (N := some 21) (v := ?_) (a' := ?_) (lb 34 127) rfl rfl (any_of HT_.out (by kernel_rfl)) (fun _ _ _ h => h) (Or.inl ⟨by rfl, ?_⟩) ?_ ?_
           rotate_left
           ·intro w'
            go_simp
            with_reducible rfl
           rotate_left
           ·simp only [Act.put, zS, zT, zU, zV, zW]
            rfl
           refine pure_ (i := 7) (N := some 22) (v := ?_) (a' := ?_) (lb 34 255) rfl rfl (any_of HT_.out (by kernel_rfl)) (fun _ _ _ h => h) (Or.inl ⟨by rfl, ?_⟩) ?_ ?_
           rotate_left
           ·intro w'
            go_simp
            with_reducible rfl
           rotate_left
           ·simp only [Act.put, zS, zT, zU, zV, zW]
            rfl
           refine pure_ (i := 9) (N := some 24) (v := ?_) (a' := ?_) (lb 34 767) rfl rfl (any_of HT_.out (by kernel_rfl)) (fun _ _ _ h => h) (Or.inl ⟨by rfl, ?_⟩) ?_ ?_
           rotate_left
           ·intro w'
            go_simp
            with_reducible rfl
           rotate_left
           ·simp only [Act.put, zS, zT, zU, zV, zW]
            rfl
           refine pure_ (i := 10) (N := some 25) (v := ?_) (a' := ?_) (lb 34 1791) rfl rfl (any_of HT_.out (by kernel_rfl)) (fun _ _ _ h => h) (Or.inl ⟨by rfl, ?_⟩) ?_ ?_
           rotate_left
           ·intro w'
            go_simp
            with_reducible rfl
           rotate_left
           ·simp only [Act.put, zS, zT, zU, zV, zW]
            rfl
           refine pure_ (i := 11) (N := some 26) (v := ?_) (a' := ?_) (lb 34 3839) rfl rfl (any_of HT_.out (by kernel_rfl)) (fun _ _ _ h => h) (Or.inl ⟨by rfl, ?_⟩) ?_ ?_
           rotate_left
           ·intro w'
            go_simp
            with_reducible rfl
           rotate_left
           ·simp only [Act.put, zS, zT, zU, zV, zW]
            rfl
           refine pure_ (i := 12) (N := some 27) (v := ?_) (a' := ?_) (lb 34 7935) rfl rfl (any_of HT_.out (by kernel_rfl)) (fun _ _ _ h => h) (Or.inl ⟨by rfl, ?_⟩) ?_ ?_
           rotate_left
           ·intro w'
            go_simp
            with_reducible rfl
           rotate_left
           ·simp only [Act.put, zS, zT, zU, zV, zW]
            rfl
           refine take_ (i := 8) (N := some 23) (v := ?_) (a' := ?_) (lb 34 8191) rfl rfl (take_ofW HT_.out HW_.out (by kernel_rfl)) (fun _ _ _ h => h) (Or.inl ⟨by rfl, ?_⟩) hHeld ?_ ?_
           rotate_left
           ·rintro w' ⟨s0, s1, s2, s3, s4, s5, s6, s7, s8⟩
            go_simp
            with_reducible rfl
           rotate_left
           ·simp only [Act.put, zS, zT, zU, zV, zW]
            rfl
           refine take_ (i := 13) (N := some 28) (v := ?_) (a' := ?_) (lb 34 16383) rfl rfl (take_ofW HT_.out HW_.out (by kernel_rfl)) (fun _ _ _ h => h) (Or.inl ⟨by rfl, ?_⟩) hHeld ?_ ?_
           rotate_left
           ·rintro w' ⟨s0, s1, s2, s3, s4, s5, s6, s7, s8⟩
            go_simp
            with_reducible rfl
           rotate_left
           ·simp only [Act.put, zS, zT, zU, zV, zW]
            rfl
           refine one_ (i := 14) (N := some 29) (lb 34 32767) rfl rfl (one_of HT_.out (by kernel_rfl)) (by decide) (fun K hK => ?_)
           refine goes_ Try.func12 (by kernel_rfl) rfl #[.agg #[.string ((rd_T40 l0 (ji5)).f0.f0), .int .i64 ((rd_T40 l0 (ji5)).f0.f1)], .agg #[.string ((rd_T40 l0 x3_1).f0.f0), .int .i64 ((rd_T40 l0 x3_1).f0.f1)]] (by rfl) rfl rfl (by (try simp only [zX, zY, zZ]); first | done | (simp only [hji5]; rfl) | rfl | (simp only [zD, zE]; rfl)) ?_
           with_reducible refine (codicilref19_Less.calls ((rd_T40 l0 (ji5)).f0.f0) ((rd_T40 l0 (ji5)).f0.f1) ((rd_T40 l0 x3_1).f0.f0) ((rd_T40 l0 x3_1).f0.f1) true _ A9.out).mono ?_
           rintro e w13 ⟨rfl, hb⟩
           refine ⟨_, rfl, ?_⟩
           have n0_ := qH (below_step (by repeat (first | (with_reducible first | exact HB.out | apply qL | apply qJ | apply qK) | exact HB.out)) hb)
           clear HB
           have HB := n0_
           clear n0_
           (try clear hb)
           (try clear hb2)
           (try clear hk)
           (try clear hi)
           refine hK.out _ _ ⟨((HB.out.cell (qO w _ hw225_0)).trans hw225_0), ((HB.out.cell (qO w _ hw225_1)).trans hw225_1), ((HB.out.cell (qO w _ hw225_2)).trans hw225_2), ((HB.out.cell (qO w _ hw226_0)).trans hw226_0), ((HB.out.cell (qO w _ hw226_1)).trans hw226_1), ((HB.out.cell (qO w _ hw226_2)).trans hw226_2), ((HB.out.cell (qO w _ hw228_0)).trans hw228_0), ((HB.out.cell (qO w _ hw228_1)).trans hw228_1), ((HB.out.cell (qO w _ hw228_2)).trans hw228_2)⟩ (fun hHeld => ?_)
           clear hK K
           refine norm_ (a' := ?_) ?_ ?_
           rotate_left
           ·show Act.put _ (some 29) _ = _
            simp only [Act.put, zS, zT, zU, zV, zW]
            rfl
           refine pure_ (i := 15) (N := some 30) (v := ?_) (a' := ?_) (lb 34 65535) rfl rfl (any_of HT_.out (by kernel_rfl)) (fun _ _ _ h => h) (Or.inl ⟨by rfl, ?_⟩) ?_ ?_
           rotate_left
           ·intro w'
            go_simp
            with_reducible rfl
           rotate_left
           ·simp only [Act.put, zS, zT, zU, zV, zW]
            rfl
           refine pure_ (i := 16) (N := some 31) (v := ?_) (a' := ?_) (lb 34 131071) rfl rfl (any_of HT_.out (by kernel_rfl)) (fun _ _ _ h => h) (Or.inl ⟨by rfl, ?_⟩) ?_ ?_
           rotate_left
           ·intro w'
            go_simp
            with_reducible rfl
           rotate_left
           ·simp only [Act.put, zS, zT, zU, zV, zW]
            rfl
           refine pure_ (i := 17) (N := some 32) (v := ?_) (a' := ?_) (lb 34 262143) rfl rfl (any_of HT_.out (by kernel_rfl)) (fun _ _ _ h => h) (Or.inl ⟨by rfl, ?_⟩) ?_ ?_
           rotate_left
           ·intro w'
            go_simp
            with_reducible rfl
           rotate_left
           ·simp only [Act.put, zS, zT, zU, zV, zW]
            rfl
           refine pure_ (i := 18) (N := some 33) (v := ?_) (a' := ?_) (lb 34 524287) rfl rfl (any_of HT_.out (by kernel_rfl)) (fun _ _ _ h => h) (Or.inl ⟨by rfl, ?_⟩) ?_ ?_
           rotate_left
           ·intro w'
            go_simp
            with_reducible rfl
           rotate_left
           ·simp only [Act.put, zS, zT, zU, zV, zW]
            rfl
           refine pure_ (i := 19) (N := some 34) (v := ?_) (a' := ?_) (lb 34 1048575) rfl rfl (any_of HT_.out (by kernel_rfl)) (fun _ _ _ h => h) (Or.inl ⟨by rfl, ?_⟩) ?_ ?_
           rotate_left
           ·intro w'
            go_simp
            with_reducible rfl
           rotate_left
           ·simp only [Act.put, zS, zT, zU, zV, zW]
            rfl
           refine pure_ (i := 20) (N := some 35) (v := ?_) (a' := ?_) (lb 34 2097151) rfl rfl (any_of HT_.out (by kernel_rfl)) (fun _ _ _ h => h) (Or.inl ⟨by rfl, ?_⟩) ?_ ?_
           rotate_left
           ·intro w'
            go_simp
            with_reducible rfl
           rotate_left
           ·simp only [Act.put, zS, zT, zU, zV, zW]
            rfl
           refine pure_ (i := 21) (N := some 36) (v := ?_) (a' := ?_) (lb 34 4194303) rfl rfl (any_of HT_.out (by kernel_rfl)) (fun _ _ _ h => h) (Or.inl ⟨by rfl, ?_⟩) ?_ ?_
           rotate_left
           ·intro w'
            go_simp
            with_reducible rfl
           rotate_left
           ·simp only [Act.put, zS, zT, zU, zV, zW]
            rfl
           refine take_ (i := 22) (N := some 37) (v := ?_) (a' := ?_) (lb 34 8388607) rfl rfl (take_ofW HT_.out HW_.out (by kernel_rfl)) (fun _ _ _ h => h) (Or.inl ⟨by rfl, ?_⟩) hHeld ?_ ?_
           rotate_left
           ·rintro w' ⟨s0, s1, s2, s3, s4, s5, s6, s7, s8⟩
            go_simp
            with_reducible rfl
           rotate_left
           ·simp only [Act.put, zS, zT, zU, zV, zW]
            rfl
           refine pure_ (i := 23) (N := some 38) (v := ?_) (a' := ?_) (lb 34 16777215) rfl rfl (any_of HT_.out (by kernel_rfl)) (fun _ _ _ h => h) (Or.inl ⟨by rfl, ?_⟩) ?_ ?_
           rotate_left
           ·intro w'
            go_simp
            with_reducible rfl
           rotate_left
           ·simp only [Act.put, zS, zT, zU, zV, zW]
            rfl
           refine pure_ (i := 24) (N := some 39) (v := ?_) (a' := ?_) (lb 34 33554431) rfl rfl (any_of HT_.out (by kernel_rfl)) (fun _ _ _ h => h) (Or.inl ⟨by rfl, ?_⟩) ?_ ?_
           rotate_left
           ·intro w'
            go_simp
            with_reducible rfl
           rotate_left
           ·simp only [Act.put, zS, zT, zU, zV, zW]
            rfl
           refine pure_ (i := 25) (N := some 40) (v := ?_) (a' := ?_) (lb 34 67108863) rfl rfl (any_of HT_.out (by kernel_rfl)) (fun _ _ _ h => h) (Or.inl ⟨by rfl, ?_⟩) ?_ ?_
           rotate_left
           ·intro w'
            go_simp
            with_reducible rfl
           rotate_left
           ·simp only [Act.put, zS, zT, zU, zV, zW]
            rfl
           refine pure_ (i := 26) (N := some 41) (v := ?_) (a' := ?_) (lb 34 134217727) rfl rfl (any_of HT_.out (by kernel_rfl)) (fun _ _ _ h => h) (Or.inl ⟨by rfl, ?_⟩) ?_ ?_
           rotate_left
           ·intro w'
            go_simp
            with_reducible rfl
           rotate_left
           ·simp only [Act.put, zS, zT, zU, zV, zW]
            rfl
           refine pure_ (i := 27) (N := some 42) (v := undef) (a' := ?_) (lb 34 268435455) rfl rfl (any_of HT_.out (by kernel_rfl)) (fun _ _ _ h => h) (Or.inr ⟨by rfl, rfl⟩) ?_ ?_
           rotate_left
           ·simp only [Act.put, zS, zT, zU, zV, zW]
            rfl
           refine pure_ (i := 28) (N := some 43) (v := undef) (a' := ?_) (lb 34 536870911) rfl rfl (any_of HT_.out (by kernel_rfl)) (fun _ _ _ h => h) (Or.inr ⟨by rfl, rfl⟩) ?_ ?_
           rotate_left
           ·simp only [Act.put, zS, zT, zU, zV, zW]
            rfl
           refine pure_ (i := 29) (N := some 44) (v := undef) (a' := ?_) (lb 34 1073741823) rfl rfl (any_of HT_.out (by kernel_rfl)) (fun _ _ _ h => h) (Or.inr ⟨by rfl, rfl⟩) ?_ ?_
           rotate_left
           ·simp only [Act.put, zS, zT, zU, zV, zW]
            rfl
           refine pure_ (i := 30) (N := some 45) (v := undef) (a' := ?_) (lb 34 2147483647) rfl rfl (any_of HT_.out (by kernel_rfl)) (fun _ _ _ h => h) (Or.inr ⟨by rfl, rfl⟩) ?_ ?_
           rotate_left
           ·simp only [Act.put, zS, zT, zU, zV, zW]
            rfl
           refine pure_ (i := 31) (N := some 46) (v := undef) (a' := ?_) (lb 34 4294967295) rfl rfl (any_of HT_.out (by kernel_rfl)) (fun _ _ _ h => h) (Or.inr ⟨by rfl, rfl⟩) ?_ ?_
           rotate_left
           ·simp only [Act.put, zS, zT, zU, zV, zW]
            rfl
           refine pure_ (i := 32) (N := some 47) (v := undef) (a' := ?_) (lb 34 8589934591) rfl rfl (any_of HT_.out (by kernel_rfl)) (fun _ _ _ h => h) (Or.inr ⟨by rfl, rfl⟩) ?_ ?_
           rotate_left
           ·simp only [Act.put, zS, zT, zU, zV, zW]
            rfl
           refine pure_ (i := 33) (N := some 48) (v := ?_) (a' := ?_) (lb 34 17179869183) rfl rfl (any_of HT_.out (by kernel_rfl)) (fun _ _ _ h => h) (Or.inl ⟨by rfl, ?_⟩) ?_ ?_
           rotate_left
           ·intro w'
            go_simp
            with_reducible rfl
           rotate_left
           ·simp only [Act.put, zS, zT, zU, zV, zW]
            rfl
           refine done_ (done_of HT_.out (by kernel_rfl)) ?_
           try go_wp2
           go_ret
           exact ⟨by first | rfl | (simp [errW_none, errW_some] <;> rfl) | (simp only [← hji5]; first | rfl | (simp [errW_none, errW_some] <;> rfl)) | (simp [*, errW_none, errW_some] <;> rfl), by repeat (first | (with_reducible first | exact HB.out | apply qL | apply qJ | apply qK) | exact HB.out)⟩
          ·rw [if_neg c11] at H
           have c11b0 : decide (16 < (((rd_T40 l0 x3_1).f1).length : Int)) = false := decide_eq_false c11
           have c11b1 : decide (16 < ((rd_T40 l0 x3_1).f1).length) = false := decide_eq_false (by omega)
           clear c11
           replace H := Option.bind_eq_some_iff.mp H
           obtain ⟨t230, A140, H⟩ := H
           (try dsimp only at H)
           have A14 := qH A140
           clear A140
           by_cases c15 : t230 = true
           ·subst c15
            have H1 : (some 8) = some r := by rw [if_pos rfl] at H; exact H
            clear H
            have H := H1
            clear H1
            obtain rfl := Option.some.inj H
            simp only [Option.some.injEq, Prod.mk.injEq] at H
            obtain ⟨rfl⟩ := H
            try go_wp2
            have n0_ := qH (qK HB.out)
            clear HB
            have HB := n0_
            clear n0_
            have p225 : 0 ≤ ((ji5) : Int) := of_decide_eq_true (by first | (with_reducible assumption) | assumption)
            have q225 : (ji5) < (l0.length : Int) := of_decide_eq_true (by first | (with_reducible assumption) | assumption)
            obtain ⟨ad225, A225_2, c225_2, e225, hx225_0, hx225_1, hx225_2, hl225_2, hi225_2⟩ := at_T40 HR0.out (ji5) p225 q225
            have hw225_2 := hx225_2
            have hw225_1 := hx225_1
            have hw225_0 := hx225_0
            cases e225
            replace hx225_0 := (HB.out.cell (qO w _ hx225_0)).trans hx225_0
            replace hx225_1 := (HB.out.cell (qO w _ hx225_1)).trans hx225_1
            replace hx225_2 := (HB.out.cell (qO w _ hx225_2)).trans hx225_2
            have HR225_2 := qH hi225_2
            have HC225_2 := qH hl225_2
            clear hi225_2 hl225_2
            replace p225 := eq_true p225
            replace q225 := eq_true q225
            have p226 : 0 ≤ (x3_1 : Int) := of_decide_eq_true (by first | (with_reducible assumption) | assumption)
            have q226 : x3_1 < (l0.length : Int) := of_decide_eq_true (by first | (with_reducible assumption) | assumption)
            obtain ⟨ad226, A226_2, c226_2, e226, hx226_0, hx226_1, hx226_2, hl226_2, hi226_2⟩ := at_T40 HR0.out x3_1 p226 q226
            have hw226_2 := hx226_2
            have hw226_1 := hx226_1
            have hw226_0 := hx226_0
            obtain rfl : ad225 = ad226 := (by injection e226)
            replace hx226_0 := (HB.out.cell (qO w _ hx226_0)).trans hx226_0
            replace hx226_1 := (HB.out.cell (qO w _ hx226_1)).trans hx226_1
            replace hx226_2 := (HB.out.cell (qO w _ hx226_2)).trans hx226_2
            have HR226_2 := qH hi226_2
            have HC226_2 := qH hl226_2
            clear hi226_2 hl226_2
            replace p226 := eq_true p226
            replace q226 := eq_true q226
            have p228 : 0 ≤ (x3_1 : Int) := of_decide_eq_true (by first | (with_reducible assumption) | assumption)
            have q228 : x3_1 < (l0.length : Int) := of_decide_eq_true (by first | (with_reducible assumption) | assumption)
            obtain ⟨ad228, A228_2, c228_2, e228, hx228_0, hx228_1, hx228_2, hl228_2, hi228_2⟩ := at_T40 HR0.out x3_1 p228 q228
            have hw228_2 := hx228_2
            have hw228_1 := hx228_1
            have hw228_0 := hx228_0
            obtain rfl : ad225 = ad228 := (by injection e228)
            replace hx228_0 := (HB.out.cell (qO w _ hx228_0)).trans hx228_0
            replace hx228_1 := (HB.out.cell (qO w _ hx228_1)).trans hx228_1
            replace hx228_2 := (HB.out.cell (qO w _ hx228_2)).trans hx228_2
            have HR228_2 := qH hi228_2
            have HC228_2 := qH hl228_2
            clear hi228_2 hl228_2
            replace p228 := eq_true p228
            replace q228 := eq_true q228
            have ea_ := Option.some.inj (hx226_2.symm.trans hx228_2)
            injection ea_ with ea_ en_ ec_
            subst ea_
            subst ec_
            clear en_
            have p229 : 0 ≤ (x3_1 : Int) := of_decide_eq_true (by first | (with_reducible assumption) | assumption)
            have q229 : x3_1 < (l0.length : Int) := of_decide_eq_true (by first | (with_reducible assumption) | assumption)
            obtain ⟨ad229, A229_2, c229_2, e229, hx229_0, hx229_1, hx229_2, hl229_2, hi229_2⟩ := at_T40 HR0.out x3_1 p229 q229
            have hw229_2 := hx229_2
            have hw229_1 := hx229_1
            have hw229_0 := hx229_0
            obtain rfl : ad225 = ad229 := (by injection e229)
            replace hx229_0 := (HB.out.cell (qO w _ hx229_0)).trans hx229_0
            replace hx229_1 := (HB.out.cell (qO w _ hx229_1)).trans hx229_1
            replace hx229_2 := (HB.out.cell (qO w _ hx229_2)).trans hx229_2
            have HR229_2 := qH hi229_2
            have HC229_2 := qH hl229_2
            clear hi229_2 hl229_2
            replace p229 := eq_true p229
            replace q229 := eq_true q229
            have ea_ := Option.some.inj (hx226_2.symm.trans hx229_2)
            injection ea_ with ea_ en_ ec_
            subst ea_
            subst ec_
            clear en_
            refine start_ (n := 34) (S := fun w' => w'.cell? (ad225.add (((ji5)).toNat * 3)) = some (.string ((rd_T40 l0 (ji5)).f0.f0)) ∧ w'.cell? ⟨(ad225.add (((ji5)).toNat * 3)).block, (ad225.add (((ji5)).toNat * 3)).off + 1, none⟩ = some (.int .i64 ((rd_T40 l0 (ji5)).f0.f1)) ∧ w'.cell? ⟨(ad225.add (((ji5)).toNat * 3)).block, (ad225.add (((ji5)).toNat * 3)).off + 2, none⟩ = some (.slice A225_2 ((rd_T40 l0 (ji5)).f1).length c225_2) ∧ w'.cell? (ad225.add ((x3_1).toNat * 3)) = some (.string ((rd_T40 l0 x3_1).f0.f0)) ∧ w'.cell? ⟨(ad225.add ((x3_1).toNat * 3)).block, (ad225.add ((x3_1).toNat * 3)).off + 1, none⟩ = some (.int .i64 ((rd_T40 l0 x3_1).f0.f1)) ∧ w'.cell? ⟨(ad225.add ((x3_1).toNat * 3)).block, (ad225.add ((x3_1).toNat * 3)).off + 2, none⟩ = some (.slice A226_2 ((rd_T40 l0 x3_1).f1).length c226_2) ∧ w'.cell? (ad225.add ((x3_1).toNat * 3)) = some (.string ((rd_T40 l0 x3_1).f0.f0)) ∧ w'.cell? ⟨(ad225.add ((x3_1).toNat * 3)).block, (ad225.add ((x3_1).toNat * 3)).off + 1, none⟩ = some (.int .i64 ((rd_T40 l0 x3_1).f0.f1)) ∧ w'.cell? ⟨(ad225.add ((x3_1).toNat * 3)).block, (ad225.add ((x3_1).toNat * 3)).off + 2, none⟩ = some (.slice A226_2 ((rd_T40 l0 x3_1).f1).length c226_2) ∧ w'.cell? (ad225.add ((x3_1).toNat * 3)) = some (.string ((rd_T40 l0 x3_1).f0.f0)) ∧ w'.cell? ⟨(ad225.add ((x3_1).toNat * 3)).block, (ad225.add ((x3_1).toNat * 3)).off + 1, none⟩ = some (.int .i64 ((rd_T40 l0 x3_1).f0.f1)) ∧ w'.cell? ⟨(ad225.add ((x3_1).toNat * 3)).block, (ad225.add ((x3_1).toNat * 3)).off + 2, none⟩ = some (.slice A226_2 ((rd_T40 l0 x3_1).f1).length c226_2)) (ds := []) (lb 34 0) (by kernel_rfl) rfl rfl ⟨((HB.out.cell (qO w _ hw225_0)).trans hw225_0), ((HB.out.cell (qO w _ hw225_1)).trans hw225_1), ((HB.out.cell (qO w _ hw225_2)).trans hw225_2), ((HB.out.cell (qO w _ hw226_0)).trans hw226_0), ((HB.out.cell (qO w _ hw226_1)).trans hw226_1), ((HB.out.cell (qO w _ hw226_2)).trans hw226_2), ((HB.out.cell (qO w _ hw228_0)).trans hw228_0), ((HB.out.cell (qO w _ hw228_1)).trans hw228_1), ((HB.out.cell (qO w _ hw228_2)).trans hw228_2), ((HB.out.cell (qO w _ hw229_0)).trans hw229_0), ((HB.out.cell (qO w _ hw229_1)).trans hw229_1), ((HB.out.cell (qO w _ hw229_2)).trans hw229_2)⟩ (fun hHeld => ?_); refine with_tabW codicilref19_May.tab6 codicilref19_May.bits6 (fun HT_ HW_ => ?_)
            generalize wr.drew = w16 at HB HR225_2 HR226_2 HR228_2 HR229_2 hx225_0 hx225_1 hx225_2 hx226_0 hx226_1 hx226_2 hx228_0 hx228_1 hx228_2 hx229_0 hx229_1 hx229_2 hHeld ⊢
            refine pure_ (i := 0) (N := some 15) (v := ?_) (a' := ?_) (lb 34 1) rfl rfl (any_of HT_.out (by kernel_rfl)) (fun _ _ _ h => h) (Or.inl ⟨by rfl, ?_⟩) ?_ ?_
            rotate_left
            ·intro w'
             go_simp
             with_reducible rfl
            rotate_left
            ·simp only [Act.put, zS, zT, zU, zV, zW]
             rfl
            refine pure_ (i := 1) (N := some 16) (v := ?_) (a' := ?_) (lb 34 3) rfl rfl (any_of HT_.out (by kernel_rfl)) (fun _ _ _ h => h) (Or.inl ⟨by rfl, ?_⟩) ?_ ?_
            rotate_left
            ·intro w'
             go_simp
             with_reducible rfl
            rotate_left
            ·simp only [Act.put, zS, zT, zU, zV, zW]
             rfl
            refine pure_ (i := 2) (N := some 17) (v := ?_) (a' := ?_) (lb 34 7) rfl rfl (any_of HT_.out (by kernel_rfl)) (fun _ _ _ h => h) (Or.inl ⟨by rfl, ?_⟩) ?_ ?_
            rotate_left
            ·intro w'
             go_simp
             with_reducible rfl
            rotate_left
            ·simp only [Act.put, zS, zT, zU, zV, zW]
             rfl
            refine pure_ (i := 3) (N := some 18) (v := ?_) (a' := ?_) (lb 34 15) rfl rfl (any_of HT_.out (by kernel_rfl)) (fun _ _ _ h => h) (Or.inl ⟨by rfl, ?_⟩) ?_ ?_
            rotate_left
            ·intro w'
             go_simp
             with_reducible rfl
            rotate_left
            ·simp only [Act.put, zS, zT, zU, zV, zW]
             rfl
            refine pure_ (i := 4) (N := some 19) (v := ?_) (a' := ?_) (lb 34 31) rfl rfl (any_of HT_.out (by kernel_rfl)) (fun _ _ _ h => h) (Or.inl ⟨by rfl, ?_⟩) ?_ ?_
            rotate_left
            ·intro w'
             go_simp
             with_reducible rfl
            rotate_left
            ·simp only [Act.put, zS, zT, zU, zV, zW]
             rfl
            refine pure_ (i := 5) (N := some 20) (v := ?_) (a' := ?_) (lb 34 63) rfl rfl (any_of HT_.out (by kernel_rfl)) (fun _ _ _ h => h) (Or.inl ⟨by rfl, ?_⟩) ?_ ?_
            rotate_left
            ·intro w'
             go_simp
             with_reducible rfl
            rotate_left
            ·simp only [Act.put, zS, zT, zU, zV, zW]
             rfl
            refine pure_ (i := 6) (N := some 21) (v := ?_) (a' := ?_) (lb 34 127) rfl rfl (any_of HT_.out (by kernel_rfl)) (fun _ _ _ h => h) (Or.inl ⟨by rfl, ?_⟩) ?_ ?_
            rotate_left
            ·intro w'
             go_simp
             with_reducible rfl
            rotate_left
            ·simp only [Act.put, zS, zT, zU, zV, zW]
             rfl
            refine pure_ (i := 7) (N := some 22) (v := ?_) (a' := ?_) (lb 34 255) rfl rfl (any_of HT_.out (by kernel_rfl)) (fun _ _ _ h => h) (Or.inl ⟨by rfl, ?_⟩) ?_ ?_
            rotate_left
            ·intro w'
             go_simp
             with_reducible rfl
            rotate_left
            ·simp only [Act.put, zS, zT, zU, zV, zW]
             rfl
            refine pure_ (i := 9) (N := some 24) (v := ?_) (a' := ?_) (lb 34 767) rfl rfl (any_of HT_.out (by kernel_rfl)) (fun _ _ _ h => h) (Or.inl ⟨by rfl, ?_⟩) ?_ ?_
            rotate_left
            ·intro w'
             go_simp
             with_reducible rfl
            rotate_left
            ·simp only [Act.put, zS, zT, zU, zV, zW]
             rfl
            refine pure_ (i := 10) (N := some 25) (v := ?_) (a' := ?_) (lb 34 1791) rfl rfl (any_of HT_.out (by kernel_rfl)) (fun _ _ _ h => h) (Or.inl ⟨by rfl, ?_⟩) ?_ ?_
            rotate_left
            ·intro w'
             go_simp
             with_reducible rfl
            rotate_left
            ·simp only [Act.put, zS, zT, zU, zV, zW]
             rfl
            refine pure_ (i := 11) (N := some 26) (v := ?_) (a' := ?_) (lb 34 3839) rfl rfl (any_of HT_.out (by kernel_rfl)) (fun _ _ _ h => h) (Or.inl ⟨by rfl, ?_⟩) ?_ ?_
            rotate_left
            ·intro w'
             go_simp
             with_reducible rfl
            rotate_left
            ·simp only [Act.put, zS, zT, zU, zV, zW]
             rfl
            refine pure_ (i := 12) (N := some 27) (v := ?_) (a' := ?_) (lb 34 7935) rfl rfl (any_of HT_.out (by kernel_rfl)) (fun _ _ _ h => h) (Or.inl ⟨by rfl, ?_⟩) ?_ ?_
            rotate_left
            ·intro w'
             go_simp
             with_reducible rfl
            rotate_left
            ·simp only [Act.put, zS, zT, zU, zV, zW]
             rfl
            refine take_ (i := 8) (N := some 23) (v := ?_) (a' := ?_) (lb 34 8191) rfl rfl (take_ofW HT_.out HW_.out (by kernel_rfl)) (fun _ _ _ h => h) (Or.inl ⟨by rfl, ?_⟩) hHeld ?_ ?_
            rotate_left
            ·rintro w' ⟨s0, s1, s2, s3, s4, s5, s6, s7, s8, s9, s10, s11⟩
             go_simp
             with_reducible rfl
            rotate_left
            ·simp only [Act.put, zS, zT, zU, zV, zW]
             rfl
            refine take_ (i := 13) (N := some 28) (v := ?_) (a' := ?_) (lb 34 16383) rfl rfl (take_ofW HT_.out HW_.out (by kernel_rfl)) (fun _ _ _ h => h) (Or.inl ⟨by rfl, ?_⟩) hHeld ?_ ?_
            rotate_left
            ·rintro w' ⟨s0, s1, s2, s3, s4, s5, s6, s7, s8, s9, s10, s11⟩
             go_simp
             with_reducible rfl
            rotate_left
            ·simp only [Act.put, zS, zT, zU, zV, zW]
             rfl
            refine one_ (i := 14) (N := some 29) (lb 34 32767) rfl rfl (one_of HT_.out (by kernel_rfl)) (by decide) (fun K hK => ?_)
            refine goes_ Try.func12 (by kernel_rfl) rfl #[.agg #[.string ((rd_T40 l0 (ji5)).f0.f0), .int .i64 ((rd_T40 l0 (ji5)).f0.f1)], .agg #[.string ((rd_T40 l0 x3_1).f0.f0), .int .i64 ((rd_T40 l0 x3_1).f0.f1)]] (by rfl) rfl rfl (by (try simp only [zX, zY, zZ]); first | done | (simp only [hji5]; rfl) | rfl | (simp only [zD, zE]; rfl)) ?_
            with_reducible refine (codicilref19_Less.calls ((rd_T40 l0 (ji5)).f0.f0) ((rd_T40 l0 (ji5)).f0.f1) ((rd_T40 l0 x3_1).f0.f0) ((rd_T40 l0 x3_1).f0.f1) true _ A9.out).mono ?_
            rintro e w17 ⟨rfl, hb⟩
            refine ⟨_, rfl, ?_⟩
            have n0_ := qH (below_step (by repeat (first | (with_reducible first | exact HB.out | apply qL | apply qJ | apply qK) | exact HB.out)) hb)
            clear HB
            have HB := n0_
            clear n0_
            (try clear hb)
            (try clear hb2)
            (try clear hk)
            (try clear hi)
            refine hK.out _ _ ⟨((HB.out.cell (qO w _ hw225_0)).trans hw225_0), ((HB.out.cell (qO w _ hw225_1)).trans hw225_1), ((HB.out.cell (qO w _ hw225_2)).trans hw225_2), ((HB.out.cell (qO w _ hw226_0)).trans hw226_0), ((HB.out.cell (qO w _ hw226_1)).trans hw226_1), ((HB.out.cell (qO w _ hw226_2)).trans hw226_2), ((HB.out.cell (qO w _ hw228_0)).trans hw228_0), ((HB.out.cell (qO w _ hw228_1)).trans hw228_1), ((HB.out.cell (qO w _ hw228_2)).trans hw228_2), ((HB.out.cell (qO w _ hw229_0)).trans hw229_0), ((HB.out.cell (qO w _ hw229_1)).trans hw229_1), ((HB.out.cell (qO w _ hw229_2)).trans hw229_2)⟩ (fun hHeld => ?_)
            clear hK K
            refine norm_ (a' := ?_) ?_ ?_
            rotate_left
            ·show Act.put _ (some 29) _ = _
             simp only [Act.put, zS, zT, zU, zV, zW]
             rfl
            refine pure_ (i := 15) (N := some 30) (v := ?_) (a' := ?_) (lb 34 65535) rfl rfl (any_of HT_.out (by kernel_rfl)) (fun _ _ _ h => h) (Or.inl ⟨by rfl, ?_⟩) ?_ ?_
            rotate_left
            ·intro w'
             go_simp
             with_reducible rfl
            rotate_left
            ·simp only [Act.put, zS, zT, zU, zV, zW]
             rfl
            refine pure_ (i := 16) (N := some 31) (v := ?_) (a' := ?_) (lb 34 131071) rfl rfl (any_of HT_.out (by kernel_rfl)) (fun _ _ _ h => h) (Or.inl ⟨by rfl, ?_⟩) ?_ ?_
            rotate_left
            ·intro w'
             go_simp
             with_reducible rfl
            rotate_left
            ·simp only [Act.put, zS, zT, zU, zV, zW]
             rfl
            refine pure_ (i := 17) (N := some 32) (v := ?_) (a' := ?_) (lb 34 262143) rfl rfl (any_of HT_.out (by kernel_rfl)) (fun _ _ _ h => h) (Or.inl ⟨by rfl, ?_⟩) ?_ ?_
            rotate_left
            ·intro w'
             go_simp
             with_reducible rfl
            rotate_left
            ·simp only [Act.put, zS, zT, zU, zV, zW]
             rfl
            refine pure_ (i := 18) (N := some 33) (v := ?_) (a' := ?_) (lb 34 524287) rfl rfl (any_of HT_.out (by kernel_rfl)) (fun _ _ _ h => h) (Or.inl ⟨by rfl, ?_⟩) ?_ ?_
            rotate_left
            ·intro w'
             go_simp
             with_reducible rfl
            rotate_left
            ·simp only [Act.put, zS, zT, zU, zV, zW]
             rfl
            refine pure_ (i := 19) (N := some 34) (v := ?_) (a' := ?_) (lb 34 1048575) rfl rfl (any_of HT_.out (by kernel_rfl)) (fun _ _ _ h => h) (Or.inl ⟨by rfl, ?_⟩) ?_ ?_
            rotate_left
            ·intro w'
             go_simp
             with_reducible rfl
            rotate_left
            ·simp only [Act.put, zS, zT, zU, zV, zW]
             rfl
            refine pure_ (i := 20) (N := some 35) (v := ?_) (a' := ?_) (lb 34 2097151) rfl rfl (any_of HT_.out (by kernel_rfl)) (fun _ _ _ h => h) (Or.inl ⟨by rfl, ?_⟩) ?_ ?_
            rotate_left
            ·intro w'
             go_simp
             with_reducible rfl
            rotate_left
            ·simp only [Act.put, zS, zT, zU, zV, zW]
             rfl
            refine pure_ (i := 21) (N := some 36) (v := ?_) (a' := ?_) (lb 34 4194303) rfl rfl (any_of HT_.out (by kernel_rfl)) (fun _ _ _ h => h) (Or.inl ⟨by rfl, ?_⟩) ?_ ?_
            rotate_left
            ·intro w'
             go_simp
             with_reducible rfl
            rotate_left
            ·simp only [Act.put, zS, zT, zU, zV, zW]
             rfl
            refine take_ (i := 22) (N := some 37) (v := ?_) (a' := ?_) (lb 34 8388607) rfl rfl (take_ofW HT_.out HW_.out (by kernel_rfl)) (fun _ _ _ h => h) (Or.inl ⟨by rfl, ?_⟩) hHeld ?_ ?_
            rotate_left
            ·rintro w' ⟨s0, s1, s2, s3, s4, s5, s6, s7, s8, s9, s10, s11⟩
             go_simp
             with_reducible rfl
            rotate_left
            ·simp only [Act.put, zS, zT, zU, zV, zW]
             rfl
            refine pure_ (i := 23) (N := some 38) (v := ?_) (a' := ?_) (lb 34 16777215) rfl rfl (any_of HT_.out (by kernel_rfl)) (fun _ _ _ h => h) (Or.inl ⟨by rfl, ?_⟩) ?_ ?_
            rotate_left
            ·intro w'
             go_simp
             with_reducible rfl
            rotate_left
            ·simp only [Act.put, zS, zT, zU, zV, zW]
             rfl
            refine pure_ (i := 24) (N := some 39) (v := ?_) (a' := ?_) (lb 34 33554431) rfl rfl (any_of HT_.out (by kernel_rfl)) (fun _ _ _ h => h) (Or.inl ⟨by rfl, ?_⟩) ?_ ?_
            rotate_left
            ·intro w'
             go_simp
             with_reducible rfl
            rotate_left
            ·simp only [Act.put, zS, zT, zU, zV, zW]
             rfl
            refine pure_ (i := 25) (N := some 40) (v := ?_) (a' := ?_) (lb 34 67108863) rfl rfl (any_of HT_.out (by kernel_rfl)) (fun _ _ _ h => h) (Or.inl ⟨by rfl, ?_⟩) ?_ ?_
            rotate_left
            ·intro w'
             go_simp
             with_reducible rfl
            rotate_left
            ·simp only [Act.put, zS, zT, zU, zV, zW]
             rfl
            refine pure_ (i := 26) (N := some 41) (v := ?_) (a' := ?_) (lb 34 134217727) rfl rfl (any_of HT_.out (by kernel_rfl)) (fun _ _ _ h => h) (Or.inl ⟨by rfl, ?_⟩) ?_ ?_
            rotate_left
            ·intro w'
             go_simp
             with_reducible rfl
            rotate_left
            ·simp only [Act.put, zS, zT, zU, zV, zW]
             rfl
            refine pure_ (i := 27) (N := some 42) (v := ?_) (a' := ?_) (lb 34 268435455) rfl rfl (any_of HT_.out (by kernel_rfl)) (fun _ _ _ h => h) (Or.inl ⟨by rfl, ?_⟩) ?_ ?_
            rotate_left
            ·intro w'
             go_simp
             with_reducible rfl
            rotate_left
            ·simp only [Act.put, zS, zT, zU, zV, zW]
             rfl
            refine pure_ (i := 28) (N := some 43) (v := ?_) (a' := ?_) (lb 34 536870911) rfl rfl (any_of HT_.out (by kernel_rfl)) (fun _ _ _ h => h) (Or.inl ⟨by rfl, ?_⟩) ?_ ?_
            rotate_left
            ·intro w'
             go_simp
             with_reducible rfl
            rotate_left
            ·simp only [Act.put, zS, zT, zU, zV, zW]
             rfl
            refine pure_ (i := 29) (N := some 44) (v := ?_) (a' := ?_) (lb 34 1073741823) rfl rfl (any_of HT_.out (by kernel_rfl)) (fun _ _ _ h => h) (Or.inl ⟨by rfl, ?_⟩) ?_ ?_
            rotate_left
            ·intro w'
             go_simp
             with_reducible rfl
            rotate_left
            ·simp only [Act.put, zS, zT, zU, zV, zW]
             rfl
            refine pure_ (i := 30) (N := some 45) (v := ?_) (a' := ?_) (lb 34 2147483647) rfl rfl (any_of HT_.out (by kernel_rfl)) (fun _ _ _ h => h) (Or.inl ⟨by rfl, ?_⟩) ?_ ?_
            rotate_left
            ·intro w'
             go_simp
             with_reducible rfl
            rotate_left
            ·simp only [Act.put, zS, zT, zU, zV, zW]
             rfl
            refine take_ (i := 31) (N := some 46) (v := ?_) (a' := ?_) (lb 34 4294967295) rfl rfl (take_ofW HT_.out HW_.out (by kernel_rfl)) (fun _ _ _ h => h) (Or.inl ⟨by rfl, ?_⟩) hHeld ?_ ?_
            rotate_left
            ·rintro w' ⟨s0, s1, s2, s3, s4, s5, s6, s7, s8, s9, s10, s11⟩
             go_simp
             with_reducible rfl
            rotate_left
            ·simp only [Act.put, zS, zT, zU, zV, zW]
             rfl
            refine one_ (i := 32) (N := some 47) (lb 34 8589934591) rfl rfl (one_of HT_.out (by kernel_rfl)) (by decide) (fun K hK => ?_)
            refine goes_ Try.func35 (by kernel_rfl) rfl #[.slice A226_2 ((rd_T40 l0 x3_1).f1).length c226_2] (by rfl) rfl rfl (by (try simp only [zX, zY, zZ]); first | done | rfl | (simp only [zD, zE]; rfl)) ?_
            with_reducible refine (codicilref19_twice.calls k1 _ _ ((rd_T40 l0 x3_1).f1) true _ ?side1 ?side2 A14.out).mono ?_
            (case side1 => repeat (first | exact (Kd.C_below HR229_2.out HB.out) | (with_reducible refine Kd.C_alloc ?_ _) | (with_reducible refine Kd.C_drewN ?_ _) | (with_reducible refine Kd.C_drew ?_)))
            (case side2 => exact HC229_2.out)
            rintro e w' ⟨rfl, ⟨nd, rfl⟩⟩
            refine ⟨_, rfl, ?_⟩
            refine hK.out _ _ ⟨((HB.out.cell (qO w _ hw225_0)).trans hw225_0), ((HB.out.cell (qO w _ hw225_1)).trans hw225_1), ((HB.out.cell (qO w _ hw225_2)).trans hw225_2), ((HB.out.cell (qO w _ hw226_0)).trans hw226_0), ((HB.out.cell (qO w _ hw226_1)).trans hw226_1), ((HB.out.cell (qO w _ hw226_2)).trans hw226_2), ((HB.out.cell (qO w _ hw228_0)).trans hw228_0), ((HB.out.cell (qO w _ hw228_1)).trans hw228_1), ((HB.out.cell (qO w _ hw228_2)).trans hw228_2), ((HB.out.cell (qO w _ hw229_0)).trans hw229_0), ((HB.out.cell (qO w _ hw229_1)).trans hw229_1), ((HB.out.cell (qO w _ hw229_2)).trans hw229_2)⟩ (fun hHeld => ?_)
            clear hK K
            refine norm_ (a' := ?_) ?_ ?_
            rotate_left
            ·show Act.put _ (some 47) _ = _
             simp only [Act.put, zS, zT, zU, zV, zW]
             rfl
            refine pure_ (i := 33) (N := some 48) (v := ?_) (a' := ?_) (lb 34 17179869183) rfl rfl (any_of HT_.out (by kernel_rfl)) (fun _ _ _ h => h) (Or.inl ⟨by rfl, ?_⟩) ?_ ?_
            rotate_left
            ·intro w'
             go_simp
             with_reducible rfl
            rotate_left
            ·simp only [Act.put, zS, zT, zU, zV, zW]
             rfl
            refine done_ (done_of HT_.out (by kernel_rfl)) ?_
            try go_wp2
            go_ret
            exact ⟨by first | rfl | (simp [errW_none, errW_some] <;> rfl) | (simp only [← hji5]; first | rfl | (simp [errW_none, errW_some] <;> rfl)) | (simp [*, errW_none, errW_some] <;> rfl), by repeat (first | (with_reducible first | exact HB.out | apply qL | apply qJ | apply qK) | exact HB.out)⟩
           ·replace c15 := Bool.eq_false_iff.mpr c15
            subst c15
            have H1 : (codicilref19_May.l0 k1 l0 (wrap64 (x3_1 + 1))) = some r := by rw [if_neg (show ¬ (false = true) by decide)] at H; exact H
            clear H
            have H := H1
            clear H1
            have H' := qH H
            clear H
            try go_wp2
            have n0_ := qH (qK HB.out)
            clear HB
            have HB := n0_
            clear n0_
            have p225 : 0 ≤ ((ji5) : Int) := of_decide_eq_true (by first | (with_reducible assumption) | assumption)
            have q225 : (ji5) < (l0.length : Int) := of_decide_eq_true (by first | (with_reducible assumption) | assumption)
            obtain ⟨ad225, A225_2, c225_2, e225, hx225_0, hx225_1, hx225_2, hl225_2, hi225_2⟩ := at_T40 HR0.out (ji5) p225 q225
            have hw225_2 := hx225_2
            have hw225_1 := hx225_1
            have hw225_0 := hx225_0
            cases e225
            replace hx225_0 := (HB.out.cell (qO w _ hx225_0)).trans hx225_0
            replace hx225_1 := (HB.out.cell (qO w _ hx225_1)).trans hx225_1
            replace hx225_2 := (HB.out.cell (qO w _ hx225_2)).trans hx225_2
            have HR225_2 := qH hi225_2
            have HC225_2 := qH hl225_2
            clear hi225_2 hl225_2
            replace p225 := eq_true p225
            replace q225 := eq_true q225
            have p226 : 0 ≤ (x3_1 : Int) := of_decide_eq_true (by first | (with_reducible assumption) | assumption)
            have q226 : x3_1 < (l0.length : Int) := of_decide_eq_true (by first | (with_reducible assumption) | assumption)
            obtain ⟨ad226, A226_2, c226_2, e226, hx226_0, hx226_1, hx226_2, hl226_2, hi226_2⟩ := at_T40 HR0.out x3_1 p226 q226
            have hw226_2 := hx226_2
            have hw226_1 := hx226_1
            have hw226_0 := hx226_0
            obtain rfl : ad225 = ad226 := (by injection e226)
            replace hx226_0 := (HB.out.cell (qO w _ hx226_0)).trans hx226_0
            replace hx226_1 := (HB.out.cell (qO w _ hx226_1)).trans hx226_1
            replace hx226_2 := (HB.out.cell (qO w _ hx226_2)).trans hx226_2
            have HR226_2 := qH hi226_2
            have HC226_2 := qH hl226_2
            clear hi226_2 hl226_2
            replace p226 := eq_true p226
            replace q226 := eq_true q226
            have p228 : 0 ≤ (x3_1 : Int) := of_decide_eq_true (by first | (with_reducible assumption) | assumption)
            have q228 : x3_1 < (l0.length : Int) := of_decide_eq_true (by first | (with_reducible assumption) | assumption)
            obtain ⟨ad228, A228_2, c228_2, e228, hx228_0, hx228_1, hx228_2, hl228_2, hi228_2⟩ := at_T40 HR0.out x3_1 p228 q228
            have hw228_2 := hx228_2
            have hw228_1 := hx228_1
            have hw228_0 := hx228_0
            obtain rfl : ad225 = ad228 := (by injection e228)
            replace hx228_0 := (HB.out.cell (qO w _ hx228_0)).trans hx228_0
            replace hx228_1 := (HB.out.cell (qO w _ hx228_1)).trans hx228_1
            replace hx228_2 := (HB.out.cell (qO w _ hx228_2)).trans hx228_2
            have HR228_2 := qH hi228_2
            have HC228_2 := qH hl228_2
            clear hi228_2 hl228_2
            replace p228 := eq_true p228
            replace q228 := eq_true q228
            have ea_ := Option.some.inj (hx226_2.symm.trans hx228_2)
            injection ea_ with ea_ en_ ec_
            subst ea_
            subst ec_
            clear en_
            have p229 : 0 ≤ (x3_1 : Int) := of_decide_eq_true (by first | (with_reducible assumption) | assumption)
            have q229 : x3_1 < (l0.length : Int) := of_decide_eq_true (by first | (with_reducible assumption) | assumption)
            obtain ⟨ad229, A229_2, c229_2, e229, hx229_0, hx229_1, hx229_2, hl229_2, hi229_2⟩ := at_T40 HR0.out x3_1 p229 q229
            have hw229_2 := hx229_2
            have hw229_1 := hx229_1
            have hw229_0 := hx229_0
            obtain rfl : ad225 = ad229 := (by injection e229)
            replace hx229_0 := (HB.out.cell (qO w _ hx229_0)).trans hx229_0
            replace hx229_1 := (HB.out.cell (qO w _ hx229_1)).trans hx229_1
            replace hx229_2 := (HB.out.cell (qO w _ hx229_2)).trans hx229_2
            have HR229_2 := qH hi229_2
            have HC229_2 := qH hl229_2
            clear hi229_2 hl229_2
            replace p229 := eq_true p229
            replace q229 := eq_true q229
            have ea_ := Option.some.inj (hx226_2.symm.trans hx229_2)
            injection ea_ with ea_ en_ ec_
            subst ea_
            subst ec_
            clear en_
            refine start_ (n := 34) (S := fun w' => w'.cell? (ad225.add (((ji5)).toNat * 3)) = some (.string ((rd_T40 l0 (ji5)).f0.f0)) ∧ w'.cell? ⟨(ad225.add (((ji5)).toNat * 3)).block, (ad225.add (((ji5)).toNat * 3)).off + 1, none⟩ = some (.int .i64 ((rd_T40 l0 (ji5)).f0.f1)) ∧ w'.cell? ⟨(ad225.add (((ji5)).toNat * 3)).block, (ad225.add (((ji5)).toNat * 3)).off + 2, none⟩ = some (.slice A225_2 ((rd_T40 l0 (ji5)).f1).length c225_2) ∧ w'.cell? (ad225.add ((x3_1).toNat * 3)) = some (.string ((rd_T40 l0 x3_1).f0.f0)) ∧ w'.cell? ⟨(ad225.add ((x3_1).toNat * 3)).block, (ad225.add ((x3_1).toNat * 3)).off + 1, none⟩ = some (.int .i64 ((rd_T40 l0 x3_1).f0.f1)) ∧ w'.cell? ⟨(ad225.add ((x3_1).toNat * 3)).block, (ad225.add ((x3_1).toNat * 3)).off + 2, none⟩ = some (.slice A226_2 ((rd_T40 l0 x3_1).f1).length c226_2) ∧ w'.cell? (ad225.add ((x3_1).toNat * 3)) = some (.string ((rd_T40 l0 x3_1).f0.f0)) ∧ w'.cell? ⟨(ad225.add ((x3_1).toNat * 3)).block, (ad225.add ((x3_1).toNat * 3)).off + 1, none⟩ = some (.int .i64 ((rd_T40 l0 x3_1).f0.f1)) ∧ w'.cell? ⟨(ad225.add ((x3_1).toNat * 3)).block, (ad225.add ((x3_1).toNat * 3)).off + 2, none⟩ = some (.slice A226_2 ((rd_T40 l0 x3_1).f1).length c226_2) ∧ w'.cell? (ad225.add ((x3_1).toNat * 3)) = some (.string ((rd_T40 l0 x3_1).f0.f0)) ∧ w'.cell? ⟨(ad225.add ((x3_1).toNat * 3)).block, (ad225.add ((x3_1).toNat * 3)).off + 1, none⟩ = some (.int .i64 ((rd_T40 l0 x3_1).f0.f1)) ∧ w'.cell? ⟨(ad225.add ((x3_1).toNat * 3)).block, (ad225.add ((x3_1).toNat * 3)).off + 2, none⟩ = some (.slice A226_2 ((rd_T40 l0 x3_1).f1).length c226_2)) (ds := []) (lb 34 0) (by kernel_rfl) rfl rfl ⟨((HB.out.cell (qO w _ hw225_0)).trans hw225_0), ((HB.out.cell (qO w _ hw225_1)).trans hw225_1), ((HB.out.cell (qO w _ hw225_2)).trans hw225_2), ((HB.out.cell (qO w _ hw226_0)).trans hw226_0), ((HB.out.cell (qO w _ hw226_1)).trans hw226_1), ((HB.out.cell (qO w _ hw226_2)).trans hw226_2), ((HB.out.cell (qO w _ hw228_0)).trans hw228_0), ((HB.out.cell (qO w _ hw228_1)).trans hw228_1), ((HB.out.cell (qO w _ hw228_2)).trans hw228_2), ((HB.out.cell (qO w _ hw229_0)).trans hw229_0), ((HB.out.cell (qO w _ hw229_1)).trans hw229_1), ((HB.out.cell (qO w _ hw229_2)).trans hw229_2)⟩ (fun hHeld => ?_); refine with_tabW codicilref19_May.tab6 codicilref19_May.bits6 (fun HT_ HW_ => ?_)
            generalize wr.drew = w18 at HB HR225_2 HR226_2 HR228_2 HR229_2 hx225_0 hx225_1 hx225_2 hx226_0 hx226_1 hx226_2 hx228_0 hx228_1 hx228_2 hx229_0 hx229_1 hx229_2 hHeld ⊢
            refine pure_ (i := 0) (N := some 15) (v := ?_) (a' := ?_) (lb 34 1) rfl rfl (any_of HT_.out (by kernel_rfl)) (fun _ _ _ h => h) (Or.inl ⟨by rfl, ?_⟩) ?_ ?_
            rotate_left
            ·intro w'
             go_simp
             with_reducible rfl
            rotate_left
            ·simp only [Act.put, zS, zT, zU, zV, zW]
             rfl
            refine pure_ (i := 1) (N := some 16) (v := ?_) (a' := ?_) (lb 34 3) rfl rfl (any_of HT_.out (by kernel_rfl)) (fun _ _ _ h => h) (Or.inl ⟨by rfl, ?_⟩) ?_ ?_
            rotate_left
            ·intro w'
             go_simp
             with_reducible rfl
            rotate_left
            ·simp only [Act.put, zS, zT, zU, zV, zW]
             rfl
            refine pure_ (i := 2) (N := some 17) (v := ?_) (a' := ?_) (lb 34 7) rfl rfl (any_of HT_.out (by kernel_rfl)) (fun _ _ _ h => h) (Or.inl ⟨by rfl, ?_⟩) ?_ ?_
            rotate_left
            ·intro w'
             go_simp
             with_reducible rfl
            rotate_left
            ·simp only [Act.put, zS, zT, zU, zV, zW]
             rfl
            refine pure_ (i := 3) (N := some 18) (v := ?_) (a' := ?_) (lb 34 15) rfl rfl (any_of HT_.out (by kernel_rfl)) (fun _ _ _ h => h) (Or.inl ⟨by rfl, ?_⟩) ?_ ?_
            rotate_left
            ·intro w'
             go_simp
             with_reducible rfl
            rotate_left
            ·simp only [Act.put, zS, zT, zU, zV, zW]
             rfl
            refine pure_ (i := 4) (N := some 19) (v := ?_) (a' := ?_) (lb 34 31) rfl rfl (any_of HT_.out (by kernel_rfl)) (fun _ _ _ h => h) (Or.inl ⟨by rfl, ?_⟩) ?_ ?_
            rotate_left
            ·intro w'
             go_simp
             with_reducible rfl
            rotate_left
            ·simp only [Act.put, zS, zT, zU, zV, zW]
             rfl
            refine pure_ (i := 5) (N := some 20) (v := ?_) (a' := ?_) (lb 34 63) rfl rfl (any_of HT_.out (by kernel_rfl)) (fun _ _ _ h => h) (Or.inl ⟨by rfl, ?_⟩) ?_ ?_
            rotate_left
            ·intro w'
             go_simp
             with_reducible rfl
            rotate_left
            ·simp only [Act.put, zS, zT, zU, zV, zW]
             rfl
            refine pure_ (i := 6) (N := some 21) (v := ?_) (a' := ?_) (lb 34 127) rfl rfl (any_of HT_.out (by kernel_rfl)) (fun _ _ _ h => h) (Or.inl ⟨by rfl, ?_⟩) ?_ ?_
            rotate_left
            ·intro w'
             go_simp
             with_reducible rfl
            rotate_left
            ·simp only [Act.put, zS, zT, zU, zV, zW]
             rfl
            refine pure_ (i := 7) (N := some 22) (v := ?_) (a' := ?_) (lb 34 255) rfl rfl (any_of HT_.out (by kernel_rfl)) (fun _ _ _ h => h) (Or.inl ⟨by rfl, ?_⟩) ?_ ?_
            rotate_left
            ·intro w'
             go_simp
             with_reducible rfl
            rotate_left
            ·simp only [Act.put, zS, zT, zU, zV, zW]
             rfl
            refine pure_ (i := 9) (N := some 24) (v := ?_) (a' := ?_) (lb 34 767) rfl rfl (any_of HT_.out (by kernel_rfl)) (fun _ _ _ h => h) (Or.inl ⟨by rfl, ?_⟩) ?_ ?_
            rotate_left
            ·intro w'
             go_simp
             with_reducible rfl
            rotate_left
            ·simp only [Act.put, zS, zT, zU, zV, zW]
             rfl
            refine pure_ (i := 10) (N := some 25) (v := ?_) (a' := ?_) (lb 34 1791) rfl rfl (any_of HT_.out (by kernel_rfl)) (fun _ _ _ h => h) (Or.inl ⟨by rfl, ?_⟩) ?_ ?_
            rotate_left
            ·intro w'
             go_simp
             with_reducible rfl
            rotate_left
            ·simp only [Act.put, zS, zT, zU, zV, zW]
             rfl
            refine pure_ (i := 11) (N := some 26) (v := ?_) (a' := ?_) (lb 34 3839) rfl rfl (any_of HT_.out (by kernel_rfl)) (fun _ _ _ h => h) (Or.inl ⟨by rfl, ?_⟩) ?_ ?_
            rotate_left
            ·intro w'
             go_simp
             with_reducible rfl
            rotate_left
            ·simp only [Act.put, zS, zT, zU, zV, zW]
             rfl
            refine pure_ (i := 12) (N := some 27) (v := ?_) (a' := ?_) (lb 34 7935) rfl rfl (any_of HT_.out (by kernel_rfl)) (fun _ _ _ h => h) (Or.inl ⟨by rfl, ?_⟩) ?_ ?_
            rotate_left
            ·intro w'
             go_simp
             with_reducible rfl
            rotate_left
            ·simp only [Act.put, zS, zT, zU, zV, zW]
             rfl
            refine take_ (i := 8) (N := some 23) (v := ?_) (a' := ?_) (lb 34 8191) rfl rfl (take_ofW HT_.out HW_.out (by kernel_rfl)) (fun _ _ _ h => h) (Or.inl ⟨by rfl, ?_⟩) hHeld ?_ ?_
            rotate_left
            ·rintro w' ⟨s0, s1, s2, s3, s4, s5, s6, s7, s8, s9, s10, s11⟩
             go_simp
             with_reducible rfl
            rotate_left
            ·simp only [Act.put, zS, zT, zU, zV, zW]
             rfl
            refine take_ (i := 13) (N := some 28) (v := ?_) (a' := ?_) (lb 34 16383) rfl rfl (take_ofW HT_.out HW_.out (by kernel_rfl)) (fun _ _ _ h => h) (Or.inl ⟨by rfl, ?_⟩) hHeld ?_ ?_
            rotate_left
            ·rintro w' ⟨s0, s1, s2, s3, s4, s5, s6, s7, s8, s9, s10, s11⟩
             go_simp
             with_reducible rfl
            rotate_left
            ·simp only [Act.put, zS, zT, zU, zV, zW]
             rfl
            refine one_ (i := 14) (N := some 29) (lb 34 32767) rfl rfl (one_of HT_.out (by kernel_rfl)) (by decide) (fun K hK => ?_)
            refine goes_ Try.func12 (by kernel_rfl) rfl #[.agg #[.string ((rd_T40 l0 (ji5)).f0.f0), .int .i64 ((rd_T40 l0 (ji5)).f0.f1)], .agg #[.string ((rd_T40 l0 x3_1).f0.f0), .int .i64 ((rd_T40 l0 x3_1).f0.f1)]] (by rfl) rfl rfl (by (try simp only [zX, zY, zZ]); first | done | (simp only [hji5]; rfl) | rfl | (simp only [zD, zE]; rfl)) ?_
            with_reducible refine (codicilref19_Less.calls ((rd_T40 l0 (ji5)).f0.f0) ((rd_T40 l0 (ji5)).f0.f1) ((rd_T40 l0 x3_1).f0.f0) ((rd_T40 l0 x3_1).f0.f1) true _ A9.out).mono ?_
            rintro e w19 ⟨rfl, hb⟩
            refine ⟨_, rfl, ?_⟩
            have n0_ := qH (below_step (by repeat (first | (with_reducible first | exact HB.out | apply qL | apply qJ | apply qK) | exact HB.out)) hb)
            clear HB
            have HB := n0_
            clear n0_
            (try clear hb)
            (try clear hb2)
            (try clear hk)
            (try clear hi)
            refine hK.out _ _ ⟨((HB.out.cell (qO w _ hw225_0)).trans hw225_0), ((HB.out.cell (qO w _ hw225_1)).trans hw225_1), ((HB.out.cell (qO w _ hw225_2)).trans hw225_2), ((HB.out.cell (qO w _ hw226_0)).trans hw226_0), ((HB.out.cell (qO w _ hw226_1)).trans hw226_1), ((HB.out.cell (qO w _ hw226_2)).trans hw226_2), ((HB.out.cell (qO w _ hw228_0)).trans hw228_0), ((HB.out.cell (qO w _ hw228_1)).trans hw228_1), ((HB.out.cell (qO w _ hw228_2)).trans hw228_2), ((HB.out.cell (qO w _ hw229_0)).trans hw229_0), ((HB.out.cell (qO w _ hw229_1)).trans hw229_1), ((HB.out.cell (qO w _ hw229_2)).trans hw229_2)⟩ (fun hHeld => ?_)
            clear hK K
            refine norm_ (a' := ?_) ?_ ?_
            rotate_left
            ·show Act.put _ (some 29) _ = _
             simp only [Act.put, zS, zT, zU, zV, zW]
             rfl
            refine pure_ (i := 15) (N := some 30) (v := ?_) (a' := ?_) (lb 34 65535) rfl rfl (any_of HT_.out (by kernel_rfl)) (fun _ _ _ h => h) (Or.inl ⟨by rfl, ?_⟩) ?_ ?_
            rotate_left
            ·intro w'
             go_simp
             with_reducible rfl
            rotate_left
            ·simp only [Act.put, zS, zT, zU, zV, zW]
             rfl
            refine pure_ (i := 16) (N := some 31) (v := ?_) (a' := ?_) (lb 34 131071) rfl rfl (any_of HT_.out (by kernel_rfl)) (fun _ _ _ h => h) (Or.inl ⟨by rfl, ?_⟩) ?_ ?_
            rotate_left
            ·intro w'
             go_simp
             with_reducible rfl
            rotate_left
            ·simp only [Act.put, zS, zT, zU, zV, zW]
             rfl
            refine pure_ (i := 17) (N := some 32) (v := ?_) (a' := ?_) (lb 34 262143) rfl rfl (any_of HT_.out (by kernel_rfl)) (fun _ _ _ h => h) (Or.inl ⟨by rfl, ?_⟩) ?_ ?_
            rotate_left
            ·intro w'
             go_simp
             with_reducible rfl
            rotate_left
            ·simp only [Act.put, zS, zT, zU, zV, zW]
             rfl
            refine pure_ (i := 18) (N := some 33) (v := ?_) (a' := ?_) (lb 34 524287) rfl rfl (any_of HT_.out (by kernel_rfl)) (fun _ _ _ h => h) (Or.inl ⟨by rfl, ?_⟩) ?_ ?_
            rotate_left
            ·intro w'
             go_simp
             with_reducible rfl
            rotate_left
            ·simp only [Act.put, zS, zT, zU, zV, zW]
             rfl
            refine pure_ (i := 19) (N := some 34) (v := ?_) (a' := ?_) (lb 34 1048575) rfl rfl (any_of HT_.out (by kernel_rfl)) (fun _ _ _ h => h) (Or.inl ⟨by rfl, ?_⟩) ?_ ?_
            rotate_left
            ·intro w'
             go_simp
             with_reducible rfl
            rotate_left
            ·simp only [Act.put, zS, zT, zU, zV, zW]
             rfl
            refine pure_ (i := 20) (N := some 35) (v := ?_) (a' := ?_) (lb 34 2097151) rfl rfl (any_of HT_.out (by kernel_rfl)) (fun _ _ _ h => h) (Or.inl ⟨by rfl, ?_⟩) ?_ ?_
            rotate_left
            ·intro w'
             go_simp
             with_reducible rfl
            rotate_left
            ·simp only [Act.put, zS, zT, zU, zV, zW]
             rfl
            refine pure_ (i := 21) (N := some 36) (v := ?_) (a' := ?_) (lb 34 4194303) rfl rfl (any_of HT_.out (by kernel_rfl)) (fun _ _ _ h => h) (Or.inl ⟨by rfl, ?_⟩) ?_ ?_
            rotate_left
            ·intro w'
             go_simp
             with_reducible rfl
            rotate_left
            ·simp only [Act.put, zS, zT, zU, zV, zW]
             rfl
            refine take_ (i := 22) (N := some 37) (v := ?_) (a' := ?_) (lb 34 8388607) rfl rfl (take_ofW HT_.out HW_.out (by kernel_rfl)) (fun _ _ _ h => h) (Or.inl ⟨by rfl, ?_⟩) hHeld ?_ ?_
            rotate_left
            ·rintro w' ⟨s0, s1, s2, s3, s4, s5, s6, s7, s8, s9, s10, s11⟩
             go_simp
             with_reducible rfl
            rotate_left
            ·simp only [Act.put, zS, zT, zU, zV, zW]
             rfl
            refine pure_ (i := 23) (N := some 38) (v := ?_) (a' := ?_) (lb 34 16777215) rfl rfl (any_of HT_.out (by kernel_rfl)) (fun _ _ _ h => h) (Or.inl ⟨by rfl, ?_⟩) ?_ ?_
            rotate_left
            ·intro w'
             go_simp
             with_reducible rfl
            rotate_left
            ·simp only [Act.put, zS, zT, zU, zV, zW]
             rfl
            refine pure_ (i := 24) (N := some 39) (v := ?_) (a' := ?_) (lb 34 33554431) rfl rfl (any_of HT_.out (by kernel_rfl)) (fun _ _ _ h => h) (Or.inl ⟨by rfl, ?_⟩) ?_ ?_
            rotate_left
            ·intro w'
             go_simp
             with_reducible rfl
            rotate_left
            ·simp only [Act.put, zS, zT, zU, zV, zW]
             rfl
            refine pure_ (i := 25) (N := some 40) (v := ?_) (a' := ?_) (lb 34 67108863) rfl rfl (any_of HT_.out (by kernel_rfl)) (fun _ _ _ h => h) (Or.inl ⟨by rfl, ?_⟩) ?_ ?_
            rotate_left
            ·intro w'
             go_simp
             with_reducible rfl
            rotate_left
            ·simp only [Act.put, zS, zT, zU, zV, zW]
             rfl
            refine pure_ (i := 26) (N := some 41) (v := ?_) (a' := ?_) (lb 34 134217727) rfl rfl (any_of HT_.out (by kernel_rfl)) (fun _ _ _ h => h) (Or.inl ⟨by rfl, ?_⟩) ?_ ?_
            rotate_left
            ·intro w'
             go_simp
             with_reducible rfl
            rotate_left
            ·simp only [Act.put, zS, zT, zU, zV, zW]
             rfl
            refine pure_ (i := 27) (N := some 42) (v := ?_) (a' := ?_) (lb 34 268435455) rfl rfl (any_of HT_.out (by kernel_rfl)) (fun _ _ _ h => h) (Or.inl ⟨by rfl, ?_⟩) ?_ ?_
            rotate_left
            ·intro w'
             go_simp
             with_reducible rfl
            rotate_left
            ·simp only [Act.put, zS, zT, zU, zV, zW]
             rfl
            refine pure_ (i := 28) (N := some 43) (v := ?_) (a' := ?_) (lb 34 536870911) rfl rfl (any_of HT_.out (by kernel_rfl)) (fun _ _ _ h => h) (Or.inl ⟨by rfl, ?_⟩) ?_ ?_
            rotate_left
            ·intro w'
             go_simp
             with_reducible rfl
            rotate_left
            ·simp only [Act.put, zS, zT, zU, zV, zW]
             rfl
            refine pure_ (i := 29) (N := some 44) (v := ?_) (a' := ?_) (lb 34 1073741823) rfl rfl (any_of HT_.out (by kernel_rfl)) (fun _ _ _ h => h) (Or.inl ⟨by rfl, ?_⟩) ?_ ?_
            rotate_left
            ·intro w'
             go_simp
             with_reducible rfl
            rotate_left
            ·simp only [Act.put, zS, zT, zU, zV, zW]
             rfl
            refine pure_ (i := 30) (N := some 45) (v := ?_) (a' := ?_) (lb 34 2147483647) rfl rfl (any_of HT_.out (by kernel_rfl)) (fun _ _ _ h => h) (Or.inl ⟨by rfl, ?_⟩) ?_ ?_
            rotate_left
            ·intro w'
             go_simp
             with_reducible rfl
            rotate_left
            ·simp only [Act.put, zS, zT, zU, zV, zW]
             rfl
            refine take_ (i := 31) (N := some 46) (v := ?_) (a' := ?_) (lb 34 4294967295) rfl rfl (take_ofW HT_.out HW_.out (by kernel_rfl)) (fun _ _ _ h => h) (Or.inl ⟨by rfl, ?_⟩) hHeld ?_ ?_
            rotate_left
            ·rintro w' ⟨s0, s1, s2, s3, s4, s5, s6, s7, s8, s9, s10, s11⟩
             go_simp
             with_reducible rfl
            rotate_left
            ·simp only [Act.put, zS, zT, zU, zV, zW]
             rfl
            refine one_ (i := 32) (N := some 47) (lb 34 8589934591) rfl rfl (one_of HT_.out (by kernel_rfl)) (by decide) (fun K hK => ?_)
            refine goes_ Try.func35 (by kernel_rfl) rfl #[.slice A226_2 ((rd_T40 l0 x3_1).f1).length c226_2] (by rfl) rfl rfl (by (try simp only [zX, zY, zZ]); first | done | rfl | (simp only [zD, zE]; rfl)) ?_
            with_reducible refine (codicilref19_twice.calls k1 _ _ ((rd_T40 l0 x3_1).f1) false _ ?side1 ?side2 A14.out).mono ?_
            (case side1 => repeat (first | exact (Kd.C_below HR229_2.out HB.out) | (with_reducible refine Kd.C_alloc ?_ _) | (with_reducible refine Kd.C_drewN ?_ _) | (with_reducible refine Kd.C_drew ?_)))
            (case side2 => exact HC229_2.out)
            rintro e w' ⟨rfl, ⟨nd, rfl⟩⟩
            refine ⟨_, rfl, ?_⟩
            refine hK.out _ _ ⟨((HB.out.cell (qO w _ hw225_0)).trans hw225_0), ((HB.out.cell (qO w _ hw225_1)).trans hw225_1), ((HB.out.cell (qO w _ hw225_2)).trans hw225_2), ((HB.out.cell (qO w _ hw226_0)).trans hw226_0), ((HB.out.cell (qO w _ hw226_1)).trans hw226_1), ((HB.out.cell (qO w _ hw226_2)).trans hw226_2), ((HB.out.cell (qO w _ hw228_0)).trans hw228_0), ((HB.out.cell (qO w _ hw228_1)).trans hw228_1), ((HB.out.cell (qO w _ hw228_2)).trans hw228_2), ((HB.out.cell (qO w _ hw229_0)).trans hw229_0), ((HB.out.cell (qO w _ hw229_1)).trans hw229_1), ((HB.out.cell (qO w _ hw229_2)).trans hw229_2)⟩ (fun hHeld => ?_)
            clear hK K
            refine norm_ (a' := ?_) ?_ ?_
            rotate_left
            ·show Act.put _ (some 47) _ = _
             simp only [Act.put, zS, zT, zU, zV, zW]
             rfl
            refine pure_ (i := 33) (N := some 48) (v := ?_) (a' := ?_) (lb 34 17179869183) rfl rfl (any_of HT_.out (by kernel_rfl)) (fun _ _ _ h => h) (Or.inl ⟨by rfl, ?_⟩) ?_ ?_
            rotate_left
            ·intro w'
             go_simp
             with_reducible rfl
            rotate_left
            ·simp only [Act.put, zS, zT, zU, zV, zW]
             rfl
            refine done_ (done_of HT_.out (by kernel_rfl)) ?_
            try go_wp2
            go_roundg k1
            case measure => have := HK1.out; omega
            case rel => exact ⟨(wrap64 (x3_1 + 1)), (by first | rfl | (simp; done) | (simp; exact qEmp _) | (simp [*]; done)), H', ⟨by have := HK1.out; omega⟩, ⟨by repeat (first | (with_reducible first | exact HB.out | apply qL | apply qJ | apply qK) | exact HB.out)⟩⟩
         ·replace c10 := Bool.eq_false_iff.mpr c10
          subst c10
          have H1 : (some 8) = some r := by rw [if_neg (show ¬ (false = true) by decide)] at H; exact H
          clear H
          have H := H1
          clear H1
          obtain rfl := Option.some.inj H
          simp only [Option.some.injEq, Prod.mk.injEq] at H
          obtain ⟨rfl⟩ := H
          try go_wp2
          have n0_ := qH (qK HB.out)
          clear HB
          have HB := n0_
          clear n0_
          have p225 : 0 ≤ ((ji5) : Int) := of_decide_eq_true (by first | (with_reducible assumption) | assumption)
          have q225 : (ji5) < (l0.length : Int) := of_decide_eq_true (by first | (with_reducible assumption) | assumption)
          obtain ⟨ad225, A225_2, c225_2, e225, hx225_0, hx225_1, hx225_2, hl225_2, hi225_2⟩ := at_T40 HR0.out (ji5) p225 q225
          have hw225_2 := hx225_2
          have hw225_1 := hx225_1
          have hw225_0 := hx225_0
          cases e225
          replace hx225_0 := (HB.out.cell (qO w _ hx225_0)).trans hx225_0
          replace hx225_1 := (HB.out.cell (qO w _ hx225_1)).trans hx225_1
          replace hx225_2 := (HB.out.cell (qO w _ hx225_2)).trans hx225_2
          have HR225_2 := qH hi225_2
          have HC225_2 := qH hl225_2
          clear hi225_2 hl225_2
          replace p225 := eq_true p225
          replace q225 := eq_true q225
          have p226 : 0 ≤ (x3_1 : Int) := of_decide_eq_true (by first | (with_reducible assumption) | assumption)
          have q226 : x3_1 < (l0.length : Int) := of_decide_eq_true (by first | (with_reducible assumption) | assumption)
          obtain ⟨ad226, A226_2, c226_2, e226, hx226_0, hx226_1, hx226_2, hl226_2, hi226_2⟩ := at_T40 HR0.out x3_1 p226 q226
          have hw226_2 := hx226_2
          have hw226_1 := hx226_1
          have hw226_0 := hx226_0
          obtain rfl : ad225 = ad226 := (by injection e226)
          replace hx226_0 := (HB.out.cell (qO w _ hx226_0)).trans hx226_0
          replace hx226_1 := (HB.out.cell (qO w _ hx226_1)).trans hx226_1
          replace hx226_2 := (HB.out.cell (qO w _ hx226_2)).trans hx226_2
          have HR226_2 := qH hi226_2
          have HC226_2 := qH hl226_2
          clear hi226_2 hl226_2
          replace p226 := eq_true p226
          replace q226 := eq_true q226
          refine start_ (n := 34) (S := fun w' => w'.cell? (ad225.add (((ji5)).toNat * 3)) = some (.string ((rd_T40 l0 (ji5)).f0.f0)) ∧ w'.cell? ⟨(ad225.add (((ji5)).toNat * 3)).block, (ad225.add (((ji5)).toNat * 3)).off + 1, none⟩ = some (.int .i64 ((rd_T40 l0 (ji5)).f0.f1)) ∧ w'.cell? ⟨(ad225.add (((ji5)).toNat * 3)).block, (ad225.add (((ji5)).toNat * 3)).off + 2, none⟩ = some (.slice A225_2 ((rd_T40 l0 (ji5)).f1).length c225_2) ∧ w'.cell? (ad225.add ((x3_1).toNat * 3)) = some (.string ((rd_T40 l0 x3_1).f0.f0)) ∧ w'.cell? ⟨(ad225.add ((x3_1).toNat * 3)).block, (ad225.add ((x3_1).toNat * 3)).off + 1, none⟩ = some (.int .i64 ((rd_T40 l0 x3_1).f0.f1)) ∧ w'.cell? ⟨(ad225.add ((x3_1).toNat * 3)).block, (ad225.add ((x3_1).toNat * 3)).off + 2, none⟩ = some (.slice A226_2 ((rd_T40 l0 x3_1).f1).length c226_2)) (ds := []) (lb 34 0) (by kernel_rfl) rfl rfl ⟨((HB.out.cell (qO w _ hw225_0)).trans hw225_0), ((HB.out.cell (qO w _ hw225_1)).trans hw225_1), ((HB.out.cell (qO w _ hw225_2)).trans hw225_2), ((HB.out.cell (qO w _ hw226_0)).trans hw226_0), ((HB.out.cell (qO w _ hw226_1)).trans hw226_1), ((HB.out.cell (qO w _ hw226_2)).trans hw226_2)⟩ (fun hHeld => ?_); refine with_tabW codicilref19_May.tab6 codicilref19_May.bits6 (fun HT_ HW_ => ?_)
          generalize wr.drew = w20 at HB HR225_2 HR226_2 hx225_0 hx225_1 hx225_2 hx226_0 hx226_1 hx226_2 hHeld ⊢
          refine pure_ (i := 0) (N := some 15) (v := ?_) (a' := ?_) (lb 34 1) rfl rfl (any_of HT_.out (by kernel_rfl)) (fun _ _ _ h => h) (Or.inl ⟨by rfl, ?_⟩) ?_ ?_
          rotate_left
          ·intro w'
           go_simp
           with_reducible rfl
          rotate_left
          ·simp only [Act.put, zS, zT, zU, zV, zW]
           rfl
          refine pure_ (i := 1) (N := some 16) (v := ?_) (a' := ?_) (lb 34 3) rfl rfl (any_of HT_.out (by kernel_rfl)) (fun _ _ _ h => h) (Or.inl ⟨by rfl, ?_⟩) ?_ ?_
          rotate_left
          ·intro w'
           go_simp
           with_reducible rfl
          rotate_left
          ·simp only [Act.put, zS, zT, zU, zV, zW]
           rfl
          refine pure_ (i := 2) (N := some 17) (v := ?_) (a' := ?_) (lb 34 7) rfl rfl (any_of HT_.out (by kernel_rfl)) (fun _ _ _ h => h) (Or.inl ⟨by rfl, ?_⟩) ?_ ?_
          rotate_left
          ·intro w'
           go_simp
           with_reducible rfl
          rotate_left
          ·simp only [Act.put, zS, zT, zU, zV, zW]
           rfl
          refine pure_ (i := 3) (N := some 18) (v := ?_) (a' := ?_) (lb 34 15) rfl rfl (any_of HT_.out (by kernel_rfl)) (fun _ _ _ h => h) (Or.inl ⟨by rfl, ?_⟩) ?_ ?_
          rotate_left
          ·intro w'
           go_simp
           with_reducible rfl
          rotate_left
          ·simp only [Act.put, zS, zT, zU, zV, zW]
           rfl
          refine pure_ (i := 4) (N := some 19) (v := ?_) (a' := ?_) (lb 34 31) rfl rfl (any_of HT_.out (by kernel_rfl)) (fun _ _ _ h => h) (Or.inl ⟨by rfl, ?_⟩) ?_ ?_
          rotate_left
          ·intro w'
           go_simp
           with_reducible rfl
          rotate_left
          ·simp only [Act.put, zS, zT, zU, zV, zW]
           rfl
          refine pure_ (i := 5) (N := some 20) (v := ?_) (a' := ?_) (lb 34 63) rfl rfl (any_of HT_.out (by kernel_rfl)) (fun _ _ _ h => h) (Or.inl ⟨by rfl, ?_⟩) ?_ ?_
          rotate_left
          ·intro w'
           go_simp
           with_reducible rfl
          rotate_left
          ·simp only [Act.put, zS, zT, zU, zV, zW]
           rfl
          refine pure_ (i := 6) (N := some 21) (v := ?_) (a' := ?_) (lb 34 127) rfl rfl (any_of HT_.out (by kernel_rfl)) (fun _ _ _ h => h) (Or.inl ⟨by rfl, ?_⟩) ?_ ?_
          rotate_left
          ·intro w'
           go_simp
           with_reducible rfl
          rotate_left
          ·simp only [Act.put, zS, zT, zU, zV, zW]
           rfl
          refine pure_ (i := 7) (N := some 22) (v := ?_) (a' := ?_) (lb 34 255) rfl rfl (any_of HT_.out (by kernel_rfl)) (fun _ _ _ h => h) (Or.inl ⟨by rfl, ?_⟩) ?_ ?_
          rotate_left
          ·intro w'
           go_simp
           with_reducible rfl
          rotate_left
          ·simp only [Act.put, zS, zT, zU, zV, zW]
           rfl
          refine pure_ (i := 9) (N := some 24) (v := ?_) (a' := ?_) (lb 34 767) rfl rfl (any_of HT_.out (by kernel_rfl)) (fun _ _ _ h => h) (Or.inl ⟨by rfl, ?_⟩) ?_ ?_
          rotate_left
          ·intro w'
           go_simp
           with_reducible rfl
          rotate_left
          ·simp only [Act.put, zS, zT, zU, zV, zW]
           rfl
          refine pure_ (i := 10) (N := some 25) (v := ?_) (a' := ?_) (lb 34 1791) rfl rfl (any_of HT_.out (by kernel_rfl)) (fun _ _ _ h => h) (Or.inl ⟨by rfl, ?_⟩) ?_ ?_
          rotate_left
          ·intro w'
           go_simp
           with_reducible rfl
          rotate_left
          ·simp only [Act.put, zS, zT, zU, zV, zW]
           rfl
          refine pure_ (i := 11) (N := some 26) (v := ?_) (a' := ?_) (lb 34 3839) rfl rfl (any_of HT_.out (by kernel_rfl)) (fun _ _ _ h => h) (Or.inl ⟨by rfl, ?_⟩) ?_ ?_
          rotate_left
          ·intro w'
           go_simp
           with_reducible rfl
          rotate_left
          ·simp only [Act.put, zS, zT, zU, zV, zW]
           rfl
          refine pure_ (i := 12) (N := some 27) (v := ?_) (a' := ?_) (lb 34 7935) rfl rfl (any_of HT_.out (by kernel_rfl)) (fun _ _ _ h => h) (Or.inl ⟨by rfl, ?_⟩) ?_ ?_
          rotate_left
          ·intro w'
           go_simp
           with_reducible rfl
          rotate_left
          ·simp only [Act.put, zS, zT, zU, zV, zW]
           rfl
          refine take_ (i := 8) (N := some 23) (v := ?_) (a' := ?_) (lb 34 8191) rfl rfl (take_ofW HT_.out HW_.out (by kernel_rfl)) (fun _ _ _ h => h) (Or.inl ⟨by rfl, ?_⟩) hHeld ?_ ?_
          rotate_left
          ·rintro w' ⟨s0, s1, s2, s3, s4, s5⟩
           go_simp
           with_reducible rfl
          rotate_left
          ·simp only [Act.put, zS, zT, zU, zV, zW]
           rfl
          refine take_ (i := 13) (N := some 28) (v := ?_) (a' := ?_) (lb 34 16383) rfl rfl (take_ofW HT_.out HW_.out (by kernel_rfl)) (fun _ _ _ h => h) (Or.inl ⟨by rfl, ?_⟩) hHeld ?_ ?_
          rotate_left
          ·rintro w' ⟨s0, s1, s2, s3, s4, s5⟩
           go_simp
           with_reducible rfl
          rotate_left
          ·simp only [Act.put, zS, zT, zU, zV, zW]
           rfl
          refine one_ (i := 14) (N := some 29) (lb 34 32767) rfl rfl (one_of HT_.out (by kernel_rfl)) (by decide) (fun K hK => ?_)
          refine goes_ Try.func12 (by kernel_rfl) rfl #[.agg #[.string ((rd_T40 l0 (ji5)).f0.f0), .int .i64 ((rd_T40 l0 (ji5)).f0.f1)], .agg #[.string ((rd_T40 l0 x3_1).f0.f0), .int .i64 ((rd_T40 l0 x3_1).f0.f1)]] (by rfl) rfl rfl (by (try simp only [zX, zY, zZ]); first | done | (simp only [hji5]; rfl) | rfl | (simp only [zD, zE]; rfl)) ?_
          with_reducible refine (codicilref19_Less.calls ((rd_T40 l0 (ji5)).f0.f0) ((rd_T40 l0 (ji5)).f0.f1) ((rd_T40 l0 x3_1).f0.f0) ((rd_T40 l0 x3_1).f0.f1) false _ A9.out).mono ?_
          rintro e w21 ⟨rfl, hb⟩
          refine ⟨_, rfl, ?_⟩
          have n0_ := qH (below_step (by repeat (first | (with_reducible first | exact HB.out | apply qL | apply qJ | apply qK) | exact HB.out)) hb)
          clear HB
          have HB := n0_
          clear n0_
          (try clear hb)
          (try clear hb2)
          (try clear hk)
          (try clear hi)
          refine hK.out _ _ ⟨((HB.out.cell (qO w _ hw225_0)).trans hw225_0), ((HB.out.cell (qO w _ hw225_1)).trans hw225_1), ((HB.out.cell (qO w _ hw225_2)).trans hw225_2), ((HB.out.cell (qO w _ hw226_0)).trans hw226_0), ((HB.out.cell (qO w _ hw226_1)).trans hw226_1), ((HB.out.cell (qO w _ hw226_2)).trans hw226_2)⟩ (fun hHeld => ?_)
          clear hK K
          refine norm_ (a' := ?_) ?_ ?_
          rotate_left
          ·show Act.put _ (some 29) _ = _
           simp only [Act.put, zS, zT, zU, zV, zW]
           rfl
          refine pure_ (i := 15) (N := some 30) (v := ?_) (a' := ?_) (lb 34 65535) rfl rfl (any_of HT_.out (by kernel_rfl)) (fun _ _ _ h => h) (Or.inl ⟨by rfl, ?_⟩) ?_ ?_
          rotate_left
          ·intro w'
           go_simp
           with_reducible rfl
          rotate_left
          ·simp only [Act.put, zS, zT, zU, zV, zW]
           rfl
          refine pure_ (i := 16) (N := some 31) (v := ?_) (a' := ?_) (lb 34 131071) rfl rfl (any_of HT_.out (by kernel_rfl)) (fun _ _ _ h => h) (Or.inl ⟨by rfl, ?_⟩) ?_ ?_
          rotate_left
          ·intro w'
           go_simp
           with_reducible rfl
          rotate_left
          ·simp only [Act.put, zS, zT, zU, zV, zW]
           rfl
          refine pure_ (i := 17) (N := some 32) (v := ?_) (a' := ?_) (lb 34 262143) rfl rfl (any_of HT_.out (by kernel_rfl)) (fun _ _ _ h => h) (Or.inl ⟨by rfl, ?_⟩) ?_ ?_
          rotate_left
          ·intro w'
           go_simp
           with_reducible rfl
          rotate_left
          ·simp only [Act.put, zS, zT, zU, zV, zW]
           rfl
          refine pure_ (i := 18) (N := some 33) (v := undef) (a' := ?_) (lb 34 524287) rfl rfl (any_of HT_.out (by kernel_rfl)) (fun _ _ _ h => h) (Or.inr ⟨by rfl, rfl⟩) ?_ ?_
          rotate_left
          ·simp only [Act.put, zS, zT, zU, zV, zW]
           rfl
          refine pure_ (i := 19) (N := some 34) (v := undef) (a' := ?_) (lb 34 1048575) rfl rfl (any_of HT_.out (by kernel_rfl)) (fun _ _ _ h => h) (Or.inr ⟨by rfl, rfl⟩) ?_ ?_
          rotate_left
          ·simp only [Act.put, zS, zT, zU, zV, zW]
           rfl
          refine pure_ (i := 20) (N := some 35) (v := undef) (a' := ?_) (lb 34 2097151) rfl rfl (any_of HT_.out (by kernel_rfl)) (fun _ _ _ h => h) (Or.inr ⟨by rfl, rfl⟩) ?_ ?_
          rotate_left
          ·simp only [Act.put, zS, zT, zU, zV, zW]
           rfl
          refine pure_ (i := 21) (N := some 36) (v := undef) (a' := ?_) (lb 34 4194303) rfl rfl (any_of HT_.out (by kernel_rfl)) (fun _ _ _ h => h) (Or.inr ⟨by rfl, rfl⟩) ?_ ?_
          rotate_left
          ·simp only [Act.put, zS, zT, zU, zV, zW]
           rfl
          refine pure_ (i := 22) (N := some 37) (v := undef) (a' := ?_) (lb 34 8388607) rfl rfl (any_of HT_.out (by kernel_rfl)) (fun _ _ _ h => h) (Or.inr ⟨by rfl, rfl⟩) ?_ ?_
          rotate_left
          ·simp only [Act.put, zS, zT, zU, zV, zW]
           rfl
          refine pure_ (i := 23) (N := some 38) (v := undef) (a' := ?_) (lb 34 16777215) rfl rfl (any_of HT_.out (by kernel_rfl)) (fun _ _ _ h => h) (Or.inr ⟨by rfl, rfl⟩) ?_ ?_
          rotate_left
          ·simp only [Act.put, zS, zT, zU, zV, zW]
           rfl
          refine pure_ (i := 24) (N := some 39) (v := undef) (a' := ?_) (lb 34 33554431) rfl rfl (any_of HT_.out (by kernel_rfl)) (fun _ _ _ h => h) (Or.inr ⟨by rfl, rfl⟩) ?_ ?_
          rotate_left
          ·simp only [Act.put, zS, zT, zU, zV, zW]
           rfl
          refine pure_ (i := 25) (N := some 40) (v := ?_) (a' := ?_) (lb 34 67108863) rfl rfl (any_of HT_.out (by kernel_rfl)) (fun _ _ _ h => h) (Or.inl ⟨by rfl, ?_⟩) ?_ ?_
          rotate_left
          ·intro w'
           go_simp
           with_reducible rfl
          rotate_left
          ·simp only [Act.put, zS, zT, zU, zV, zW]
           rfl
          refine pure_ (i := 26) (N := some 41) (v := ?_) (a' := ?_) (lb 34 134217727) rfl rfl (any_of HT_.out (by kernel_rfl)) (fun _ _ _ h => h) (Or.inl ⟨by rfl, ?_⟩) ?_ ?_
          rotate_left
          ·intro w'
           go_simp
           with_reducible rfl
          rotate_left
          ·simp only [Act.put, zS, zT, zU, zV, zW]
           rfl
          refine pure_ (i := 27) (N := some 42) (v := undef) (a' := ?_) (lb 34 268435455) rfl rfl (any_of HT_.out (by kernel_rfl)) (fun _ _ _ h => h) (Or.inr ⟨by rfl, rfl⟩) ?_ ?_
          rotate_left
          ·simp only [Act.put, zS, zT, zU, zV, zW]
           rfl
          refine pure_ (i := 28) (N := some 43) (v := undef) (a' := ?_) (lb 34 536870911) rfl rfl (any_of HT_.out (by kernel_rfl)) (fun _ _ _ h => h) (Or.inr ⟨by rfl, rfl⟩) ?_ ?_
          rotate_left
          ·simp only [Act.put, zS, zT, zU, zV, zW]
           rfl
          refine pure_ (i := 29) (N := some 44) (v := undef) (a' := ?_) (lb 34 1073741823) rfl rfl (any_of HT_.out (by kernel_rfl)) (fun _ _ _ h => h) (Or.inr ⟨by rfl, rfl⟩) ?_ ?_
          rotate_left
          ·simp only [Act.put, zS, zT, zU, zV, zW]
           rfl
          refine pure_ (i := 30) (N := some 45) (v := undef) (a' := ?_) (lb 34 2147483647) rfl rfl (any_of HT_.out (by kernel_rfl)) (fun _ _ _ h => h) (Or.inr ⟨by rfl, rfl⟩) ?_ ?_
          rotate_left
          ·simp only [Act.put, zS, zT, zU, zV, zW]
           rfl
          refine pure_ (i := 31) (N := some 46) (v := undef) (a' := ?_) (lb 34 4294967295) rfl rfl (any_of HT_.out (by kernel_rfl)) (fun _ _ _ h => h) (Or.inr ⟨by rfl, rfl⟩) ?_ ?_
          rotate_left
          ·simp only [Act.put, zS, zT, zU, zV, zW]
           rfl
          refine pure_ (i := 32) (N := some 47) (v := undef) (a' := ?_) (lb 34 8589934591) rfl rfl (any_of HT_.out (by kernel_rfl)) (fun _ _ _ h => h) (Or.inr ⟨by rfl, rfl⟩) ?_ ?_
          rotate_left
          ·simp only [Act.put, zS, zT, zU, zV, zW]
           rfl
          refine pure_ (i := 33) (N := some 48) (v := ?_) (a' := ?_) (lb 34 17179869183) rfl rfl (any_of HT_.out (by kernel_rfl)) (fun _ _ _ h => h) (Or.inl ⟨by rfl, ?_⟩) ?_ ?_
          rotate_left
          ·intro w'
           go_simp
           with_reducible rfl
          rotate_left
          ·simp only [Act.put, zS, zT, zU, zV, zW]
           rfl
          refine done_ (done_of HT_.out (by kernel_rfl)) ?_
          try go_wp2
          go_ret
          exact ⟨by first | rfl | (simp [errW_none, errW_some] <;> rfl) | (simp only [← hji5]; first | rfl | (simp [errW_none, errW_some] <;> rfl)) | (simp [*, errW_none, errW_some] <;> rfl), by repeat (first | (with_reducible first | exact HB.out | apply qL | apply qJ | apply qK) | exact HB.out)⟩
        ·rw [if_neg c8] at H
         exact absurd H (by simp)
       ·rw [if_neg c7] at H
        exact absurd H (by simp)
      ·rw [if_neg c6] at H
       exact absurd H (by simp)
     ·rw [if_neg c4] at H
      have c4b0 : decide (0 < x3_1) = false := decide_eq_false c4
      clear c4
      by_cases c22 : 0 ≤ x3_1
      ·rw [if_pos c22] at H
       have c22b0 : decide (0 ≤ x3_1) = true := decide_eq_true c22
       clear c22
       by_cases c23 : (((rd_T40 l0 x3_1).f1).length : Int) > 16
       ·rw [if_pos c23] at H
        have c23b0 : decide (16 < (((rd_T40 l0 x3_1).f1).length : Int)) = true := decide_eq_true c23
        have c23b1 : decide (16 < ((rd_T40 l0 x3_1).f1).length) = true := decide_eq_true (by omega)
        clear c23
        obtain rfl := Option.some.inj H
        simp only [Option.some.injEq, Prod.mk.injEq] at H
        obtain ⟨rfl⟩ := H
        try go_wp2
        have n0_ := qH (qK HB.out)
        clear HB
        have HB := n0_
        clear n0_
        have p231 : 0 ≤ (x3_1 : Int) := of_decide_eq_true (by first | (with_reducible assumption) | assumption)
        have q231 : x3_1 < (l0.length : Int) := of_decide_eq_true (by first | (with_reducible assumption) | assumption)
        obtain ⟨ad231, A231_2, c231_2, e231, hx231_0, hx231_1, hx231_2, hl231_2, hi231_2⟩ := at_T40 HR0.out x3_1 p231 q231
        have hw231_2 := hx231_2
        have hw231_1 := hx231_1
        have hw231_0 := hx231_0
        cases e231
        replace hx231_0 := (HB.out.cell (qO w _ hx231_0)).trans hx231_0
        replace hx231_1 := (HB.out.cell (qO w _ hx231_1)).trans hx231_1
        replace hx231_2 := (HB.out.cell (qO w _ hx231_2)).trans hx231_2
        have HR231_2 := qH hi231_2
        have HC231_2 := qH hl231_2
        clear hi231_2 hl231_2
        replace p231 := eq_true p231
        replace q231 := eq_true q231
        refine start_ (n := 34) (S := fun w' => w'.cell? (ad231.add ((x3_1).toNat * 3)) = some (.string ((rd_T40 l0 x3_1).f0.f0)) ∧ w'.cell? ⟨(ad231.add ((x3_1).toNat * 3)).block, (ad231.add ((x3_1).toNat * 3)).off + 1, none⟩ = some (.int .i64 ((rd_T40 l0 x3_1).f0.f1)) ∧ w'.cell? ⟨(ad231.add ((x3_1).toNat * 3)).block, (ad231.add ((x3_1).toNat * 3)).off + 2, none⟩ = some (.slice A231_2 ((rd_T40 l0 x3_1).f1).length c231_2)) (ds := []) (lb 34 0) (by kernel_rfl) rfl rfl ⟨((HB.out.cell (qO w _ hw231_0)).trans hw231_0), ((HB.out.cell (qO w _ hw231_1)).trans hw231_1), ((HB.out.cell (qO w _ hw231_2)).trans hw231_2)⟩ (fun hHeld => ?_); refine with_tabW codicilref19_May.tab6 codicilref19_May.bits6 (fun HT_ HW_ => ?_)
        generalize wr.drew = w24 at HB HR231_2 hx231_0 hx231_1 hx231_2 hHeld ⊢
        refine pure_ (i := 0) (N := some 15) (v := ?_) (a' := ?_) (lb 34 1) rfl rfl (any_of HT_.out (by kernel_rfl)) (fun _ _ _ h => h) (Or.inl ⟨by rfl, ?_⟩) ?_ ?_
        rotate_left
        ·intro w'
         go_simp
         with_reducible rfl
        rotate_left
        ·simp only [Act.put, zS, zT, zU, zV, zW]
         rfl
        refine pure_ (i := 1) (N := some 16) (v := ?_) (a' := ?_) (lb 34 3) rfl rfl (any_of HT_.out (by kernel_rfl)) (fun _ _ _ h => h) (Or.inl ⟨by rfl, ?_⟩) ?_ ?_
        rotate_left
        ·intro w'
         go_simp
         with_reducible rfl
        rotate_left
        ·simp only [Act.put, zS, zT, zU, zV, zW]
         rfl
        refine pure_ (i := 2) (N := some 17) (v := ?_) (a' := ?_) (lb 34 7) rfl rfl (any_of HT_.out (by kernel_rfl)) (fun _ _ _ h => h) (Or.inl ⟨by rfl, ?_⟩) ?_ ?_
        rotate_left
        ·intro w'
         go_simp
         with_reducible rfl
        rotate_left
        ·simp only [Act.put, zS, zT, zU, zV, zW]
         rfl
        refine pure_ (i := 3) (N := some 18) (v := undef) (a' := ?_) (lb 34 15) rfl rfl (any_of HT_.out (by kernel_rfl)) (fun _ _ _ h => h) (Or.inr ⟨by rfl, rfl⟩) ?_ ?_
        rotate_left
        ·simp only [Act.put, zS, zT, zU, zV, zW]
         rfl
        refine pure_ (i := 4) (N := some 19) (v := undef) (a' := ?_) (lb 34 31) rfl rfl (any_of HT_.out (by kernel_rfl)) (fun _ _ _ h => h) (Or.inr ⟨by rfl, rfl⟩) ?_ ?_
        rotate_left
        ·simp only [Act.put, zS, zT, zU, zV, zW]
         rfl
        refine pure_ (i := 5) (N := some 20) (v := undef) (a' := ?_) (lb 34 63) rfl rfl (any_of HT_.out (by kernel_rfl)) (fun _ _ _ h => h) (Or.inr ⟨by rfl, rfl⟩) ?_ ?_
        rotate_left
        ·simp only [Act.put, zS, zT, zU, zV, zW]
         rfl
        refine pure_ (i := 6) (N := some 21) (v := undef) (a' := ?_) (lb 34 127) rfl rfl (any_of HT_.out (by kernel_rfl)) (fun _ _ _ h => h) (Or.inr ⟨by rfl, rfl⟩) ?_ ?_
        rotate_left
        ·simp only [Act.put, zS, zT, zU, zV, zW]
         rfl
        refine pure_ (i := 7) (N := some 22) (v := undef) (a' := ?_) (lb 34 255) rfl rfl (any_of HT_.out (by kernel_rfl)) (fun _ _ _ h => h) (Or.inr ⟨by rfl, rfl⟩) ?_ ?_
        rotate_left
        ·simp only [Act.put, zS, zT, zU, zV, zW]
         rfl
        refine pure_ (i := 8) (N := some 23) (v := undef) (a' := ?_) (lb 34 511) rfl rfl (any_of HT_.out (by kernel_rfl)) (fun _ _ _ h => h) (Or.inr ⟨by rfl, rfl⟩) ?_ ?_
        rotate_left
        ·simp only [Act.put, zS, zT, zU, zV, zW]
         rfl
        refine pure_ (i := 9) (N := some 24) (v := undef) (a' := ?_) (lb 34 1023) rfl rfl (any_of HT_.out (by kernel_rfl)) (fun _ _ _ h => h) (Or.inr ⟨by rfl, rfl⟩) ?_ ?_
        rotate_left
        ·simp only [Act.put, zS, zT, zU, zV, zW]
         rfl
        refine pure_ (i := 10) (N := some 25) (v := undef) (a' := ?_) (lb 34 2047) rfl rfl (any_of HT_.out (by kernel_rfl)) (fun _ _ _ h => h) (Or.inr ⟨by rfl, rfl⟩) ?_ ?_
        rotate_left
        ·simp only [Act.put, zS, zT, zU, zV, zW]
         rfl
        refine pure_ (i := 11) (N := some 26) (v := undef) (a' := ?_) (lb 34 4095) rfl rfl (any_of HT_.out (by kernel_rfl)) (fun _ _ _ h => h) (Or.inr ⟨by rfl, rfl⟩) ?_ ?_
        rotate_left
        ·simp only [Act.put, zS, zT, zU, zV, zW]
         rfl
        refine pure_ (i := 12) (N := some 27) (v := undef) (a' := ?_) (lb 34 8191) rfl rfl (any_of HT_.out (by kernel_rfl)) (fun _ _ _ h => h) (Or.inr ⟨by rfl, rfl⟩) ?_ ?_
        rotate_left
        ·simp only [Act.put, zS, zT, zU, zV, zW]
         rfl
        refine pure_ (i := 13) (N := some 28) (v := undef) (a' := ?_) (lb 34 16383) rfl rfl (any_of HT_.out (by kernel_rfl)) (fun _ _ _ h => h) (Or.inr ⟨by rfl, rfl⟩) ?_ ?_
        rotate_left
        ·simp only [Act.put, zS, zT, zU, zV, zW]
         rfl
        refine pure_ (i := 14) (N := some 29) (v := undef) (a' := ?_) (lb 34 32767) rfl rfl (any_of HT_.out (by kernel_rfl)) (fun _ _ _ h => h) (Or.inr ⟨by rfl, rfl⟩) ?_ ?_
        rotate_left
        ·simp only [Act.put, zS, zT, zU, zV, zW]
         rfl
        refine pure_ (i := 15) (N := some 30) (v := undef) (a' := ?_) (lb 34 65535) rfl rfl (any_of HT_.out (by kernel_rfl)) (fun _ _ _ h => h) (Or.inr ⟨by rfl, rfl⟩) ?_ ?_
        rotate_left
        ·simp only [Act.put, zS, zT, zU, zV, zW]
         rfl
        refine pure_ (i := 16) (N := some 31) (v := ?_) (a' := ?_) (lb 34 131071) rfl rfl (any_of HT_.out (by kernel_rfl)) (fun _ _ _ h => h) (Or.inl ⟨by rfl, ?_⟩) ?_ ?_
        rotate_left
        ·intro w'
         go_simp
         with_reducible rfl
        rotate_left
        ·simp only [Act.put, zS, zT, zU, zV, zW]
         rfl
        refine pure_ (i := 17) (N := some 32) (v := ?_) (a' := ?_) (lb 34 262143) rfl rfl (any_of HT_.out (by kernel_rfl)) (fun _ _ _ h => h) (Or.inl ⟨by rfl, ?_⟩) ?_ ?_
        rotate_left
        ·intro w'
         go_simp
         with_reducible rfl
        rotate_left
        ·simp only [Act.put, zS, zT, zU, zV, zW]
         rfl
        refine pure_ (i := 18) (N := some 33) (v := ?_) (a' := ?_) (lb 34 524287) rfl rfl (any_of HT_.out (by kernel_rfl)) (fun _ _ _ h => h) (Or.inl ⟨by rfl, ?_⟩) ?_ ?_
        rotate_left
        ·intro w'
         go_simp
         with_reducible rfl
        rotate_left
        ·simp only [Act.put, zS, zT, zU, zV, zW]
         rfl
        refine pure_ (i := 19) (N := some 34) (v := ?_) (a' := ?_) (lb 34 1048575) rfl rfl (any_of HT_.out (by kernel_rfl)) (fun _ _ _ h => h) (Or.inl ⟨by rfl, ?_⟩) ?_ ?_
        rotate_left
        ·intro w'
         go_simp
         with_reducible rfl
        rotate_left
        ·simp only [Act.put, zS, zT, zU, zV, zW]
         rfl
        refine pure_ (i := 20) (N := some 35) (v := ?_) (a' := ?_) (lb 34 2097151) rfl rfl (any_of HT_.out (by kernel_rfl)) (fun _ _ _ h => h) (Or.inl ⟨by rfl, ?_⟩) ?_ ?_
        rotate_left
        ·intro w'
         go_simp
         with_reducible rfl
        rotate_left
        ·simp only [Act.put, zS, zT, zU, zV, zW]
         rfl
        refine pure_ (i := 21) (N := some 36) (v := ?_) (a' := ?_) (lb 34 4194303) rfl rfl (any_of HT_.out (by kernel_rfl)) (fun _ _ _ h => h) (Or.inl ⟨by rfl, ?_⟩) ?_ ?_
        rotate_left
        ·intro w'
         go_simp
         with_reducible rfl
        rotate_left
        ·simp only [Act.put, zS, zT, zU, zV, zW]
         rfl
        refine take_ (i := 22) (N := some 37) (v := ?_) (a' := ?_) (lb 34 8388607) rfl rfl (take_ofW HT_.out HW_.out (by kernel_rfl)) (fun _ _ _ h => h) (Or.inl ⟨by rfl, ?_⟩) hHeld ?_ ?_
        rotate_left
        ·rintro w' ⟨s0, s1, s2⟩
         go_simp
         with_reducible rfl
        rotate_left
        ·simp only [Act.put, zS, zT, zU, zV, zW]
         rfl
        refine pure_ (i := 23) (N := some 38) (v := ?_) (a' := ?_) (lb 34 16777215) rfl rfl (any_of HT_.out (by kernel_rfl)) (fun _ _ _ h => h) (Or.inl ⟨by rfl, ?_⟩) ?_ ?_
        rotate_left
        ·intro w'
         go_simp
         with_reducible rfl
        rotate_left
        ·simp only [Act.put, zS, zT, zU, zV, zW]
         rfl
        refine pure_ (i := 24) (N := some 39) (v := ?_) (a' := ?_) (lb 34 33554431) rfl rfl (any_of HT_.out (by kernel_rfl)) (fun _ _ _ h => h) (Or.inl ⟨by rfl, ?_⟩) ?_ ?_
        rotate_left
        ·intro w'
         go_simp
         with_reducible rfl
        rotate_left
        ·simp only [Act.put, zS, zT, zU, zV, zW]
         rfl
        refine pure_ (i := 25) (N := some 40) (v := ?_) (a' := ?_) (lb 34 67108863) rfl rfl (any_of HT_.out (by kernel_rfl)) (fun _ _ _ h => h) (Or.inl ⟨by rfl, ?_⟩) ?_ ?_
        rotate_left
        ·intro w'
         go_simp
         with_reducible rfl
        rotate_left
        ·simp only [Act.put, zS, zT, zU, zV, zW]
         rfl
        refine pure_ (i := 26) (N := some 41) (v := ?_) (a' := ?_) (lb 34 134217727) rfl rfl (any_of HT_.out (by kernel_rfl)) (fun _ _ _ h => h) (Or.inl ⟨by rfl, ?_⟩) ?_ ?_
        rotate_left
        ·intro w'
         go_simp
         with_reducible rfl
        rotate_left
        ·simp only [Act.put, zS, zT, zU, zV, zW]
         rfl
        refine pure_ (i := 27) (N := some 42) (v := undef) (a' := ?_) (lb 34 268435455) rfl rfl (any_of HT_.out (by kernel_rfl)) (fun _ _ _ h => h) (Or.inr ⟨by rfl, rfl⟩) ?_ ?_
        rotate_left
        ·simp only [Act.put, zS, zT, zU, zV, zW]
         rfl
        refine pure_ (i := 28) (N := some 43) (v := undef) (a' := ?_) (lb 34 536870911) rfl rfl (any_of HT_.out (by kernel_rfl)) (fun _ _ _ h => h) (Or.inr ⟨by rfl, rfl⟩) ?_ ?_
        rotate_left
        ·simp only [Act.put, zS, zT, zU, zV, zW]
         rfl
        refine pure_ (i := 29) (N := some 44) (v := undef) (a' := ?_) (lb 34 1073741823) rfl rfl (any_of HT_.out (by kernel_rfl)) (fun _ _ _ h => h) (Or.inr ⟨by rfl, rfl⟩) ?_ ?_
        rotate_left
        ·simp only [Act.put, zS, zT, zU, zV, zW]
         rfl
        refine pure_ (i := 30) (N := some 45) (v := undef) (a' := ?_) (lb 34 2147483647) rfl rfl (any_of HT_.out (by kernel_rfl)) (fun _ _ _ h => h) (Or.inr ⟨by rfl, rfl⟩) ?_ ?_
        rotate_left
        ·simp only [Act.put, zS, zT, zU, zV, zW]
         rfl
        refine pure_ (i := 31) (N := some 46) (v := undef) (a' := ?_) (lb 34 4294967295) rfl rfl (any_of HT_.out (by kernel_rfl)) (fun _ _ _ h => h) (Or.inr ⟨by rfl, rfl⟩) ?_ ?_
        rotate_left
        ·simp only [Act.put, zS, zT, zU, zV, zW]
         rfl
        refine pure_ (i := 32) (N := some 47) (v := undef) (a' := ?_) (lb 34 8589934591) rfl rfl (any_of HT_.out (by kernel_rfl)) (fun _ _ _ h => h) (Or.inr ⟨by rfl, rfl⟩) ?_ ?_
        rotate_left
        ·simp only [Act.put, zS, zT, zU, zV, zW]
         rfl
        refine pure_ (i := 33) (N := some 48) (v := ?_) (a' := ?_) (lb 34 17179869183) rfl rfl (any_of HT_.out (by kernel_rfl)) (fun _ _ _ h => h) (Or.inl ⟨by rfl, ?_⟩) ?_ ?_
        rotate_left
        ·intro w'
         go_simp
         with_reducible rfl
        rotate_left
        ·simp only [Act.put, zS, zT, zU, zV, zW]
         rfl
        refine done_ (done_of HT_.out (by kernel_rfl)) ?_
        try go_wp2
        go_ret
        exact ⟨by first | rfl | (simp [errW_none, errW_some] <;> rfl) | (simp [*, errW_none, errW_some] <;> rfl), by repeat (first | (with_reducible first | exact HB.out | apply qL | apply qJ | apply qK) | exact HB.out)⟩
       ·rw [if_neg c23] at H
        have c23b0 : decide (16 < (((rd_T40 l0 x3_1).f1).length : Int)) = false := decide_eq_false c23
        have c23b1 : decide (16 < ((rd_T40 l0 x3_1).f1).length) = false := decide_eq_false (by omega)
        clear c23
        replace H := Option.bind_eq_some_iff.mp H
        obtain ⟨t233, A250, H⟩ := H
        (try dsimp only at H)
        have A25 := qH A250
        clear A250
        by_cases c26 : t233 = true
        ·subst c26
         have H1 : (some 8) = some r := by rw [if_pos rfl] at H; exact H
         clear H
         have H := H1
         clear H1
         obtain rfl := Option.some.inj H
         simp only [Option.some.injEq, Prod.mk.injEq] at H
         obtain ⟨rfl⟩ := H
         try go_wp2
         have n0_ := qH (qK HB.out)
         clear HB
         have HB := n0_
         clear n0_
         have p231 : 0 ≤ (x3_1 : Int) := of_decide_eq_true (by first | (with_reducible assumption) | assumption)
         have q231 : x3_1 < (l0.length : Int) := of_decide_eq_true (by first | (with_reducible assumption) | assumption)
         obtain ⟨ad231, A231_2, c231_2, e231, hx231_0, hx231_1, hx231_2, hl231_2, hi231_2⟩ := at_T40 HR0.out x3_1 p231 q231
         have hw231_2 := hx231_2
         have hw231_1 := hx231_1
         have hw231_0 := hx231_0
         cases e231
         replace hx231_0 := (HB.out.cell (qO w _ hx231_0)).trans hx231_0
         replace hx231_1 := (HB.out.cell (qO w _ hx231_1)).trans hx231_1
         replace hx231_2 := (HB.out.cell (qO w _ hx231_2)).trans hx231_2
         have HR231_2 := qH hi231_2
         have HC231_2 := qH hl231_2
         clear hi231_2 hl231_2
         replace p231 := eq_true p231
         replace q231 := eq_true q231
         have p232 : 0 ≤ (x3_1 : Int) := of_decide_eq_true (by first | (with_reducible assumption) | assumption)
         have q232 : x3_1 < (l0.length : Int) := of_decide_eq_true (by first | (with_reducible assumption) | assumption)
         obtain ⟨ad232, A232_2, c232_2, e232, hx232_0, hx232_1, hx232_2, hl232_2, hi232_2⟩ := at_T40 HR0.out x3_1 p232 q232
         have hw232_2 := hx232_2
         have hw232_1 := hx232_1
         have hw232_0 := hx232_0
         obtain rfl : ad231 = ad232 := (by injection e232)
         replace hx232_0 := (HB.out.cell (qO w _ hx232_0)).trans hx232_0
         replace hx232_1 := (HB.out.cell (qO w _ hx232_1)).trans hx232_1
         replace hx232_2 := (HB.out.cell (qO w _ hx232_2)).trans hx232_2
         have HR232_2 := qH hi232_2
         have HC232_2 := qH hl232_2
         clear hi232_2 hl232_2
         replace p232 := eq_true p232
         replace q232 := eq_true q232
         have ea_ := Option.some.inj (hx231_2.symm.trans hx232_2)
         injection ea_ with ea_ en_ ec_
         subst ea_
         subst ec_
         clear en_
         refine start_ (n := 34) (S := fun w' => w'.cell? (ad231.add ((x3_1).toNat * 3)) = some (.string ((rd_T40 l0 x3_1).f0.f0)) ∧ w'.cell? ⟨(ad231.add ((x3_1).toNat * 3)).block, (ad231.add ((x3_1).toNat * 3)).off + 1, none⟩ = some (.int .i64 ((rd_T40 l0 x3_1).f0.f1)) ∧ w'.cell? ⟨(ad231.add ((x3_1).toNat * 3)).block, (ad231.add ((x3_1).toNat * 3)).off + 2, none⟩ = some (.slice A231_2 ((rd_T40 l0 x3_1).f1).length c231_2) ∧ w'.cell? (ad231.add ((x3_1).toNat * 3)) = some (.string ((rd_T40 l0 x3_1).f0.f0)) ∧ w'.cell? ⟨(ad231.add ((x3_1).toNat * 3)).block, (ad231.add ((x3_1).toNat * 3)).off + 1, none⟩ = some (.int .i64 ((rd_T40 l0 x3_1).f0.f1)) ∧ w'.cell? ⟨(ad231.add ((x3_1).toNat * 3)).block, (ad231.add ((x3_1).toNat * 3)).off + 2, none⟩ = some (.slice A231_2 ((rd_T40 l0 x3_1).f1).length c231_2)) (ds := []) (lb 34 0) (by kernel_rfl) rfl rfl ⟨((HB.out.cell (qO w _ hw231_0)).trans hw231_0), ((HB.out.cell (qO w _ hw231_1)).trans hw231_1), ((HB.out.cell (qO w _ hw231_2)).trans hw231_2), ((HB.out.cell (qO w _ hw232_0)).trans hw232_0), ((HB.out.cell (qO w _ hw232_1)).trans hw232_1), ((HB.out.cell (qO w _ hw232_2)).trans hw232_2)⟩ (fun hHeld => ?_); refine with_tabW codicilref19_May.tab6 codicilref19_May.bits6 (fun HT_ HW_ => ?_)
         generalize wr.drew = w27 at HB HR231_2 HR232_2 hx231_0 hx231_1 hx231_2 hx232_0 hx232_1 hx232_2 hHeld ⊢
         refine pure_ (i := 0) (N := some 15) (v := ?_) (a' := ?_) (lb 34 1) rfl rfl (any_of HT_.out (by kernel_rfl)) (fun _ _ _ h => h) (Or.inl ⟨by rfl, ?_⟩) ?_ ?_
         rotate_left
         ·intro w'
          go_simp
          with_reducible rfl
         rotate_left
         ·simp only [Act.put, zS, zT, zU, zV, zW]
          rfl
         refine pure_ (i := 1) (N := some 16) (v := ?_) (a' := ?_) (lb 34 3) rfl rfl (any_of HT_.out (by kernel_rfl)) (fun _ _ _ h => h) (Or.inl ⟨by rfl, ?_⟩) ?_ ?_
         rotate_left
         ·intro w'
          go_simp
          with_reducible rfl
         rotate_left
         ·simp only [Act.put, zS, zT, zU, zV, zW]
          rfl
         refine pure_ (i := 2) (N := some 17) (v := ?_) (a' := ?_) (lb 34 7) rfl rfl (any_of HT_.out (by kernel_rfl)) (fun _ _ _ h => h) (Or.inl ⟨by rfl, ?_⟩) ?_ ?_
         rotate_left
         ·intro w'
          go_simp
          with_reducible rfl
         rotate_left
         ·simp only [Act.put, zS, zT, zU, zV, zW]
          rfl
         refine pure_ (i := 3) (N := some 18) (v := undef) (a' := ?_) (lb 34 15) rfl rfl (any_of HT_.out (by kernel_rfl)) (fun _ _ _ h => h) (Or.inr ⟨by rfl, rfl⟩) ?_ ?_
         rotate_left
         ·simp only [Act.put, zS, zT, zU, zV, zW]
          rfl
         refine pure_ (i := 4) (N := some 19) (v := undef) (a' := ?_) (lb 34 31) rfl rfl (any_of HT_.out (by kernel_rfl)) (fun _ _ _ h => h) (Or.inr ⟨by rfl, rfl⟩) ?_ ?_
         rotate_left
         ·simp only [Act.put, zS, zT, zU, zV, zW]
          rfl
         refine pure_ (i := 5) (N := some 20) (v := undef) (a' := ?_) (lb 34 63) rfl rfl (any_of HT_.out (by kernel_rfl)) (fun _ _ _ h => h) (Or.inr ⟨by rfl, rfl⟩) ?_ ?_
         rotate_left
         ·simp only [Act.put, zS, zT, zU, zV, zW]
          rfl
         refine pure_ (i := 6) (N := some 21) (v := undef) (a' := ?_) (lb 34 127) rfl rfl (any_of HT_.out (by kernel_rfl)) (fun _ _ _ h => h) (Or.inr ⟨by rfl, rfl⟩) ?_ ?_
         rotate_left
         ·simp only [Act.put, zS, zT, zU, zV, zW]
          rfl
         refine pure_ (i := 7) (N := some 22) (v := undef) (a' := ?_) (lb 34 255) rfl rfl (any_of HT_.out (by kernel_rfl)) (fun _ _ _ h => h) (Or.inr ⟨by rfl, rfl⟩) ?_ ?_
         rotate_left
         ·simp only [Act.put, zS, zT, zU, zV, zW]
          rfl
         refine pure_ (i := 8) (N := some 23) (v := undef) (a' := ?_) (lb 34 511) rfl rfl (any_of HT_.out (by kernel_rfl)) (fun _ _ _ h => h) (Or.inr ⟨by rfl, rfl⟩) ?_ ?_
         rotate_left
         ·simp only [Act.put, zS, zT, zU, zV, zW]
          rfl
         refine pure_ (i := 9) (N := some 24) (v := undef) (a' := ?_) (lb 34 1023) rfl rfl (any_of HT_.out (by kernel_rfl)) (fun _ _ _ h => h) (Or.inr ⟨by rfl, rfl⟩) ?_ ?_
         rotate_left
         ·simp only [Act.put, zS, zT, zU, zV, zW]
          rfl
         refine pure_ (i := 10) (N := some 25) (v := undef) (a' := ?_) (lb 34 2047) rfl rfl (any_of HT_.out (by kernel_rfl)) (fun _ _ _ h => h) (Or.inr ⟨by rfl, rfl⟩) ?_ ?_
         rotate_left
         ·simp only [Act.put, zS, zT, zU, zV, zW]
          rfl
         refine pure_ (i := 11) (N := some 26) (v := undef) (a' := ?_) (lb 34 4095) rfl rfl (any_of HT_.out (by kernel_rfl)) (fun _ _ _ h => h) (Or.inr ⟨by rfl, rfl⟩) ?_ ?_
         rotate_left
         ·simp only [Act.put, zS, zT, zU, zV, zW]
          rfl
         refine pure_ (i := 12) (N := some 27) (v := undef) (a' := ?_) (lb 34 8191) rfl rfl (any_of HT_.out (by kernel_rfl)) (fun _ _ _ h => h) (Or.inr ⟨by rfl, rfl⟩) ?_ ?_
         rotate_left
         ·simp only [Act.put, zS, zT, zU, zV, zW]
          rfl
         refine pure_ (i := 13) (N := some 28) (v := undef) (a' := ?_) (lb 34 16383) rfl rfl (any_of HT_.out (by kernel_rfl)) (fun _ _ _ h => h) (Or.inr ⟨by rfl, rfl⟩) ?_ ?_
         rotate_left
         ·simp only [Act.put, zS, zT, zU, zV, zW]
          rfl
         refine pure_ (i := 14) (N := some 29) (v := undef) (a' := ?_) (lb 34 32767) rfl rfl (any_of HT_.out (by kernel_rfl)) (fun _ _ _ h => h) (Or.inr ⟨by rfl, rfl⟩) ?_ ?_
         rotate_left
         ·simp only [Act.put, zS, zT, zU, zV, zW]
          rfl
         refine pure_ (i := 15) (N := some 30) (v := undef) (a' := ?_) (lb 34 65535) rfl rfl (any_of HT_.out (by kernel_rfl)) (fun _ _ _ h => h) (Or.inr ⟨by rfl, rfl⟩) ?_ ?_
         rotate_left
         ·simp only [Act.put, zS, zT, zU, zV, zW]
          rfl
         refine pure_ (i := 16) (N := some 31) (v := ?_) (a' := ?_) (lb 34 131071) rfl rfl (any_of HT_.out (by kernel_rfl)) (fun _ _ _ h => h) (Or.inl ⟨by rfl, ?_⟩) ?_ ?_
         rotate_left
         ·intro w'
          go_simp
          with_reducible rfl
         rotate_left
         ·simp only [Act.put, zS, zT, zU, zV, zW]
          rfl
         refine pure_ (i := 17) (N := some 32) (v := ?_) (a' := ?_) (lb 34 262143) rfl rfl (any_of HT_.out (by kernel_rfl)) (fun _ _ _ h => h) (Or.inl ⟨by rfl, ?_⟩) ?_ ?_
         rotate_left
         ·intro w'
          go_simp
          with_reducible rfl
         rotate_left
         ·simp only [Act.put, zS, zT, zU, zV, zW]
          rfl
         refine pure_ (i := 18) (N := some 33) (v := ?_) (a' := ?_) (lb 34 524287) rfl rfl (any_of HT_.out (by kernel_rfl)) (fun _ _ _ h => h) (Or.inl ⟨by rfl, ?_⟩) ?_ ?_
         rotate_left
         ·intro w'
          go_simp
          with_reducible rfl
         rotate_left
         ·simp only [Act.put, zS, zT, zU, zV, zW]
          rfl
         refine pure_ (i := 19) (N := some 34) (v := ?_) (a' := ?_) (lb 34 1048575) rfl rfl (any_of HT_.out (by kernel_rfl)) (fun _ _ _ h => h) (Or.inl ⟨by rfl, ?_⟩) ?_ ?_
         rotate_left
         ·intro w'
          go_simp
          with_reducible rfl
         rotate_left
         ·simp only [Act.put, zS, zT, zU, zV, zW]
          rfl
         refine pure_ (i := 20) (N := some 35) (v := ?_) (a' := ?_) (lb 34 2097151) rfl rfl (any_of HT_.out (by kernel_rfl)) (fun _ _ _ h => h) (Or.inl ⟨by rfl, ?_⟩) ?_ ?_
         rotate_left
         ·intro w'
          go_simp
          with_reducible rfl
         rotate_left
         ·simp only [Act.put, zS, zT, zU, zV, zW]
          rfl
         refine pure_ (i := 21) (N := some 36) (v := ?_) (a' := ?_) (lb 34 4194303) rfl rfl (any_of HT_.out (by kernel_rfl)) (fun _ _ _ h => h) (Or.inl ⟨by rfl, ?_⟩) ?_ ?_
         rotate_left
         ·intro w'
          go_simp
          with_reducible rfl
         rotate_left
         ·simp only [Act.put, zS, zT, zU, zV, zW]
          rfl
         refine take_ (i := 22) (N := some 37) (v := ?_) (a' := ?_) (lb 34 8388607) rfl rfl (take_ofW HT_.out HW_.out (by kernel_rfl)) (fun _ _ _ h => h) (Or.inl ⟨by rfl, ?_⟩) hHeld ?_ ?_
         rotate_left
         ·rintro w' ⟨s0, s1, s2, s3, s4, s5⟩
          go_simp
          with_reducible rfl
         rotate_left
         ·simp only [Act.put, zS, zT, zU, zV, zW]
          rfl
         refine pure_ (i := 23) (N := some 38) (v := ?_) (a' := ?_) (lb 34 16777215) rfl rfl (any_of HT_.out (by kernel_rfl)) (fun _ _ _ h => h) (Or.inl ⟨by rfl, ?_⟩) ?_ ?_
         rotate_left
         ·intro w'
          go_simp
          with_reducible rfl
         rotate_left
         ·simp only [Act.put, zS, zT, zU, zV, zW]
          rfl
         refine pure_ (i := 24) (N := some 39) (v := ?_) (a' := ?_) (lb 34 33554431) rfl rfl (any_of HT_.out (by kernel_rfl)) (fun _ _ _ h => h) (Or.inl ⟨by rfl, ?_⟩) ?_ ?_
         rotate_left
         ·intro w'
          go_simp
          with_reducible rfl
         rotate_left
         ·simp only [Act.put, zS, zT, zU, zV, zW]
          rfl
         refine pure_ (i := 25) (N := some 40) (v := ?_) (a' := ?_) (lb 34 67108863) rfl rfl (any_of HT_.out (by kernel_rfl)) (fun _ _ _ h => h) (Or.inl ⟨by rfl, ?_⟩) ?_ ?_
         rotate_left
         ·intro w'
          go_simp
          with_reducible rfl
         rotate_left
         ·simp only [Act.put, zS, zT, zU, zV, zW]
          rfl
         refine pure_ (i := 26) (N := some 41) (v := ?_) (a' := ?_) (lb 34 134217727) rfl rfl (any_of HT_.out (by kernel_rfl)) (fun _ _ _ h => h) (Or.inl ⟨by rfl, ?_⟩) ?_ ?_
         rotate_left
         ·intro w'
          go_simp
          with_reducible rfl
         rotate_left
         ·simp only [Act.put, zS, zT, zU, zV, zW]
          rfl
         refine pure_ (i := 27) (N := some 42) (v := ?_) (a' := ?_) (lb 34 268435455) rfl rfl (any_of HT_.out (by kernel_rfl)) (fun _ _ _ h => h) (Or.inl ⟨by rfl, ?_⟩) ?_ ?_
         rotate_left
         ·intro w'
          go_simp
          with_reducible rfl
         rotate_left
         ·simp only [Act.put, zS, zT, zU, zV, zW]
          rfl
         refine pure_ (i := 28) (N := some 43) (v := ?_) (a' := ?_) (lb 34 536870911) rfl rfl (any_of HT_.out (by kernel_rfl)) (fun _ _ _ h => h) (Or.inl ⟨by rfl, ?_⟩) ?_ ?_
         rotate_left
         ·intro w'
          go_simp
          with_reducible rfl
         rotate_left
         ·simp only [Act.put, zS, zT, zU, zV, zW]
          rfl
         refine pure_ (i := 29) (N := some 44) (v := ?_) (a' := ?_) (lb 34 1073741823) rfl rfl (any_of HT_.out (by kernel_rfl)) (fun _ _ _ h => h) (Or.inl ⟨by rfl, ?_⟩) ?_ ?_
         rotate_left
         ·intro w'
          go_simp
          with_reducible rfl
         rotate_left
         ·simp only [Act.put, zS, zT, zU, zV, zW]
          rfl
         refine pure_ (i := 30) (N := some 45) (v := ?_) (a' := ?_) (lb 34 2147483647) rfl rfl (any_of HT_.out (by kernel_rfl)) (fun _ _ _ h => h) (Or.inl ⟨by rfl, ?_⟩) ?_ ?_
         rotate_left
         ·intro w'
          go_simp
          with_reducible rfl
         rotate_left
         ·simp only [Act.put, zS, zT, zU, zV, zW]
          rfl
         refine take_ (i := 31) (N := some 46) (v := ?_) (a' := ?_) (lb 34 4294967295) rfl rfl (take_ofW HT_.out HW_.out (by kernel_rfl)) (fun _ _ _ h => h) (Or.inl ⟨by rfl, ?_⟩) hHeld ?_ ?_
         rotate_left
         ·rintro w' ⟨s0, s1, s2, s3, s4, s5⟩
          go_simp
          with_reducible rfl
         rotate_left
         ·simp only [Act.put, zS, zT, zU, zV, zW]
          rfl
         refine one_ (i := 32) (N := some 47) (lb 34 8589934591) rfl rfl (one_of HT_.out (by kernel_rfl)) (by decide) (fun K hK => ?_)
         refine goes_ Try.func35 (by kernel_rfl) rfl #[.slice A231_2 ((rd_T40 l0 x3_1).f1).length c231_2] (by rfl) rfl rfl (by (try simp only [zX, zY, zZ]); first | done | rfl | (simp only [zD, zE]; rfl)) ?_
         with_reducible refine (codicilref19_twice.calls k1 _ _ ((rd_T40 l0 x3_1).f1) true _ ?side1 ?side2 A25.out).mono ?_
         (case side1 => repeat (first | exact (Kd.C_below HR232_2.out HB.out) | (with_reducible refine Kd.C_alloc ?_ _) | (with_reducible refine Kd.C_drewN ?_ _) | (with_reducible refine Kd.C_drew ?_)))
         (case side2 => exact HC232_2.out)
         rintro e w' ⟨rfl, ⟨nd, rfl⟩⟩
         refine ⟨_, rfl, ?_⟩
         refine hK.out _ _ ⟨((HB.out.cell (qO w _ hw231_0)).trans hw231_0), ((HB.out.cell (qO w _ hw231_1)).trans hw231_1), ((HB.out.cell (qO w _ hw231_2)).trans hw231_2), ((HB.out.cell (qO w _ hw232_0)).trans hw232_0), ((HB.out.cell (qO w _ hw232_1)).trans hw232_1), ((HB.out.cell (qO w _ hw232_2)).trans hw232_2)⟩ (fun hHeld => ?_)
         clear hK K
         refine norm_ (a' := ?_) ?_ ?_
         rotate_left
         ·show Act.put _ (some 47) _ = _
          simp only [Act.put, zS, zT, zU, zV, zW]
          rfl
         refine pure_ (i := 33) (N := some 48) (v := ?_) (a' := ?_) (lb 34 17179869183) rfl rfl (any_of HT_.out (by kernel_rfl)) (fun _ _ _ h => h) (Or.inl ⟨by rfl, ?_⟩) ?_ ?_
         rotate_left
         ·intro w'
          go_simp
          with_reducible rfl
         rotate_left
         ·simp only [Act.put, zS, zT, zU, zV, zW]
          rfl
         refine done_ (done_of HT_.out (by kernel_rfl)) ?_
         try go_wp2
         go_ret
         exact ⟨by first | rfl | (simp [errW_none, errW_some] <;> rfl) | (simp [*, errW_none, errW_some] <;> rfl), by repeat (first | (with_reducible first | exact HB.out | apply qL | apply qJ | apply qK) | exact HB.out)⟩
        ·replace c26 := Bool.eq_false_iff.mpr c26
         subst c26
         have H1 : (codicilref19_May.l0 k1 l0 (wrap64 (x3_1 + 1))) = some r := by rw [if_neg (show ¬ (false = true) by decide)] at H; exact H
         clear H
         have H := H1
         clear H1
         have H' := qH H
         clear H
         try go_wp2
         have n0_ := qH (qK HB.out)
         clear HB
         have HB := n0_
         clear n0_
         have p231 : 0 ≤ (x3_1 : Int) := of_decide_eq_true (by first | (with_reducible assumption) | assumption)
         have q231 : x3_1 < (l0.length : Int) := of_decide_eq_true (by first | (with_reducible assumption) | assumption)
         obtain ⟨ad231, A231_2, c231_2, e231, hx231_0, hx231_1, hx231_2, hl231_2, hi231_2⟩ := at_T40 HR0.out x3_1 p231 q231
         have hw231_2 := hx231_2
         have hw231_1 := hx231_1
         have hw231_0 := hx231_0
         cases e231
         replace hx231_0 := (HB.out.cell (qO w _ hx231_0)).trans hx231_0
         replace hx231_1 := (HB.out.cell (qO w _ hx231_1)).trans hx231_1
         replace hx231_2 := (HB.out.cell (qO w _ hx231_2)).trans hx231_2
         have HR231_2 := qH hi231_2
         have HC231_2 := qH hl231_2
         clear hi231_2 hl231_2
         replace p231 := eq_true p231
         replace q231 := eq_true q231
         have p232 : 0 ≤ (x3_1 : Int) := of_decide_eq_true (by first | (with_reducible assumption) | assumption)
         have q232 : x3_1 < (l0.length : Int) := of_decide_eq_true (by first | (with_reducible assumption) | assumption)
         obtain ⟨ad232, A232_2, c232_2, e232, hx232_0, hx232_1, hx232_2, hl232_2, hi232_2⟩ := at_T40 HR0.out x3_1 p232 q232
         have hw232_2 := hx232_2
         have hw232_1 := hx232_1
         have hw232_0 := hx232_0
         obtain rfl : ad231 = ad232 := (by injection e232)
         replace hx232_0 := (HB.out.cell (qO w _ hx232_0)).trans hx232_0
         replace hx232_1 := (HB.out.cell (qO w _ hx232_1)).trans hx232_1
         replace hx232_2 := (HB.out.cell (qO w _ hx232_2)).trans hx232_2
         have HR232_2 := qH hi232_2
         have HC232_2 := qH hl232_2
         clear hi232_2 hl232_2
         replace p232 := eq_true p232
         replace q232 := eq_true q232
         have ea_ := Option.some.inj (hx231_2.symm.trans hx232_2)
         injection ea_ with ea_ en_ ec_
         subst ea_
         subst ec_
         clear en_
         refine start_ (n := 34) (S := fun w' => w'.cell? (ad231.add ((x3_1).toNat * 3)) = some (.string ((rd_T40 l0 x3_1).f0.f0)) ∧ w'.cell? ⟨(ad231.add ((x3_1).toNat * 3)).block, (ad231.add ((x3_1).toNat * 3)).off + 1, none⟩ = some (.int .i64 ((rd_T40 l0 x3_1).f0.f1)) ∧ w'.cell? ⟨(ad231.add ((x3_1).toNat * 3)).block, (ad231.add ((x3_1).toNat * 3)).off + 2, none⟩ = some (.slice A231_2 ((rd_T40 l0 x3_1).f1).length c231_2) ∧ w'.cell? (ad231.add ((x3_1).toNat * 3)) = some (.string ((rd_T40 l0 x3_1).f0.f0)) ∧ w'.cell? ⟨(ad231.add ((x3_1).toNat * 3)).block, (ad231.add ((x3_1).toNat * 3)).off + 1, none⟩ = some (.int .i64 ((rd_T40 l0 x3_1).f0.f1)) ∧ w'.cell? ⟨(ad231.add ((x3_1).toNat * 3)).block, (ad231.add ((x3_1).toNat * 3)).off + 2, none⟩ = some (.slice A231_2 ((rd_T40 l0 x3_1).f1).length c231_2)) (ds := []) (lb 34 0) (by kernel_rfl) rfl rfl ⟨((HB.out.cell (qO w _ hw231_0)).trans hw231_0), ((HB.out.cell (qO w _ hw231_1)).trans hw231_1), ((HB.out.cell (qO w _ hw231_2)).trans hw231_2), ((HB.out.cell (qO w _ hw232_0)).trans hw232_0), ((HB.out.cell (qO w _ hw232_1)).trans hw232_1), ((HB.out.cell (qO w _ hw232_2)).trans hw232_2)⟩ (fun hHeld => ?_); refine with_tabW codicilref19_May.tab6 codicilref19_May.bits6 (fun HT_ HW_ => ?_)
         generalize wr.drew = w28 at HB HR231_2 HR232_2 hx231_0 hx231_1 hx231_2 hx232_0 hx232_1 hx232_2 hHeld ⊢
         refine pure_ (i := 0) (N := some 15) (v := ?_) (a' := ?_) (lb 34 1) rfl rfl (any_of HT_.out (by kernel_rfl)) (fun _ _ _ h => h) (Or.inl ⟨by rfl, ?_⟩) ?_ ?_
         rotate_left
         ·intro w'
          go_simp
          with_reducible rfl
         rotate_left
         ·simp only [Act.put, zS, zT, zU, zV, zW]
          rfl
         refine pure_ (i := 1) (N := some 16) (v := ?_) (a' := ?_) (lb 34 3) rfl rfl (any_of HT_.out (by kernel_rfl)) (fun _ _ _ h => h) (Or.inl ⟨by rfl, ?_⟩) ?_ ?_
         rotate_left
         ·intro w'
          go_simp
          with_reducible rfl
         rotate_left
         ·simp only [Act.put, zS, zT, zU, zV, zW]
          rfl
         refine pure_ (i := 2) (N := some 17) (v := ?_) (a' := ?_) (lb 34 7) rfl rfl (any_of HT_.out (by kernel_rfl)) (fun _ _ _ h => h) (Or.inl ⟨by rfl, ?_⟩) ?_ ?_
         rotate_left
         ·intro w'
          go_simp
          with_reducible rfl
         rotate_left
         ·simp only [Act.put, zS, zT, zU, zV, zW]
          rfl
         refine pure_ (i := 3) (N := some 18) (v := undef) (a' := ?_) (lb 34 15) rfl rfl (any_of HT_.out (by kernel_rfl)) (fun _ _ _ h => h) (Or.inr ⟨by rfl, rfl⟩) ?_ ?_
         rotate_left
         ·simp only [Act.put, zS, zT, zU, zV, zW]
          rfl
         refine pure_ (i := 4) (N := some 19) (v := undef) (a' := ?_) (lb 34 31) rfl rfl (any_of HT_.out (by kernel_rfl)) (fun _ _ _ h => h) (Or.inr ⟨by rfl, rfl⟩) ?_ ?_
         rotate_left
         ·simp only [Act.put, zS, zT, zU, zV, zW]
          rfl
         refine pure_ (i := 5) (N := some 20) (v := undef) (a' := ?_) (lb 34 63) rfl rfl (any_of HT_.out (by kernel_rfl)) (fun _ _ _ h => h) (Or.inr ⟨by rfl, rfl⟩) ?_ ?_
         rotate_left
         ·simp only [Act.put, zS, zT, zU, zV, zW]
          rfl
         refine pure_ (i := 6) (N := some 21) (v := undef) (a' := ?_) (lb 34 127) rfl rfl (any_of HT_.out (by kernel_rfl)) (fun _ _ _ h => h) (Or.inr ⟨by rfl, rfl⟩) ?_ ?_
         rotate_left
         ·simp only [Act.put, zS, zT, zU, zV, zW]
          rfl
         refine pure_ (i := 7) (N := some 22) (v := undef) (a' := ?_) (lb 34 255) rfl rfl (any_of HT_.out (by kernel_rfl)) (fun _ _ _ h => h) (Or.inr ⟨by rfl, rfl⟩) ?_ ?_
         rotate_left
         ·simp only [Act.put, zS, zT, zU, zV, zW]
          rfl
         refine pure_ (i := 8) (N := some 23) (v := undef) (a' := ?_) (lb 34 511) rfl rfl (any_of HT_.out (by kernel_rfl)) (fun _ _ _ h => h) (Or.inr ⟨by rfl, rfl⟩) ?_ ?_
         rotate_left
         ·simp only [Act.put, zS, zT, zU, zV, zW]
          rfl
         refine pure_ (i := 9) (N := some 24) (v := undef) (a' := ?_) (lb 34 1023) rfl rfl (any_of HT_.out (by kernel_rfl)) (fun _ _ _ h => h) (Or.inr ⟨by rfl, rfl⟩) ?_ ?_
         rotate_left
         ·simp only [Act.put, zS, zT, zU, zV, zW]
          rfl
         refine pure_ (i := 10) (N := some 25) (v := undef) (a' := ?_) (lb 34 2047) rfl rfl (any_of HT_.out (by kernel_rfl)) (fun _ _ _ h => h) (Or.inr ⟨by rfl, rfl⟩) ?_ ?_
         rotate_left
         ·simp only [Act.put, zS, zT, zU, zV, zW]
          rfl
         refine pure_ (i := 11) (N := some 26) (v := undef) (a' := ?_) (lb 34 4095) rfl rfl (any_of HT_.out (by kernel_rfl)) (fun _ _ _ h => h) (Or.inr ⟨by rfl, rfl⟩) ?_ ?_
         rotate_left
         ·simp only [Act.put, zS, zT, zU, zV, zW]
          rfl
         refine pure_ (i := 12) (N := some 27) (v := undef) (a' := ?_) (lb 34 8191) rfl rfl (any_of HT_.out (by kernel_rfl)) (fun _ _ _ h => h) (Or.inr ⟨by rfl, rfl⟩) ?_ ?_
         rotate_left
         ·simp only [Act.put, zS, zT, zU, zV, zW]
          rfl
         refine pure_ (i := 13) (N := some 28) (v := undef) (a' := ?_) (lb 34 16383) rfl rfl (any_of HT_.out (by kernel_rfl)) (fun _ _ _ h => h) (Or.inr ⟨by rfl, rfl⟩) ?_ ?_
         rotate_left
         ·simp only [Act.put, zS, zT, zU, zV, zW]
          rfl
         refine pure_ (i := 14) (N := some 29) (v := undef) (a' := ?_) (lb 34 32767) rfl rfl (any_of HT_.out (by kernel_rfl)) (fun _ _ _ h => h) (Or.inr ⟨by rfl, rfl⟩) ?_ ?_
         rotate_left
         ·simp only [Act.put, zS, zT, zU, zV, zW]
          rfl
         refine pure_ (i := 15) (N := some 30) (v := undef) (a' := ?_) (lb 34 65535) rfl rfl (any_of HT_.out (by kernel_rfl)) (fun _ _ _ h => h) (Or.inr ⟨by rfl, rfl⟩) ?_ ?_
         rotate_left
         ·simp only [Act.put, zS, zT, zU, zV, zW]
          rfl
         refine pure_ (i := 16) (N := some 31) (v := ?_) (a' := ?_) (lb 34 131071) rfl rfl (any_of HT_.out (by kernel_rfl)) (fun _ _ _ h => h) (Or.inl ⟨by rfl, ?_⟩) ?_ ?_
         rotate_left
         ·intro w'
          go_simp
          with_reducible rfl
         rotate_left
         ·simp only [Act.put, zS, zT, zU, zV, zW]
          rfl
         refine pure_ (i := 17) (N := some 32) (v := ?_) (a' := ?_) (lb 34 262143) rfl rfl (any_of HT_.out (by kernel_rfl)) (fun _ _ _ h => h) (Or.inl ⟨by rfl, ?_⟩) ?_ ?_
         rotate_left
         ·intro w'
          go_simp
          with_reducible rfl
         rotate_left
         ·simp only [Act.put, zS, zT, zU, zV, zW]
          rfl
         refine pure_ (i := 18) (N := some 33) (v := ?_) (a' := ?_) (lb 34 524287) rfl rfl (any_of HT_.out (by kernel_rfl)) (fun _ _ _ h => h) (Or.inl ⟨by rfl, ?_⟩) ?_ ?_
         rotate_left
         ·intro w'
          go_simp
          with_reducible rfl
         rotate_left
         ·simp only [Act.put, zS, zT, zU, zV, zW]
          rfl
         refine pure_ (i := 19) (N := some 34) (v := ?_) (a' := ?_) (lb 34 1048575) rfl rfl (any_of HT_.out (by kernel_rfl)) (fun _ _ _ h => h) (Or.inl ⟨by rfl, ?_⟩) ?_ ?_
         rotate_left
         ·intro w'
          go_simp
          with_reducible rfl
         rotate_left
         ·simp only [Act.put, zS, zT, zU, zV, zW]
          rfl
         refine pure_ (i := 20) (N := some 35) (v := ?_) (a' := ?_) (lb 34 2097151) rfl rfl (any_of HT_.out (by kernel_rfl)) (fun _ _ _ h => h) (Or.inl ⟨by rfl, ?_⟩) ?_ ?_
         rotate_left
         ·intro w'
          go_simp
          with_reducible rfl
         rotate_left
         ·simp only [Act.put, zS, zT, zU, zV, zW]
          rfl
         refine pure_ (i := 21) (N := some 36) (v := ?_) (a' := ?_) (lb 34 4194303) rfl rfl (any_of HT_.out (by kernel_rfl)) (fun _ _ _ h => h) (Or.inl ⟨by rfl, ?_⟩) ?_ ?_
         rotate_left
         ·intro w'
          go_simp
          with_reducible rfl
         rotate_left
         ·simp only [Act.put, zS, zT, zU, zV, zW]
          rfl
         refine take_ (i := 22) (N := some 37) (v := ?_) (a' := ?_) (lb 34 8388607) rfl rfl (take_ofW HT_.out HW_.out (by kernel_rfl)) (fun _ _ _ h => h) (Or.inl ⟨by rfl, ?_⟩) hHeld ?_ ?_
         rotate_left
         ·rintro w' ⟨s0, s1, s2, s3, s4, s5⟩
          go_simp
          with_reducible rfl
         rotate_left
         ·simp only [Act.put, zS, zT, zU, zV, zW]
          rfl
         refine pure_ (i := 23) (N := some 38) (v := ?_) (a' := ?_) (lb 34 16777215) rfl rfl (any_of HT_.out (by kernel_rfl)) (fun _ _ _ h => h) (Or.inl ⟨by rfl, ?_⟩) ?_ ?_
         rotate_left
         ·intro w'
          go_simp
          with_reducible rfl
         rotate_left
         ·simp only [Act.put, zS, zT, zU, zV, zW]
          rfl
         refine pure_ (i := 24) (N := some 39) (v := ?_) (a' := ?_) (lb 34 33554431) rfl rfl (any_of HT_.out (by kernel_rfl)) (fun _ _ _ h => h) (Or.inl ⟨by rfl, ?_⟩) ?_ ?_
         rotate_left
         ·intro w'
          go_simp
          with_reducible rfl
         rotate_left
         ·simp only [Act.put, zS, zT, zU, zV, zW]
          rfl
         refine pure_ (i := 25) (N := some 40) (v := ?_) (a' := ?_) (lb 34 67108863) rfl rfl (any_of HT_.out (by kernel_rfl)) (fun _ _ _ h => h) (Or.inl ⟨by rfl, ?_⟩) ?_ ?_
         rotate_left
         ·intro w'
          go_simp
          with_reducible rfl
         rotate_left
         ·simp only [Act.put, zS, zT, zU, zV, zW]
          rfl
         refine pure_ (i := 26) (N := some 41) (v := ?_) (a' := ?_) (lb 34 134217727) rfl rfl (any_of HT_.out (by kernel_rfl)) (fun _ _ _ h => h) (Or.inl ⟨by rfl, ?_⟩) ?_ ?_
         rotate_left
         ·intro w'
          go_simp
          with_reducible rfl
         rotate_left
         ·simp only [Act.put, zS, zT, zU, zV, zW]
          rfl
         refine pure_ (i := 27) (N := some 42) (v := ?_) (a' := ?_) (lb 34 268435455) rfl rfl (any_of HT_.out (by kernel_rfl)) (fun _ _ _ h => h) (Or.inl ⟨by rfl, ?_⟩) ?_ ?_
         rotate_left
         ·intro w'
          go_simp
          with_reducible rfl
         rotate_left
         ·simp only [Act.put, zS, zT, zU, zV, zW]
          rfl
         refine pure_ (i := 28) (N := some 43) (v := ?_) (a' := ?_) (lb 34 536870911) rfl rfl (any_of HT_.out (by kernel_rfl)) (fun _ _ _ h => h) (Or.inl ⟨by rfl, ?_⟩) ?_ ?_
         rotate_left
         ·intro w'
          go_simp
          with_reducible rfl
         rotate_left
         ·simp only [Act.put, zS, zT, zU, zV, zW]
          rfl
         refine pure_ (i := 29) (N := some 44) (v := ?_) (a' := ?_) (lb 34 1073741823) rfl rfl (any_of HT_.out (by kernel_rfl)) (fun _ _ _ h => h) (Or.inl ⟨by rfl, ?_⟩) ?_ ?_
         rotate_left
         ·intro w'
          go_simp
          with_reducible rfl
         rotate_left
         ·simp only [Act.put, zS, zT, zU, zV, zW]
          rfl
         refine pure_ (i := 30) (N := some 45) (v := ?_) (a' := ?_) (lb 34 2147483647) rfl rfl (any_of HT_.out (by kernel_rfl)) (fun _ _ _ h => h) (Or.inl ⟨by rfl, ?_⟩) ?_ ?_
         rotate_left
         ·intro w'
          go_simp
          with_reducible rfl
         rotate_left
         ·simp only [Act.put, zS, zT, zU, zV, zW]
          rfl
         refine take_ (i := 31) (N := some 46) (v := ?_) (a' := ?_) (lb 34 4294967295) rfl rfl (take_ofW HT_.out HW_.out (by kernel_rfl)) (fun _ _ _ h => h) (Or.inl ⟨by rfl, ?_⟩) hHeld ?_ ?_
         rotate_left
         ·rintro w' ⟨s0, s1, s2, s3, s4, s5⟩
          go_simp
          with_reducible rfl
         rotate_left
         ·simp only [Act.put, zS, zT, zU, zV, zW]
          rfl
         refine one_ (i := 32) (N := some 47) (lb 34 8589934591) rfl rfl (one_of HT_.out (by kernel_rfl)) (by decide) (fun K hK => ?_)
         refine goes_ Try.func35 (by kernel_rfl) rfl #[.slice A231_2 ((rd_T40 l0 x3_1).f1).length c231_2] (by rfl) rfl rfl (by (try simp only [zX, zY, zZ]); first | done | rfl | (simp only [zD, zE]; rfl)) ?_
         with_reducible refine (codicilref19_twice.calls k1 _ _ ((rd_T40 l0 x3_1).f1) false _ ?side1 ?side2 A25.out).mono ?_
         (case side1 => repeat (first | exact (Kd.C_below HR232_2.out HB.out) | (with_reducible refine Kd.C_alloc ?_ _) | (with_reducible refine Kd.C_drewN ?_ _) | (with_reducible refine Kd.C_drew ?_)))
         (case side2 => exact HC232_2.out)
         rintro e w' ⟨rfl, ⟨nd, rfl⟩⟩
         refine ⟨_, rfl, ?_⟩
         refine hK.out _ _ ⟨((HB.out.cell (qO w _ hw231_0)).trans hw231_0), ((HB.out.cell (qO w _ hw231_1)).trans hw231_1), ((HB.out.cell (qO w _ hw231_2)).trans hw231_2), ((HB.out.cell (qO w _ hw232_0)).trans hw232_0), ((HB.out.cell (qO w _ hw232_1)).trans hw232_1), ((HB.out.cell (qO w _ hw232_2)).trans hw232_2)⟩ (fun hHeld => ?_)
         clear hK K
         refine norm_ (a' := ?_) ?_ ?_
         rotate_left
         ·show Act.put _ (some 47) _ = _
          simp only [Act.put, zS, zT, zU, zV, zW]
          rfl
         refine pure_ (i := 33) (N := some 48) (v := ?_) (a' := ?_) (lb 34 17179869183) rfl rfl (any_of HT_.out (by kernel_rfl)) (fun _ _ _ h => h) (Or.inl ⟨by rfl, ?_⟩) ?_ ?_
         rotate_left
         ·intro w'
          go_simp
          with_reducible rfl
         rotate_left
         ·simp only [Act.put, zS, zT, zU, zV, zW]
          rfl
         refine done_ (done_of HT_.out (by kernel_rfl)) ?_
         try go_wp2
         go_roundg k1
         case measure => have := HK1.out; omega
         case rel => exact ⟨(wrap64 (x3_1 + 1)), (by first | rfl | (simp; done) | (simp; exact qEmp _) | (simp [*]; done)), H', ⟨by have := HK1.out; omega⟩, ⟨by repeat (first | (with_reducible first | exact HB.out | apply qL | apply qJ | apply qK) | exact HB.out)⟩⟩
      ·rw [if_neg c22] at H
       exact absurd H (by simp)
    ·rw [if_neg c3] at H
     have c3b0 : decide (x3_1 < (l0.length : Int)) = false := decide_eq_false c3
     clear c3
     have H' := qH H
     clear H
     go_wp2
     go_loopg [4] k1 (fun kq v4 w' => ∃ (x4_2 : Int), v4 = .int .i64 x4_2 ∧ Aside0 (codicilref19_May.l1 kq l0 x4_2 = some r) ∧ Aside0 (kq ≤ k1) ∧ Aside0 (Below w.heap.size w w'))
     case atStart => exact ⟨(0), (by first | rfl | (simp; done) | (simp; exact qEmp _) | (simp [*]; done)), H', ⟨Nat.le_refl _⟩, ⟨by repeat (first | (with_reducible first | exact HB.out | apply qL | apply qJ | apply qK) | exact HB.out)⟩⟩
     case round =>
      clear H'
      try clear c2
      try clear p2
      try clear q2
      try clear hx2
      try clear c3
      try clear c3b0
      try clear p6
      try clear c22
      try clear c23
      try clear c23b0
      try clear c23b1
      try clear p23
      try clear q23
      try clear hx23
      try clear c26
      try clear hx231_0
      try clear hx231_1
      try clear hx231_2
      try clear hx232_0
      try clear hx232_1
      try clear hx232_2
      try clear p231
      try clear p232
      try clear q231
      try clear q232
      obtain ⟨x4_2, rfl, HA, HK2, HB⟩ := hrel
      cases gk with
      | zero => exact absurd HA.out (by simp [codicilref19_May.l1])
      | succ k2 =>
       have H := HA.out
       clear HA
       simp only [codicilref19_May.l1] at H
       by_cases c29 : x4_2 < (l0.length : Int)
       ·rw [if_pos c29] at H
        have c29b0 : decide (x4_2 < (l0.length : Int)) = true := decide_eq_true c29
        clear c29
        have H' := qH H
        clear H
        go_wp2
        go_loopg [5] k2 (fun kq v5 w' => ∃ (x5_3 : Int), v5 = .int .i64 x5_3 ∧ Aside0 (codicilref19_May.l2 kq l0 x4_2 x5_3 = some r) ∧ Aside0 (kq ≤ k2) ∧ Aside0 (Below w.heap.size w w'))
        case atStart => exact ⟨(0), (by first | rfl | (simp; done) | (simp; exact qEmp _) | (simp [*]; done)), H', ⟨Nat.le_refl _⟩, ⟨by repeat (first | (with_reducible first | exact HB.out | apply qL | apply qJ | apply qK) | exact HB.out)⟩⟩
        case round =>
         clear H'
         try clear c2
         try clear p2
         try clear q2
         try clear hx2
         try clear c3
         try clear c3b0
         try clear p6
         try clear c22
         try clear c23
         try clear c23b0
         try clear c23b1
         try clear p23
         try clear q23
         try clear hx23
         try clear c26
         try clear c29
         try clear c29b0
         try clear hx231_0
         try clear hx231_1
         try clear hx231_2
         try clear hx232_0
         try clear hx232_1
         try clear hx232_2
         try clear p2
         try clear p23
         try clear p231
         try clear p232
         try clear p6
         try clear q2
         try clear q23
         try clear q231
         try clear q232
         obtain ⟨x5_3, rfl, HA, HK3, HB⟩ := hrel
         cases gk with
         | zero => exact absurd HA.out (by simp [codicilref19_May.l2])
         | succ k3 =>
          have H := HA.out
          clear HA
          simp only [codicilref19_May.l2] at H
          by_cases c30 : 0 ≤ x4_2
          ·rw [if_pos c30] at H
           have c30b0 : decide (0 ≤ x4_2) = true := decide_eq_true c30
           clear c30
           by_cases c31 : x4_2 < (l0.length : Int)
           ·rw [if_pos c31] at H
            have c31b0 : decide (x4_2 < (l0.length : Int)) = true := decide_eq_true c31
            clear c31
            by_cases c32 : x5_3 < (((rd_T40 l0 x4_2).f1).length : Int)
            ·rw [if_pos c32] at H
             have c32b0 : decide (x5_3 < (((rd_T40 l0 x4_2).f1).length : Int)) = true := decide_eq_true c32
             clear c32
             by_cases c33 : 0 ≤ x5_3
             ·rw [if_pos c33] at H
              have c33b0 : decide (0 ≤ x5_3) = true := decide_eq_true c33
              clear c33
              replace H := Option.bind_eq_some_iff.mp H
              obtain ⟨t238, A340, H⟩ := H
              (try dsimp only at H)
              have A34 := qH A340
              clear A340
              by_cases c35 : t238 < 0
              ·rw [if_pos c35] at H
               have c35b0 : decide (t238 < 0) = true := decide_eq_true c35
               clear c35
               obtain rfl := Option.some.inj H
               simp only [Option.some.injEq, Prod.mk.injEq] at H
               obtain ⟨rfl⟩ := H
               have p235 : 0 ≤ (x4_2 : Int) := of_decide_eq_true (by first | (with_reducible assumption) | assumption)
               have q235 : x4_2 < (l0.length : Int) := of_decide_eq_true (by first | (with_reducible assumption) | assumption)
               obtain ⟨ad235, A235_2, c235_2, e235, hx235_0, hx235_1, hx235_2, hl235_2, hi235_2⟩ := at_T40 HR0.out x4_2 p235 q235
               cases e235
               replace hx235_0 := (HB.out.cell (qO w _ hx235_0)).trans hx235_0
               replace hx235_1 := (HB.out.cell (qO w _ hx235_1)).trans hx235_1
               replace hx235_2 := (HB.out.cell (qO w _ hx235_2)).trans hx235_2
               have HR235_2 := qH hi235_2
               have HC235_2 := qH hl235_2
               clear hi235_2 hl235_2
               replace p235 := eq_true p235
               replace q235 := eq_true q235
               have p236 : 0 ≤ (x4_2 : Int) := of_decide_eq_true (by first | (with_reducible assumption) | assumption)
               have q236 : x4_2 < (l0.length : Int) := of_decide_eq_true (by first | (with_reducible assumption) | assumption)
               obtain ⟨ad236, A236_2, c236_2, e236, hx236_0, hx236_1, hx236_2, hl236_2, hi236_2⟩ := at_T40 HR0.out x4_2 p236 q236
               obtain rfl : ad235 = ad236 := (by injection e236)
               replace hx236_0 := (HB.out.cell (qO w _ hx236_0)).trans hx236_0
               replace hx236_1 := (HB.out.cell (qO w _ hx236_1)).trans hx236_1
               replace hx236_2 := (HB.out.cell (qO w _ hx236_2)).trans hx236_2
               have HR236_2 := qH hi236_2
               have HC236_2 := qH hl236_2
               clear hi236_2 hl236_2
               replace p236 := eq_true p236
               replace q236 := eq_true q236
               have ea_ := Option.some.inj (hx235_2.symm.trans hx236_2)
               injection ea_ with ea_ en_ ec_
               subst ea_
               subst ec_
               clear en_
               have p237 : 0 ≤ (x5_3 : Int) := of_decide_eq_true (by first | (with_reducible assumption) | assumption)
               have q237 : x5_3 < (((rd_T40 l0 x4_2).f1).length : Int) := of_decide_eq_true (by first | (with_reducible assumption) | assumption)
               obtain ⟨ad237, e237, hx237_0, hx237_1⟩ := at_T24 HR236_2.out x5_3 p237 q237
               cases e237
               replace hx237_0 := (HB.out.cell (qO w _ hx237_0)).trans hx237_0
               replace hx237_1 := (HB.out.cell (qO w _ hx237_1)).trans hx237_1
               replace p237 := eq_true p237
               replace q237 := eq_true q237
               go_wp2_with (first | ((with_reducible refine gate_callee (f := 28) rfl ?_); refine goesL_ (some 74) rfl rfl Try.func28 (by kernel_rfl) rfl #[.slice (some ad235) l0.length c0, .agg #[.string ((rd_T24 ((rd_T40 l0 x4_2).f1) x5_3).f0), .int .i64 ((rd_T24 ((rd_T40 l0 x4_2).f1) x5_3).f1)]] rfl (by (try simp only [zX, zY, zZ]); first | done | rfl | (simp only [zD, zE]; rfl)) ?_; (with_reducible refine (codicilref19_at.calls k3 _ _ l0 ((rd_T24 ((rd_T40 l0 x4_2).f1) x5_3).f0) ((rd_T24 ((rd_T40 l0 x4_2).f1) x5_3).f1) t238 _ ?side1 ?side2 A34.out).mono ?_); (case side1 => repeat (first | exact (Kd.C_below HR0.out HB.out) | (with_reducible refine Kd.C_alloc ?_ _) | (with_reducible refine Kd.C_drewN ?_ _) | (with_reducible refine Kd.C_drew ?_))); (case side2 => exact HC0.out); rintro e w36 ⟨rfl, hb⟩; refine ⟨_, rfl, ?_⟩; have n0_ := qH (below_step (by repeat (first | (with_reducible first | exact HB.out | apply qL | apply qJ | apply qK) | exact HB.out)) hb); clear HB; have HB := n0_; clear n0_; (try clear hb); (try clear hb2); (try clear hk); (try clear hi)))
               go_ret
               exact ⟨by first | rfl | (simp [errW_none, errW_some] <;> rfl) | (simp [*, errW_none, errW_some] <;> rfl), by repeat (first | (with_reducible first | exact HB.out | apply qL | apply qJ | apply qK) | exact HB.out)⟩
              ·rw [if_neg c35] at H
               have c35b0 : decide (t238 < 0) = false := decide_eq_false c35
               clear c35
               have H' := qH H
               clear H
               have p235 : 0 ≤ (x4_2 : Int) := of_decide_eq_true (by first | (with_reducible assumption) | assumption)
               have q235 : x4_2 < (l0.length : Int) := of_decide_eq_true (by first | (with_reducible assumption) | assumption)
               obtain ⟨ad235, A235_2, c235_2, e235, hx235_0, hx235_1, hx235_2, hl235_2, hi235_2⟩ := at_T40 HR0.out x4_2 p235 q235
               cases e235
               replace hx235_0 := (HB.out.cell (qO w _ hx235_0)).trans hx235_0
               replace hx235_1 := (HB.out.cell (qO w _ hx235_1)).trans hx235_1
               replace hx235_2 := (HB.out.cell (qO w _ hx235_2)).trans hx235_2
               have HR235_2 := qH hi235_2
               have HC235_2 := qH hl235_2
               clear hi235_2 hl235_2
               replace p235 := eq_true p235
               replace q235 := eq_true q235
               have p236 : 0 ≤ (x4_2 : Int) := of_decide_eq_true (by first | (with_reducible assumption) | assumption)
               have q236 : x4_2 < (l0.length : Int) := of_decide_eq_true (by first | (with_reducible assumption) | assumption)
               obtain ⟨ad236, A236_2, c236_2, e236, hx236_0, hx236_1, hx236_2, hl236_2, hi236_2⟩ := at_T40 HR0.out x4_2 p236 q236
               obtain rfl : ad235 = ad236 := (by injection e236)
               replace hx236_0 := (HB.out.cell (qO w _ hx236_0)).trans hx236_0
               replace hx236_1 := (HB.out.cell (qO w _ hx236_1)).trans hx236_1
               replace hx236_2 := (HB.out.cell (qO w _ hx236_2)).trans hx236_2
               have HR236_2 := qH hi236_2
               have HC236_2 := qH hl236_2
               clear hi236_2 hl236_2
               replace p236 := eq_true p236
               replace q236 := eq_true q236
               have ea_ := Option.some.inj (hx235_2.symm.trans hx236_2)
               injection ea_ with ea_ en_ ec_
               subst ea_
               subst ec_
               clear en_
               have p237 : 0 ≤ (x5_3 : Int) := of_decide_eq_true (by first | (with_reducible assumption) | assumption)
               have q237 : x5_3 < (((rd_T40 l0 x4_2).f1).length : Int) := of_decide_eq_true (by first | (with_reducible assumption) | assumption)
               obtain ⟨ad237, e237, hx237_0, hx237_1⟩ := at_T24 HR236_2.out x5_3 p237 q237
               cases e237
               replace hx237_0 := (HB.out.cell (qO w _ hx237_0)).trans hx237_0
               replace hx237_1 := (HB.out.cell (qO w _ hx237_1)).trans hx237_1
               replace p237 := eq_true p237
               replace q237 := eq_true q237
               go_wp2_with (first | ((with_reducible refine gate_callee (f := 28) rfl ?_); refine goesL_ (some 74) rfl rfl Try.func28 (by kernel_rfl) rfl #[.slice (some ad235) l0.length c0, .agg #[.string ((rd_T24 ((rd_T40 l0 x4_2).f1) x5_3).f0), .int .i64 ((rd_T24 ((rd_T40 l0 x4_2).f1) x5_3).f1)]] rfl (by (try simp only [zX, zY, zZ]); first | done | rfl | (simp only [zD, zE]; rfl)) ?_; (with_reducible refine (codicilref19_at.calls k3 _ _ l0 ((rd_T24 ((rd_T40 l0 x4_2).f1) x5_3).f0) ((rd_T24 ((rd_T40 l0 x4_2).f1) x5_3).f1) t238 _ ?side1 ?side2 A34.out).mono ?_); (case side1 => repeat (first | exact (Kd.C_below HR0.out HB.out) | (with_reducible refine Kd.C_alloc ?_ _) | (with_reducible refine Kd.C_drewN ?_ _) | (with_reducible refine Kd.C_drew ?_))); (case side2 => exact HC0.out); rintro e w37 ⟨rfl, hb⟩; refine ⟨_, rfl, ?_⟩; have n0_ := qH (below_step (by repeat (first | (with_reducible first | exact HB.out | apply qL | apply qJ | apply qK) | exact HB.out)) hb); clear HB; have HB := n0_; clear n0_; (try clear hb); (try clear hb2); (try clear hk); (try clear hi)))
               go_roundg k3
               case measure => have := HK1.out; have := HK2.out; have := HK3.out; omega
               case rel => exact ⟨(wrap64 (x5_3 + 1)), (by first | rfl | (simp; done) | (simp; exact qEmp _) | (simp [*]; done)), H', ⟨by have := HK1.out; have := HK2.out; have := HK3.out; omega⟩, ⟨by repeat (first | (with_reducible first | exact HB.out | apply qL | apply qJ | apply qK) | exact HB.out)⟩⟩
             ·rw [if_neg c33] at H
              exact absurd H (by simp)
            ·rw [if_neg c32] at H
             have c32b0 : decide (x5_3 < (((rd_T40 l0 x4_2).f1).length : Int)) = false := decide_eq_false c32
             clear c32
             have H' := qH H
             clear H
             have p235 : 0 ≤ (x4_2 : Int) := of_decide_eq_true (by first | (with_reducible assumption) | assumption)
             have q235 : x4_2 < (l0.length : Int) := of_decide_eq_true (by first | (with_reducible assumption) | assumption)
             obtain ⟨ad235, A235_2, c235_2, e235, hx235_0, hx235_1, hx235_2, hl235_2, hi235_2⟩ := at_T40 HR0.out x4_2 p235 q235
             cases e235
             replace hx235_0 := (HB.out.cell (qO w _ hx235_0)).trans hx235_0
             replace hx235_1 := (HB.out.cell (qO w _ hx235_1)).trans hx235_1
             replace hx235_2 := (HB.out.cell (qO w _ hx235_2)).trans hx235_2
             have HR235_2 := qH hi235_2
             have HC235_2 := qH hl235_2
             clear hi235_2 hl235_2
             replace p235 := eq_true p235
             replace q235 := eq_true q235
             go_wp2
             go_roundg k3
             case measure => have := HK1.out; have := HK2.out; have := HK3.out; omega
             case rel => exact ⟨(wrap64 (x4_2 + 1)), (by first | rfl | (simp; done) | (simp; exact qEmp _) | (simp [*]; done)), H', ⟨by have := HK1.out; have := HK2.out; have := HK3.out; omega⟩, ⟨by repeat (first | (with_reducible first | exact HB.out | apply qL | apply qJ | apply qK) | exact HB.out)⟩⟩
           ·rw [if_neg c31] at H
            exact absurd H (by simp)
          ·rw [if_neg c30] at H
           exact absurd H (by simp)
       ·rw [if_neg c29] at H
        have c29b0 : decide (x4_2 < (l0.length : Int)) = false := decide_eq_false c29
        clear c29
        replace H := Option.bind_eq_some_iff.mp H
        obtain ⟨t234, A380, H⟩ := H
        (try dsimp only at H)
        have A38 := qH A380
        clear A380
        by_cases c39 : t234 = true
        ·subst c39
         have H1 : (some 8) = some r := by rw [if_pos rfl] at H; exact H
         clear H
         have H := H1
         clear H1
         obtain rfl := Option.some.inj H
         simp only [Option.some.injEq, Prod.mk.injEq] at H
         obtain ⟨rfl⟩ := H
         go_wp2_with (first | ((with_reducible refine gate_callee (f := 36) rfl ?_); refine goesL_ (some 77) rfl rfl Try.func36 (by kernel_rfl) rfl #[.slice A0 l0.length c0] rfl (by (try simp only [zX, zY, zZ]); first | done | rfl | (simp only [zD, zE]; rfl)) ?_; (with_reducible refine (codicilref19_circles.calls k2 _ _ l0 true _ ?side1 ?side2 A38.out).mono ?_); (case side1 => repeat (first | exact (Kd.C_below HR0.out HB.out) | (with_reducible refine Kd.C_alloc ?_ _) | (with_reducible refine Kd.C_drewN ?_ _) | (with_reducible refine Kd.C_drew ?_))); (case side2 => exact HC0.out); rintro e w40 ⟨rfl, hb⟩; refine ⟨_, rfl, ?_⟩; have n0_ := qH (below_step (by repeat (first | (with_reducible first | exact HB.out | apply qL | apply qJ | apply qK) | exact HB.out)) hb); clear HB; have HB := n0_; clear n0_; (try clear hb); (try clear hb2); (try clear hk); (try clear hi)))
         go_ret
         exact ⟨by first | rfl | (simp [errW_none, errW_some] <;> rfl) | (simp [*, errW_none, errW_some] <;> rfl), by repeat (first | (with_reducible first | exact HB.out | apply qL | apply qJ | apply qK) | exact HB.out)⟩
        ·replace c39 := Bool.eq_false_iff.mpr c39
         subst c39
         have H1 : (some 0) = some r := by rw [if_neg (show ¬ (false = true) by decide)] at H; exact H
         clear H
         have H := H1
         clear H1
         obtain rfl := Option.some.inj H
         simp only [Option.some.injEq, Prod.mk.injEq] at H
         obtain ⟨rfl⟩ := H
         go_wp2_with (first | ((with_reducible refine gate_callee (f := 36) rfl ?_); refine goesL_ (some 77) rfl rfl Try.func36 (by kernel_rfl) rfl #[.slice A0 l0.length c0] rfl (by (try simp only [zX, zY, zZ]); first | done | rfl | (simp only [zD, zE]; rfl)) ?_; (with_reducible refine (codicilref19_circles.calls k2 _ _ l0 false _ ?side1 ?side2 A38.out).mono ?_); (case side1 => repeat (first | exact (Kd.C_below HR0.out HB.out) | (with_reducible refine Kd.C_alloc ?_ _) | (with_reducible refine Kd.C_drewN ?_ _) | (with_reducible refine Kd.C_drew ?_))); (case side2 => exact HC0.out); rintro e w41 ⟨rfl, hb⟩; refine ⟨_, rfl, ?_⟩; have n0_ := qH (below_step (by repeat (first | (with_reducible first | exact HB.out | apply qL | apply qJ | apply qK) | exact HB.out)) hb); clear HB; have HB := n0_; clear n0_; (try clear hb); (try clear hb2); (try clear hk); (try clear hi)))
         go_ret
         exact ⟨by first | rfl | (simp [errW_none, errW_some] <;> rfl) | (simp [*, errW_none, errW_some] <;> rfl), by repeat (first | (with_reducible first | exact HB.out | apply qL | apply qJ | apply qK) | exact HB.out)⟩

end Go.Proofs.Ytddjhmelniphgaa.Print
