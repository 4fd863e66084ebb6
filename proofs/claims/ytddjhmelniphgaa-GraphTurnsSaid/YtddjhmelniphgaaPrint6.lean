-- Written by wip/tools/xprint.py of this session's repo (the kit's print, run with external functions). Lean checks it.
import Derived.Test.YtddjhmelniphgaaHLb
import Derived.Test.YtddjhmelniphgaaPrint0
import Derived.Test.YtddjhmelniphgaaPrint5
namespace Go.Proofs.Ytddjhmelniphgaa.Print
open Go.RowKit Go.Proofs.YtddjhmelniphgaaW.PrintWords Go.Proofs.YtddjhmelniphgaaW.PrintLast Go.Proofs.YtddjhmelniphgaaW.PrintMore
attribute [local go_sem] max2_int min2_int max_two min_two max_three min_three max_four min_four   -- for this text's walks alone
set_option linter.unusedVariables false
set_option linter.unusedSimpArgs false

/-! ### codicilref19_circles: function 36 -/
mutual
def codicilref19_circles.l0 : Nat → List (S40) → List Bool → Bool → Option (Bool)
 | 0, _, _, _ => none
 | k + 1, x0, x3, x4 => if x4 = true then (codicilref19_circles.l1 k x0 x3 false 0) else (codicilref19_circles.l3 k x0 x3 0)
def codicilref19_circles.l1 : Nat → List (S40) → List Bool → Bool → Int → Option (Bool)
 | 0, _, _, _, _ => none
 | k + 1, x0, x3, x4, x5 => if x5 < (x0.length : Int) then (if 0 ≤ x5 then (if x5 < (x3.length : Int) then (codicilref19_circles.l2 k x0 x3 x4 x5 (!(rdOf false x3 x5)) 0) else (none)) else (none)) else (codicilref19_circles.l0 k x0 x3 x4)
def codicilref19_circles.l2 : Nat → List (S40) → List Bool → Bool → Int → Bool → Int → Option (Bool)
 | 0, _, _, _, _, _, _ => none
 | k + 1, x0, x3, x4, x5, x6, x7 => if 0 ≤ x5 then (if x5 < (x0.length : Int) then (if x7 < (((rd_T40 x0 x5).f1).length : Int) then (if x6 = true then (if 0 ≤ x7 then ((codicilref19_at.f k x0 ((rd_T24 ((rd_T40 x0 x5).f1) x7).f0) ((rd_T24 ((rd_T40 x0 x5).f1) x7).f1)).bind fun t221 => (if 0 ≤ t221 then (if t221 < (x3.length : Int) then (codicilref19_circles.l2 k x0 x3 x4 x5 (rdOf false x3 t221) (wrap64 (x7 + 1))) else (none)) else (none))) else (none)) else (codicilref19_circles.l1 k x0 x3 x4 (wrap64 (x5 + 1)))) else (if x6 = true then (if x5 < (x3.length : Int) then (codicilref19_circles.l1 k x0 (x3.set (x5 : Int).toNat true) true (wrap64 (x5 + 1))) else (none)) else (codicilref19_circles.l1 k x0 x3 x4 (wrap64 (x5 + 1))))) else (none)) else (none)
def codicilref19_circles.l3 : Nat → List (S40) → List Bool → Int → Option (Bool)
 | 0, _, _, _ => none
 | k + 1, x0, x3, x8 => if x8 < (x0.length : Int) then (if 0 ≤ x8 then (if x8 < (x3.length : Int) then (if rdOf false x3 x8 = true then (codicilref19_circles.l3 k x0 x3 (wrap64 (x8 + 1))) else (some true)) else (none)) else (none)) else (some false)
end
def codicilref19_circles.f (k : Nat) (l0 : List (S40)) : Option (Bool) := if 0 ≤ (l0.length : Int) then (if ((l0.length : Int) : Int).toNat ≤ 281474976710656 then (codicilref19_circles.l0 k l0 (List.replicate ((l0.length : Int) : Int).toNat false) true) else (none)) else (none)
theorem codicilref19_circles.mono_l : ∀ k, (∀ y0 y1 y2, LeO (codicilref19_circles.l0 k y0 y1 y2) (codicilref19_circles.l0 (k + 1) y0 y1 y2)) ∧ (∀ y0 y1 y2 y3, LeO (codicilref19_circles.l1 k y0 y1 y2 y3) (codicilref19_circles.l1 (k + 1) y0 y1 y2 y3)) ∧ (∀ y0 y1 y2 y3 y4 y5, LeO (codicilref19_circles.l2 k y0 y1 y2 y3 y4 y5) (codicilref19_circles.l2 (k + 1) y0 y1 y2 y3 y4 y5)) ∧ (∀ y0 y1 y2, LeO (codicilref19_circles.l3 k y0 y1 y2) (codicilref19_circles.l3 (k + 1) y0 y1 y2))
 | 0 => ⟨fun _ _ _ r h => by simp [codicilref19_circles.l0] at h, fun _ _ _ _ r h => by simp [codicilref19_circles.l1] at h, fun _ _ _ _ _ _ r h => by simp [codicilref19_circles.l2] at h, fun _ _ _ r h => by simp [codicilref19_circles.l3] at h⟩
 | k + 1 => by
  obtain ⟨ih0, ih1, ih2, ih3⟩ := codicilref19_circles.mono_l k
  refine ⟨?_, ?_, ?_, ?_⟩
  ·intro y0 y1 y2
   unfold codicilref19_circles.l0
   repeat' first
   | (with_reducible exact ih0 _ _ _)
   | (with_reducible exact ih1 _ _ _ _)
   | (with_reducible exact ih2 _ _ _ _ _ _)
   | (with_reducible exact ih3 _ _ _)
   | (with_reducible exact codicilref19_at.mono _ _ _ _)
   | (with_reducible exact LeO.refl _)
   | (with_reducible exact LeO.none _)
   | (with_reducible refine LeO.ite ?_ ?_)
   | (with_reducible refine LeO.bind ?_ (fun _ => ?_))
   | exact ih0 _ _ _
   | exact ih1 _ _ _ _
   | exact ih2 _ _ _ _ _ _
   | exact ih3 _ _ _
   | exact codicilref19_at.mono _ _ _ _
   | exact LeO.none _
   | refine LeO.ite ?_ ?_
   | refine LeO.bind ?_ (fun _ => ?_)
  ·intro y0 y1 y2 y3
   unfold codicilref19_circles.l1
   repeat' first
   | (with_reducible exact ih0 _ _ _)
   | (with_reducible exact ih1 _ _ _ _)
   | (with_reducible exact ih2 _ _ _ _ _ _)
   | (with_reducible exact ih3 _ _ _)
   | (with_reducible exact codicilref19_at.mono _ _ _ _)
   | (with_reducible exact LeO.refl _)
   | (with_reducible exact LeO.none _)
   | (with_reducible refine LeO.ite ?_ ?_)
   | (with_reducible refine LeO.bind ?_ (fun _ => ?_))
   | exact ih0 _ _ _
   | exact ih1 _ _ _ _
   | exact ih2 _ _ _ _ _ _
   | exact ih3 _ _ _
   | exact codicilref19_at.mono _ _ _ _
   | exact LeO.none _
   | refine LeO.ite ?_ ?_
   | refine LeO.bind ?_ (fun _ => ?_)
  ·intro y0 y1 y2 y3 y4 y5
   unfold codicilref19_circles.l2
   repeat' first
   | (with_reducible exact ih0 _ _ _)
   | (with_reducible exact ih1 _ _ _ _)
   | (with_reducible exact ih2 _ _ _ _ _ _)
   | (with_reducible exact ih3 _ _ _)
   | (with_reducible exact codicilref19_at.mono _ _ _ _)
   | (with_reducible exact LeO.refl _)
   | (with_reducible exact LeO.none _)
   | (with_reducible refine LeO.ite ?_ ?_)
   | (with_reducible refine LeO.bind ?_ (fun _ => ?_))
   | exact ih0 _ _ _
   | exact ih1 _ _ _ _
   | exact ih2 _ _ _ _ _ _
   | exact ih3 _ _ _
   | exact codicilref19_at.mono _ _ _ _
   | exact LeO.none _
   | refine LeO.ite ?_ ?_
   | refine LeO.bind ?_ (fun _ => ?_)
  ·intro y0 y1 y2
   unfold codicilref19_circles.l3
   repeat' first
   | (with_reducible exact ih0 _ _ _)
   | (with_reducible exact ih1 _ _ _ _)
   | (with_reducible exact ih2 _ _ _ _ _ _)
   | (with_reducible exact ih3 _ _ _)
   | (with_reducible exact codicilref19_at.mono _ _ _ _)
   | (with_reducible exact LeO.refl _)
   | (with_reducible exact LeO.none _)
   | (with_reducible refine LeO.ite ?_ ?_)
   | (with_reducible refine LeO.bind ?_ (fun _ => ?_))
   | exact ih0 _ _ _
   | exact ih1 _ _ _ _
   | exact ih2 _ _ _ _ _ _
   | exact ih3 _ _ _
   | exact codicilref19_at.mono _ _ _ _
   | exact LeO.none _
   | refine LeO.ite ?_ ?_
   | refine LeO.bind ?_ (fun _ => ?_)
theorem codicilref19_circles.mono : ∀ a0 k, LeO (codicilref19_circles.f k a0) (codicilref19_circles.f (k + 1) a0) := by
 intro a0 k
 obtain ⟨ih0, ih1, ih2, ih3⟩ := codicilref19_circles.mono_l k
 unfold codicilref19_circles.f
 repeat' first
   | (with_reducible exact ih0 _ _ _)
   | (with_reducible exact ih1 _ _ _ _)
   | (with_reducible exact ih2 _ _ _ _ _ _)
   | (with_reducible exact ih3 _ _ _)
   | (with_reducible exact codicilref19_at.mono _ _ _ _)
   | (with_reducible exact LeO.refl _)
   | (with_reducible exact LeO.none _)
   | (with_reducible refine LeO.ite ?_ ?_)
   | (with_reducible refine LeO.bind ?_ (fun _ => ?_))
   | exact ih0 _ _ _
   | exact ih1 _ _ _ _
   | exact ih2 _ _ _ _ _ _
   | exact ih3 _ _ _
   | exact codicilref19_at.mono _ _ _ _
   | exact LeO.none _
   | refine LeO.ite ?_ ?_
   | refine LeO.bind ?_ (fun _ => ?_)
set_option maxHeartbeats 8000000 in
set_option maxRecDepth 100000 in
theorem codicilref19_circles.calls (k : Nat) (A0 : Option Addr) (c0 : Nat) (l0 : List (S40)) (r : Bool) (w : World) (hr0 : Kd.C k40 w A0 l0.length l0) (hc0 : l0.length ≤ c0) (h : codicilref19_circles.f k l0 = some r) :
  Calls Try.prog 36 #[.slice A0 l0.length c0] w fun e w' => e = .returned (.bool r) ∧ Below w.heap.size w w' := by
 have hu24 := Try.underlying24
 have HR0 := qH hr0
 have HC0 := qH hc0
 clear hr0 hc0
 have HB := qH (Below.refl w.heap.size w)
 have H : (if 0 ≤ (l0.length : Int) then (if ((l0.length : Int) : Int).toNat ≤ 281474976710656 then (codicilref19_circles.l0 k l0 (List.replicate ((l0.length : Int) : Int).toNat false) true) else (none)) else (none)) = some r := h
 clear h
 by_cases c2 : 0 ≤ (l0.length : Int)
 ·rw [if_pos c2] at H
  have c2b0 := eq_true c2
  have c2b1 : decide (0 ≤ (l0.length : Int)) = true := decide_eq_true c2
  clear c2
  by_cases c3 : ((l0.length : Int) : Int).toNat ≤ 281474976710656
  ·rw [if_pos c3] at H
   have c3b0 := eq_true c3
   have c3b1 : decide (((l0.length : Int) : Int).toNat ≤ 281474976710656) = true := decide_eq_true c3
   clear c3
   obtain ⟨y214, hy214⟩ : ∃ y_ : List Bool, y_ = (List.replicate ((l0.length : Int) : Int).toNat false) := ⟨_, rfl⟩
   replace H : (codicilref19_circles.l0 k l0 y214 true) = some r := by first | (rw [hy214]; with_reducible exact H) | (have H2_ := (Option.bind_some _ _).symm.trans H; rw [hy214]; with_reducible exact H2_) | (have H2_ := (Option.bind_some _ _).symm.trans H; with_reducible exact H2_) | with_reducible exact H | (rw [hy214]; exact H) | exact H
   have Ny214 := qH hy214
   clear hy214
   have H' := qH H
   clear H
   go_enter Try.func36, Try.ntmps36
   go_wp2_with (first | ((with_reducible refine gate_dst (N := 11) rfl ?_); refine Kd.R_make Kd.bool _ 4 rfl (N := 11) rfl 79 _ _ rfl (l0.length : Int) rfl rfl Try.underlying79 (.bool false) 1 info4 rfl (by decide) (by omega) false (ok := fun _ => True) (okp := fun _ => True) rfl (fun _ hk => hk) trivial (of_decide_eq_true (by first | (with_reducible assumption) | assumption)) (Nat.le_trans (Nat.mul_le_mul_right _ (of_decide_eq_true (by first | (with_reducible assumption) | assumption) : (l0.length : Int).toNat ≤ 281474976710656)) (by omega)) (Below.refl _ _) (Nat.le_refl _) ?_; intro v215 w4 ho5 hb hg_ hnew_; clear hg_ hnew_; (first | rw [← Ny214.out] at ho5 | (simp only [Int.reduceToNat] at ho5; rw [← Ny214.out] at ho5)); have n0_ := qH (Kd.R_lower ho5 (below_size (by repeat (first | (with_reducible first | exact HB.out | apply qL | apply qJ | apply qK) | exact HB.out)))); have n1_ := qH (below_step (by repeat (first | (with_reducible first | exact HB.out | apply qL | apply qJ | apply qK) | exact HB.out)) hb); clear HB; have HO216 := n0_; have HB := n1_; clear n0_ n1_; clear hb ho5))
   go_loopg [4] k (fun kq v4 w' => ∃ (x3_1 : List Bool) (x4_1 : Bool), v4 = .bool x4_1 ∧ Aside0 (codicilref19_circles.l0 kq l0 x3_1 x4_1 = some r) ∧ Aside0 (kq ≤ k) ∧ Aside0 (Kd.R Kd.bool 4 w' w.heap.size (fun _ => True) v215 x3_1) ∧ Aside0 (Below w.heap.size w w'))
   case atStart => exact ⟨(y214), (true), (by first | rfl | (simp; done) | (simp; exact qEmp _) | (simp [*]; done)), H', ⟨Nat.le_refl _⟩, ⟨by (with_reducible repeat first | apply zRa | apply zRb | apply zRc); exact HO216.out⟩, ⟨by repeat (first | (with_reducible first | exact HB.out | apply qL | apply qJ | apply qK) | exact HB.out)⟩⟩
   case round =>
    clear H'
    try clear c2
    try clear c2b0
    try clear c2b1
    try clear p2
    try clear c3
    try clear c3b0
    try clear c3b1
    obtain ⟨x3_1, x4_1, rfl, HA, HK1, HO_3, HB⟩ := hrel
    cases gk with
    | zero => exact absurd HA.out (by simp [codicilref19_circles.l0])
    | succ k1 =>
     have H := HA.out
     clear HA
     simp only [codicilref19_circles.l0] at H
     by_cases c6 : x4_1 = true
     ·subst c6
      have H1 : (codicilref19_circles.l1 k1 l0 x3_1 false 0) = some r := by rw [if_pos rfl] at H; exact H
      clear H
      have H := H1
      clear H1
      have H' := qH H
      clear H
      go_wp2
      go_loopg [4, 5] k1 (fun kq v4 v5 w' => ∃ (x3_2 : List Bool) (x4_2 : Bool) (x5_2 : Int), v4 = .bool x4_2 ∧ v5 = .int .i64 x5_2 ∧ Aside0 (codicilref19_circles.l1 kq l0 x3_2 x4_2 x5_2 = some r) ∧ Aside0 (kq ≤ k1) ∧ Aside0 (Kd.R Kd.bool 4 w' w.heap.size (fun _ => True) v215 x3_2) ∧ Aside0 (Below w.heap.size w w'))
      case atStart => exact ⟨(x3_1), (false), (0), (by first | rfl | (simp; done) | (simp; exact qEmp _) | (simp [*]; done)), (by first | rfl | (simp; done) | (simp; exact qEmp _) | (simp [*]; done)), H', ⟨Nat.le_refl _⟩, ⟨by (with_reducible repeat first | apply zRa | apply zRb | apply zRc); exact HO_3.out⟩, ⟨by repeat (first | (with_reducible first | exact HB.out | apply qL | apply qJ | apply qK) | exact HB.out)⟩⟩
      case round =>
       clear H'
       try clear c2
       try clear c2b0
       try clear c2b1
       try clear p2
       try clear c3
       try clear c3b0
       try clear c3b1
       try clear c6
       try clear p2
       obtain ⟨x3_2, x4_2, x5_2, rfl, rfl, HA, HK2, HO_3, HB⟩ := hrel
       cases gk with
       | zero => exact absurd HA.out (by simp [codicilref19_circles.l1])
       | succ k2 =>
        have H := HA.out
        clear HA
        simp only [codicilref19_circles.l1] at H
        by_cases c7 : x5_2 < (l0.length : Int)
        ·rw [if_pos c7] at H
         have c7b0 : decide (x5_2 < (l0.length : Int)) = true := decide_eq_true c7
         clear c7
         by_cases c8 : 0 ≤ x5_2
         ·rw [if_pos c8] at H
          have c8b0 : decide (0 ≤ x5_2) = true := decide_eq_true c8
          clear c8
          by_cases c9 : x5_2 < (x3_2.length : Int)
          ·rw [if_pos c9] at H
           have c9b0 : decide (x5_2 < (x3_2.length : Int)) = true := decide_eq_true c9
           clear c9
           have H' := qH H
           clear H
           obtain ⟨Ao10, co10, eo10⟩ := Kd.R_slice HO_3.out
           subst eo10
           have p217 : 0 ≤ (x5_2 : Int) := of_decide_eq_true (by first | (with_reducible assumption) | assumption)
           have q217 : x5_2 < (x3_2.length : Int) := of_decide_eq_true (by first | (with_reducible assumption) | assumption)
           obtain ⟨ad217, e217, hx217_0⟩ := Kd.at_bool (Kd.R_reads' HO_3.out).2.2 x5_2 p217 q217
           cases e217
           replace p217 := eq_true p217
           replace q217 := eq_true q217
           go_wp2
           go_loopg [6, 7] k2 (fun kq v6 v7 w' => ∃ (x6_3 : Bool) (x7_3 : Int), v6 = .bool x6_3 ∧ v7 = .int .i64 x7_3 ∧ Aside0 (codicilref19_circles.l2 kq l0 x3_2 x4_2 x5_2 x6_3 x7_3 = some r) ∧ Aside0 (kq ≤ k2) ∧ Aside0 (Kd.R Kd.bool 4 w' w.heap.size (fun _ => True) (.slice (some ad217) x3_2.length co10) x3_2) ∧ Aside0 (Below w.heap.size w w'))
           case atStart => exact ⟨(!(rdOf false x3_2 x5_2)), (0), (by first | rfl | (simp; done) | (simp; exact qEmp _) | (simp [*]; done)), (by first | rfl | (simp; done) | (simp; exact qEmp _) | (simp [*]; done)), H', ⟨Nat.le_refl _⟩, ⟨by (with_reducible repeat first | apply zRa | apply zRb | apply zRc); exact HO_3.out⟩, ⟨by repeat (first | (with_reducible first | exact HB.out | apply qL | apply qJ | apply qK) | exact HB.out)⟩⟩
           case round =>
            clear H'
            try clear c2
            try clear c2b0
            try clear c2b1
            try clear p2
            try clear q2
            try clear hx2
            try clear c3
            try clear c3b0
            try clear c3b1
            try clear c6
            try clear c7
            try clear c7b0
            try clear c8
            try clear c8b0
            try clear c9
            try clear c9b0
            try clear hx217_0
            try clear p2
            try clear p217
            try clear q217
            obtain ⟨x6_3, x7_3, rfl, rfl, HA, HK3, HO_3, HB⟩ := hrel
            cases gk with
            | zero => exact absurd HA.out (by simp [codicilref19_circles.l2])
            | succ k3 =>
             have H := HA.out
             clear HA
             simp only [codicilref19_circles.l2] at H
             by_cases c11 : 0 ≤ x5_2
             ·rw [if_pos c11] at H
              have c11b0 : decide (0 ≤ x5_2) = true := decide_eq_true c11
              clear c11
              by_cases c12 : x5_2 < (l0.length : Int)
              ·rw [if_pos c12] at H
               have c12b0 : decide (x5_2 < (l0.length : Int)) = true := decide_eq_true c12
               clear c12
               by_cases c13 : x7_3 < (((rd_T40 l0 x5_2).f1).length : Int)
               ·rw [if_pos c13] at H
                have c13b0 : decide (x7_3 < (((rd_T40 l0 x5_2).f1).length : Int)) = true := decide_eq_true c13
                clear c13
                by_cases c14 : x6_3 = true
                ·subst c14
                 have H1 : (if 0 ≤ x7_3 then ((codicilref19_at.f k3 l0 ((rd_T24 ((rd_T40 l0 x5_2).f1) x7_3).f0) ((rd_T24 ((rd_T40 l0 x5_2).f1) x7_3).f1)).bind fun t221 => (if 0 ≤ t221 then (if t221 < (x3_2.length : Int) then (codicilref19_circles.l2 k3 l0 x3_2 x4_2 x5_2 (rdOf false x3_2 t221) (wrap64 (x7_3 + 1))) else (none)) else (none))) else (none)) = some r := by rw [if_pos rfl] at H; exact H
                 clear H
                 have H := H1
                 clear H1
                 by_cases c15 : 0 ≤ x7_3
                 ·rw [if_pos c15] at H
                  have c15b0 : decide (0 ≤ x7_3) = true := decide_eq_true c15
                  clear c15
                  replace H := Option.bind_eq_some_iff.mp H
                  obtain ⟨t221, A160, H⟩ := H
                  (try dsimp only at H)
                  have A16 := qH A160
                  clear A160
                  by_cases c17 : 0 ≤ t221
                  ·rw [if_pos c17] at H
                   have c17b0 : decide (0 ≤ t221) = true := decide_eq_true c17
                   clear c17
                   by_cases c18 : t221 < (x3_2.length : Int)
                   ·rw [if_pos c18] at H
                    have c18b0 : decide (t221 < (x3_2.length : Int)) = true := decide_eq_true c18
                    clear c18
                    have H' := qH H
                    clear H
                    have p218 : 0 ≤ (x5_2 : Int) := of_decide_eq_true (by first | (with_reducible assumption) | assumption)
                    have q218 : x5_2 < (l0.length : Int) := of_decide_eq_true (by first | (with_reducible assumption) | assumption)
                    obtain ⟨ad218, A218_2, c218_2, e218, hx218_0, hx218_1, hx218_2, hl218_2, hi218_2⟩ := at_T40 HR0.out x5_2 p218 q218
                    cases e218
                    replace hx218_0 := (HB.out.cell (qO w _ hx218_0)).trans hx218_0
                    replace hx218_1 := (HB.out.cell (qO w _ hx218_1)).trans hx218_1
                    replace hx218_2 := (HB.out.cell (qO w _ hx218_2)).trans hx218_2
                    have HR218_2 := qH hi218_2
                    have HC218_2 := qH hl218_2
                    clear hi218_2 hl218_2
                    replace p218 := eq_true p218
                    replace q218 := eq_true q218
                    have p219 : 0 ≤ (x5_2 : Int) := of_decide_eq_true (by first | (with_reducible assumption) | assumption)
                    have q219 : x5_2 < (l0.length : Int) := of_decide_eq_true (by first | (with_reducible assumption) | assumption)
                    obtain ⟨ad219, A219_2, c219_2, e219, hx219_0, hx219_1, hx219_2, hl219_2, hi219_2⟩ := at_T40 HR0.out x5_2 p219 q219
                    obtain rfl : ad218 = ad219 := (by injection e219)
                    replace hx219_0 := (HB.out.cell (qO w _ hx219_0)).trans hx219_0
                    replace hx219_1 := (HB.out.cell (qO w _ hx219_1)).trans hx219_1
                    replace hx219_2 := (HB.out.cell (qO w _ hx219_2)).trans hx219_2
                    have HR219_2 := qH hi219_2
                    have HC219_2 := qH hl219_2
                    clear hi219_2 hl219_2
                    replace p219 := eq_true p219
                    replace q219 := eq_true q219
                    have ea_ := Option.some.inj (hx218_2.symm.trans hx219_2)
                    injection ea_ with ea_ en_ ec_
                    subst ea_
                    subst ec_
                    clear en_
                    have p220 : 0 ≤ (x7_3 : Int) := of_decide_eq_true (by first | (with_reducible assumption) | assumption)
                    have q220 : x7_3 < (((rd_T40 l0 x5_2).f1).length : Int) := of_decide_eq_true (by first | (with_reducible assumption) | assumption)
                    obtain ⟨ad220, e220, hx220_0, hx220_1⟩ := at_T24 HR219_2.out x7_3 p220 q220
                    cases e220
                    replace hx220_0 := (HB.out.cell (qO w _ hx220_0)).trans hx220_0
                    replace hx220_1 := (HB.out.cell (qO w _ hx220_1)).trans hx220_1
                    replace p220 := eq_true p220
                    replace q220 := eq_true q220
                    go_wp2_with (first | ((with_reducible refine gate_callee (f := 28) rfl ?_); refine goesL_ (some 47) rfl rfl Try.func28 (by kernel_rfl) rfl #[.slice (some ad218) l0.length c0, .agg #[.string ((rd_T24 ((rd_T40 l0 x5_2).f1) x7_3).f0), .int .i64 ((rd_T24 ((rd_T40 l0 x5_2).f1) x7_3).f1)]] rfl (by (try simp only [zX, zY, zZ]); first | done | rfl | (simp only [zD, zE]; rfl)) ?_; (with_reducible refine (codicilref19_at.calls k3 _ _ l0 ((rd_T24 ((rd_T40 l0 x5_2).f1) x7_3).f0) ((rd_T24 ((rd_T40 l0 x5_2).f1) x7_3).f1) t221 _ ?side1 ?side2 A16.out).mono ?_); (case side1 => repeat (first | exact (Kd.C_below HR0.out HB.out) | (with_reducible refine Kd.C_alloc ?_ _) | (with_reducible refine Kd.C_drewN ?_ _) | (with_reducible refine Kd.C_drew ?_))); (case side2 => exact HC0.out); rintro e w19 ⟨rfl, hb⟩; refine ⟨_, rfl, ?_⟩; have n0_ := qH (Kd.R_below (by (with_reducible repeat first | apply zRa | apply zRb | apply zRc); exact HO_3.out) hb); have n1_ := qH (below_step (by repeat (first | (with_reducible first | exact HB.out | apply qL | apply qJ | apply qK) | exact HB.out)) hb); clear HO_3; clear HB; have HO_3 := n0_; have HB := n1_; clear n0_ n1_; (try clear hb); (try clear hb2); (try clear hk); (try clear hi); have p222 : 0 ≤ (t221 : Int) := of_decide_eq_true (by first | (with_reducible assumption) | assumption); have q222 : t221 < (x3_2.length : Int) := of_decide_eq_true (by first | (with_reducible assumption) | assumption); obtain ⟨ad222, e222, hx222_0⟩ := Kd.at_bool (Kd.R_reads' HO_3.out).2.2 t221 p222 q222; obtain rfl : ad217 = ad222 := (by injection e222); replace p222 := eq_true p222; replace q222 := eq_true q222))
                    go_roundg k3
                    case measure => have := HK1.out; have := HK2.out; have := HK3.out; omega
                    case rel => exact ⟨(rdOf false x3_2 t221), (wrap64 (x7_3 + 1)), (by first | rfl | (simp; done) | (simp; exact qEmp _) | (simp [*]; done)), (by first | rfl | (simp; done) | (simp; exact qEmp _) | (simp [*]; done)), H', ⟨by have := HK1.out; have := HK2.out; have := HK3.out; omega⟩, ⟨by (with_reducible repeat first | apply zRa | apply zRb | apply zRc); exact HO_3.out⟩, ⟨by repeat (first | (with_reducible first | exact HB.out | apply qL | apply qJ | apply qK) | exact HB.out)⟩⟩
                   ·rw [if_neg c18] at H
                    exact absurd H (by simp)
                  ·rw [if_neg c17] at H
                   exact absurd H (by simp)
                 ·rw [if_neg c15] at H
                  exact absurd H (by simp)
                ·replace c14 := Bool.eq_false_iff.mpr c14
                 subst c14
                 have H1 : (codicilref19_circles.l1 k3 l0 x3_2 x4_2 (wrap64 (x5_2 + 1))) = some r := by rw [if_neg (show ¬ (false = true) by decide)] at H; exact H
                 clear H
                 have H := H1
                 clear H1
                 have H' := qH H
                 clear H
                 have p218 : 0 ≤ (x5_2 : Int) := of_decide_eq_true (by first | (with_reducible assumption) | assumption)
                 have q218 : x5_2 < (l0.length : Int) := of_decide_eq_true (by first | (with_reducible assumption) | assumption)
                 obtain ⟨ad218, A218_2, c218_2, e218, hx218_0, hx218_1, hx218_2, hl218_2, hi218_2⟩ := at_T40 HR0.out x5_2 p218 q218
                 cases e218
                 replace hx218_0 := (HB.out.cell (qO w _ hx218_0)).trans hx218_0
                 replace hx218_1 := (HB.out.cell (qO w _ hx218_1)).trans hx218_1
                 replace hx218_2 := (HB.out.cell (qO w _ hx218_2)).trans hx218_2
                 have HR218_2 := qH hi218_2
                 have HC218_2 := qH hl218_2
                 clear hi218_2 hl218_2
                 replace p218 := eq_true p218
                 replace q218 := eq_true q218
                 go_wp2
                 go_roundg k3
                 case measure => have := HK1.out; have := HK2.out; have := HK3.out; omega
                 case rel => exact ⟨(x3_2), (x4_2), (wrap64 (x5_2 + 1)), (by first | rfl | (simp; done) | (simp; exact qEmp _) | (simp [*]; done)), (by first | rfl | (simp; done) | (simp; exact qEmp _) | (simp [*]; done)), H', ⟨by have := HK1.out; have := HK2.out; have := HK3.out; omega⟩, ⟨by (with_reducible repeat first | apply zRa | apply zRb | apply zRc); exact HO_3.out⟩, ⟨by repeat (first | (with_reducible first | exact HB.out | apply qL | apply qJ | apply qK) | exact HB.out)⟩⟩
               ·rw [if_neg c13] at H
                have c13b0 : decide (x7_3 < (((rd_T40 l0 x5_2).f1).length : Int)) = false := decide_eq_false c13
                clear c13
                by_cases c20 : x6_3 = true
                ·subst c20
                 have H1 : (if x5_2 < (x3_2.length : Int) then (codicilref19_circles.l1 k3 l0 (x3_2.set (x5_2 : Int).toNat true) true (wrap64 (x5_2 + 1))) else (none)) = some r := by rw [if_pos rfl] at H; exact H
                 clear H
                 have H := H1
                 clear H1
                 by_cases c21 : x5_2 < (x3_2.length : Int)
                 ·rw [if_pos c21] at H
                  have c21b0 : decide (x5_2 < (x3_2.length : Int)) = true := decide_eq_true c21
                  clear c21
                  obtain ⟨y223, hy223⟩ : ∃ y_ : List Bool, y_ = (x3_2.set (x5_2 : Int).toNat true) := ⟨_, rfl⟩
                  replace H : (codicilref19_circles.l1 k3 l0 y223 true (wrap64 (x5_2 + 1))) = some r := by first | (rw [hy223]; with_reducible exact H) | (have H2_ := (Option.bind_some _ _).symm.trans H; rw [hy223]; with_reducible exact H2_) | (have H2_ := (Option.bind_some _ _).symm.trans H; with_reducible exact H2_) | with_reducible exact H | (rw [hy223]; exact H) | exact H
                  have Ny223 := qH hy223
                  clear hy223
                  have H' := qH H
                  clear H
                  have p218 : 0 ≤ (x5_2 : Int) := of_decide_eq_true (by first | (with_reducible assumption) | assumption)
                  have q218 : x5_2 < (l0.length : Int) := of_decide_eq_true (by first | (with_reducible assumption) | assumption)
                  obtain ⟨ad218, A218_2, c218_2, e218, hx218_0, hx218_1, hx218_2, hl218_2, hi218_2⟩ := at_T40 HR0.out x5_2 p218 q218
                  cases e218
                  replace hx218_0 := (HB.out.cell (qO w _ hx218_0)).trans hx218_0
                  replace hx218_1 := (HB.out.cell (qO w _ hx218_1)).trans hx218_1
                  replace hx218_2 := (HB.out.cell (qO w _ hx218_2)).trans hx218_2
                  have HR218_2 := qH hi218_2
                  have HC218_2 := qH hl218_2
                  clear hi218_2 hl218_2
                  replace p218 := eq_true p218
                  replace q218 := eq_true q218
                  have p22 : 0 ≤ (x5_2 : Int) := of_decide_eq_true (by first | (with_reducible assumption) | assumption)
                  have q22 : (x5_2 : Int) < ((x3_2.length : Int) : Int) := of_decide_eq_true (by first | (with_reducible assumption) | assumption)
                  obtain ⟨go22, co22, eo22, gb22, gl22, cl22, HG22⟩ := Kd.R_form HO_3.out (by omega)
                  (first | cases eo22 | (injection eo22 with ea_ en_ ec_; (first | subst ea_ | (injection ea_ with ea_; subst ea_)); subst ec_; clear en_))
                  have GB22 := qH gb22
                  have GG22 := qH HG22
                  clear gb22 gl22 HG22
                  (first | simp only [add_plain] at hx217_0 | skip)
                  (first | simp only [add_plain] at hx222_0 | skip)
                  obtain ⟨hx22_0, hf22_0⟩ := Kd.R_celln false HO_3.out (x5_2 : Int) p22 q22
                  replace p22 := eq_true p22
                  replace q22 := eq_true q22
                  have HP23 := Kd.R_putg HO_3.out (x5_2 : Int) true
                  go_wp2_with (first | ((with_reducible refine gate_store (t := 4) (p := 53) rfl ?_); refine store_event (t := 4) (p := 53) (v := ?vo_w24) (w1 := (wr.setCell ⟨go22, (x5_2 : Int).toNat, none⟩ (.bool true))) ?hg ?ho ?hn ?hr ?_; (case ho => rfl); (case hg => rfl); (case hn => rfl); (case hr => first | (go_simp; done) | (go_simp; rfl) | (go_simp; simp [IntKind.wrap_u32]; done)); intro w24 hw; have hg : wr.grownBy w24 (some go22) := (by rw [hw]; exact HP23.2); have hp_ : Kd.R Kd.bool 4 w24 w.heap.size (fun _ => True) (.slice (some ⟨go22, 0, none⟩) x3_2.length co10) y223 := (by rw [hw, Ny223.out]; exact HP23.1); clear HP23; have n0_ := qH (hp_); have n1_ := qH ((by rw [hw]; exact qI (HB.out) GB22.out : Below w.heap.size w w24)); clear HO_3; clear HB; have HO_3 := n0_; have HB := n1_; clear n0_ n1_; clear hg hw hp_))
                  go_roundg k3
                  case measure => have := HK1.out; have := HK2.out; have := HK3.out; omega
                  case rel => exact ⟨(y223), (true), (wrap64 (x5_2 + 1)), (by first | rfl | (simp; done) | (simp; exact qEmp _) | (simp [*]; done)), (by first | rfl | (simp; done) | (simp; exact qEmp _) | (simp [*]; done)), H', ⟨by have := HK1.out; have := HK2.out; have := HK3.out; omega⟩, ⟨by (with_reducible repeat first | apply zRa | apply zRb | apply zRc); exact HO_3.out⟩, ⟨by repeat (first | (with_reducible first | exact HB.out | apply qL | apply qJ | apply qK) | exact HB.out)⟩⟩
                 ·rw [if_neg c21] at H
                  exact absurd H (by simp)
                ·replace c20 := Bool.eq_false_iff.mpr c20
                 subst c20
                 have H1 : (codicilref19_circles.l1 k3 l0 x3_2 x4_2 (wrap64 (x5_2 + 1))) = some r := by rw [if_neg (show ¬ (false = true) by decide)] at H; exact H
                 clear H
                 have H := H1
                 clear H1
                 have H' := qH H
                 clear H
                 have p218 : 0 ≤ (x5_2 : Int) := of_decide_eq_true (by first | (with_reducible assumption) | assumption)
                 have q218 : x5_2 < (l0.length : Int) := of_decide_eq_true (by first | (with_reducible assumption) | assumption)
                 obtain ⟨ad218, A218_2, c218_2, e218, hx218_0, hx218_1, hx218_2, hl218_2, hi218_2⟩ := at_T40 HR0.out x5_2 p218 q218
                 cases e218
                 replace hx218_0 := (HB.out.cell (qO w _ hx218_0)).trans hx218_0
                 replace hx218_1 := (HB.out.cell (qO w _ hx218_1)).trans hx218_1
                 replace hx218_2 := (HB.out.cell (qO w _ hx218_2)).trans hx218_2
                 have HR218_2 := qH hi218_2
                 have HC218_2 := qH hl218_2
                 clear hi218_2 hl218_2
                 replace p218 := eq_true p218
                 replace q218 := eq_true q218
                 go_wp2
                 go_roundg k3
                 case measure => have := HK1.out; have := HK2.out; have := HK3.out; omega
                 case rel => exact ⟨(x3_2), (x4_2), (wrap64 (x5_2 + 1)), (by first | rfl | (simp; done) | (simp; exact qEmp _) | (simp [*]; done)), (by first | rfl | (simp; done) | (simp; exact qEmp _) | (simp [*]; done)), H', ⟨by have := HK1.out; have := HK2.out; have := HK3.out; omega⟩, ⟨by (with_reducible repeat first | apply zRa | apply zRb | apply zRc); exact HO_3.out⟩, ⟨by repeat (first | (with_reducible first | exact HB.out | apply qL | apply qJ | apply qK) | exact HB.out)⟩⟩
              ·rw [if_neg c12] at H
               exact absurd H (by simp)
             ·rw [if_neg c11] at H
              exact absurd H (by simp)
          ·rw [if_neg c9] at H
           exact absurd H (by simp)
         ·rw [if_neg c8] at H
          exact absurd H (by simp)
        ·rw [if_neg c7] at H
         have c7b0 : decide (x5_2 < (l0.length : Int)) = false := decide_eq_false c7
         clear c7
         have H' := qH H
         clear H
         go_wp2
         go_roundg k2
         case measure => have := HK1.out; have := HK2.out; omega
         case rel => exact ⟨(x3_2), (x4_2), (by first | rfl | (simp; done) | (simp; exact qEmp _) | (simp [*]; done)), H', ⟨by have := HK1.out; have := HK2.out; omega⟩, ⟨by (with_reducible repeat first | apply zRa | apply zRb | apply zRc); exact HO_3.out⟩, ⟨by repeat (first | (with_reducible first | exact HB.out | apply qL | apply qJ | apply qK) | exact HB.out)⟩⟩
     ·replace c6 := Bool.eq_false_iff.mpr c6
      subst c6
      have H1 : (codicilref19_circles.l3 k1 l0 x3_1 0) = some r := by rw [if_neg (show ¬ (false = true) by decide)] at H; exact H
      clear H
      have H := H1
      clear H1
      have H' := qH H
      clear H
      go_wp2
      go_loopg [8] k1 (fun kq v8 w' => ∃ (x8_2 : Int), v8 = .int .i64 x8_2 ∧ Aside0 (codicilref19_circles.l3 kq l0 x3_1 x8_2 = some r) ∧ Aside0 (kq ≤ k1) ∧ Aside0 (Kd.R Kd.bool 4 w' w.heap.size (fun _ => True) v215 x3_1) ∧ Aside0 (Below w.heap.size w w'))
      case atStart => exact ⟨(0), (by first | rfl | (simp; done) | (simp; exact qEmp _) | (simp [*]; done)), H', ⟨Nat.le_refl _⟩, ⟨by (with_reducible repeat first | apply zRa | apply zRb | apply zRc); exact HO_3.out⟩, ⟨by repeat (first | (with_reducible first | exact HB.out | apply qL | apply qJ | apply qK) | exact HB.out)⟩⟩
      case round =>
       clear H'
       try clear c1
       try clear c2
       try clear c2b0
       try clear c2b1
       try clear p2
       try clear q2
       try clear hx2
       try clear hf2
       try clear c3
       try clear c3b0
       try clear c3b1
       try clear c6
       try clear p6
       try clear c7
       try clear c7b0
       try clear c8
       try clear c8b0
       try clear c9
       try clear c9b0
       try clear c11
       try clear c11b0
       try clear c12
       try clear c12b0
       try clear c13
       try clear c13b0
       try clear c14
       try clear c15
       try clear c15b0
       try clear c17
       try clear c17b0
       try clear c18
       try clear c18b0
       try clear c20
       try clear c21
       try clear c21b0
       try clear p21
       try clear q21
       try clear hx21
       try clear p22
       try clear q22
       try clear hx22
       try clear hf22
       try clear hx217_0
       try clear hx218_0
       try clear hx218_1
       try clear hx218_2
       try clear hx219_0
       try clear hx219_1
       try clear hx219_2
       try clear hx220_0
       try clear hx220_1
       try clear hx222_0
       try clear hx22_0
       try clear p2
       try clear p217
       try clear p218
       try clear p219
       try clear p22
       try clear p220
       try clear p222
       try clear q2
       try clear q217
       try clear q218
       try clear q219
       try clear q22
       try clear q220
       try clear q222
       obtain ⟨x8_2, rfl, HA, HK2, HO_3, HB⟩ := hrel
       cases gk with
       | zero => exact absurd HA.out (by simp [codicilref19_circles.l3])
       | succ k2 =>
        have H := HA.out
        clear HA
        simp only [codicilref19_circles.l3] at H
        by_cases c25 : x8_2 < (l0.length : Int)
        ·rw [if_pos c25] at H
         have c25b0 : decide (x8_2 < (l0.length : Int)) = true := decide_eq_true c25
         clear c25
         by_cases c26 : 0 ≤ x8_2
         ·rw [if_pos c26] at H
          have c26b0 : decide (0 ≤ x8_2) = true := decide_eq_true c26
          clear c26
          by_cases c27 : x8_2 < (x3_1.length : Int)
          ·rw [if_pos c27] at H
           have c27b0 : decide (x8_2 < (x3_1.length : Int)) = true := decide_eq_true c27
           clear c27
           obtain ⟨bq28, hbq28⟩ : ∃ b_ : Bool, b_ = (rdOf false x3_1 x8_2) := ⟨_, rfl⟩
           replace H : (if bq28 = true then (codicilref19_circles.l3 k2 l0 x3_1 (wrap64 (x8_2 + 1))) else (some true)) = some r := by rw [← hbq28] at H; exact H
           have Nbq28 := qH hbq28
           clear hbq28
           by_cases c29 : bq28 = true
           ·subst c29
            have H1 : (codicilref19_circles.l3 k2 l0 x3_1 (wrap64 (x8_2 + 1))) = some r := by rw [if_pos rfl] at H; exact H
            clear H
            have H := H1
            clear H1
            have H' := qH H
            clear H
            obtain ⟨Ao30, co30, eo30⟩ := Kd.R_slice HO_3.out
            subst eo30
            have p224 : 0 ≤ (x8_2 : Int) := of_decide_eq_true (by first | (with_reducible assumption) | assumption)
            have q224 : x8_2 < (x3_1.length : Int) := of_decide_eq_true (by first | (with_reducible assumption) | assumption)
            obtain ⟨ad224, e224, hx224_0⟩ := Kd.at_bool (Kd.R_reads' HO_3.out).2.2 x8_2 p224 q224
            (try rw [← Nbq28.out] at hx224_0)
            cases e224
            replace p224 := eq_true p224
            replace q224 := eq_true q224
            go_wp2
            go_roundg k2
            case measure => have := HK1.out; have := HK2.out; omega
            case rel => exact ⟨(wrap64 (x8_2 + 1)), (by first | rfl | (simp; done) | (simp; exact qEmp _) | (simp [*]; done)), H', ⟨by have := HK1.out; have := HK2.out; omega⟩, ⟨by (with_reducible repeat first | apply zRa | apply zRb | apply zRc); exact HO_3.out⟩, ⟨by repeat (first | (with_reducible first | exact HB.out | apply qL | apply qJ | apply qK) | exact HB.out)⟩⟩
           ·replace c29 := Bool.eq_false_iff.mpr c29
            subst c29
            have H1 : (some true) = some r := by rw [if_neg (show ¬ (false = true) by decide)] at H; exact H
            clear H
            have H := H1
            clear H1
            obtain rfl := Option.some.inj H
            simp only [Option.some.injEq, Prod.mk.injEq] at H
            obtain ⟨rfl⟩ := H
            obtain ⟨Ao31, co31, eo31⟩ := Kd.R_slice HO_3.out
            subst eo31
            have p224 : 0 ≤ (x8_2 : Int) := of_decide_eq_true (by first | (with_reducible assumption) | assumption)
            have q224 : x8_2 < (x3_1.length : Int) := of_decide_eq_true (by first | (with_reducible assumption) | assumption)
            obtain ⟨ad224, e224, hx224_0⟩ := Kd.at_bool (Kd.R_reads' HO_3.out).2.2 x8_2 p224 q224
            (try rw [← Nbq28.out] at hx224_0)
            cases e224
            replace p224 := eq_true p224
            replace q224 := eq_true q224
            go_wp2
            go_ret
            exact ⟨by first | rfl | (simp [errW_none, errW_some] <;> rfl) | (simp [*, errW_none, errW_some] <;> rfl), by repeat (first | (with_reducible first | exact HB.out | apply qL | apply qJ | apply qK) | exact HB.out)⟩
          ·rw [if_neg c27] at H
           exact absurd H (by simp)
         ·rw [if_neg c26] at H
          exact absurd H (by simp)
        ·rw [if_neg c25] at H
         have c25b0 : decide (x8_2 < (l0.length : Int)) = false := decide_eq_false c25
         clear c25
         obtain rfl := Option.some.inj H
         simp only [Option.some.injEq, Prod.mk.injEq] at H
         obtain ⟨rfl⟩ := H
         go_wp2
         go_ret
         exact ⟨by first | rfl | (simp [errW_none, errW_some] <;> rfl) | (simp [*, errW_none, errW_some] <;> rfl), by repeat (first | (with_reducible first | exact HB.out | apply qL | apply qJ | apply qK) | exact HB.out)⟩
  ·rw [if_neg c3] at H
   exact absurd H (by simp)
 ·rw [if_neg c2] at H
  exact absurd H (by simp)

end Go.Proofs.Ytddjhmelniphgaa.Print
