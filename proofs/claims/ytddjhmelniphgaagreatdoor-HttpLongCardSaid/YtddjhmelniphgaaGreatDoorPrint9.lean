-- Written by wip/tools/xprint.py of this session's repo (the kit's print, run with external functions). Lean checks it.
import Derived.Test.YtddjhmelniphgaaGreatDoorHAm
import Derived.Test.YtddjhmelniphgaaGreatDoorPrint0
import Derived.Test.YtddjhmelniphgaaGreatDoorPrint4
import Derived.Test.YtddjhmelniphgaaGreatDoorPrint6
import Derived.Test.YtddjhmelniphgaaGreatDoorPrint8
import Derived.Test.YtddjhmelniphgaaGreatDoorHTItoa
namespace Go.Proofs.YtddjhmelniphgaaGreatDoor.Print
open Go.RowKit Go.Proofs.YtddjhmelniphgaaGreatDoorW.PrintWords Go.Proofs.YtddjhmelniphgaaGreatDoorW.PrintLast Go.Proofs.YtddjhmelniphgaaGreatDoorW.PrintMore
attribute [local go_sem] max2_int min2_int max_two min_two max_three min_three max_four min_four   -- for this text's walks alone
set_option linter.unusedVariables false
set_option linter.unusedSimpArgs false

/-! ### codicilref29_bytes: function 53 -/
mutual
def codicilref29_bytes.j0 : Nat → ByteArray → List (S59) → ByteArray → Bool → Option (ByteArray × Bool)
 | 0, _, _, _, _ => none
 | k + 1, x0, x1, x2, x17 => if x17 = true then (some ((⟨#[]⟩ : ByteArray), false)) else (if x0.size + 2 ≤ 9223372036854775807 then (codicilref29_bytes.l0 k x1 x2 (x0 ++ (⟨#[13, 10]⟩ : ByteArray)) 0) else (none))
def codicilref29_bytes.l0 : Nat → List (S59) → ByteArray → ByteArray → Int → Option (ByteArray × Bool)
 | 0, _, _, _, _ => none
 | k + 1, x1, x2, x8, x9 => if x9 < (x1.length : Int) then (if 0 ≤ x9 then (if x8.size + ((rd_T59 x1 x9).f0).size ≤ 9223372036854775807 then (if (x8 ++ ((rd_T59 x1 x9).f0)).size + 2 ≤ 9223372036854775807 then (if ((x8 ++ ((rd_T59 x1 x9).f0)) ++ (⟨#[58, 32]⟩ : ByteArray)).size + ((rd_T59 x1 x9).f1).size ≤ 9223372036854775807 then (if (((x8 ++ ((rd_T59 x1 x9).f0)) ++ (⟨#[58, 32]⟩ : ByteArray)) ++ ((rd_T59 x1 x9).f1)).size + 2 ≤ 9223372036854775807 then (codicilref29_bytes.l0 k x1 x2 ((((x8 ++ ((rd_T59 x1 x9).f0)) ++ (⟨#[58, 32]⟩ : ByteArray)) ++ ((rd_T59 x1 x9).f1)) ++ (⟨#[13, 10]⟩ : ByteArray)) (wrap64 (x9 + 1))) else (none)) else (none)) else (none)) else (none)) else (none)) else (if x8.size + 16 ≤ 9223372036854775807 then ((strconv_Itoa.f (x2.size : Int)).bind fun t237 => (if (x8 ++ (⟨#[99, 111, 110, 116, 101, 110, 116, 45, 108, 101, 110, 103, 116, 104, 58, 32]⟩ : ByteArray)).size + t237.size ≤ 9223372036854775807 then (if ((x8 ++ (⟨#[99, 111, 110, 116, 101, 110, 116, 45, 108, 101, 110, 103, 116, 104, 58, 32]⟩ : ByteArray)) ++ t237).size + 4 ≤ 9223372036854775807 then (if (((x8 ++ (⟨#[99, 111, 110, 116, 101, 110, 116, 45, 108, 101, 110, 103, 116, 104, 58, 32]⟩ : ByteArray)) ++ t237) ++ (⟨#[13, 10, 13, 10]⟩ : ByteArray)).size + x2.size ≤ 9223372036854775807 then (some ((((x8 ++ (⟨#[99, 111, 110, 116, 101, 110, 116, 45, 108, 101, 110, 103, 116, 104, 58, 32]⟩ : ByteArray)) ++ t237) ++ (⟨#[13, 10, 13, 10]⟩ : ByteArray)) ++ x2, decide (((((x8 ++ (⟨#[99, 111, 110, 116, 101, 110, 116, 45, 108, 101, 110, 103, 116, 104, 58, 32]⟩ : ByteArray)) ++ t237) ++ (⟨#[13, 10, 13, 10]⟩ : ByteArray)).size : Int) ≤ 8192))) else (none)) else (none)) else (none))) else (none))
end
def codicilref29_bytes.f (k : Nat) (a0 : ByteArray) (l1 : List (S59)) (a2 : ByteArray) : Option (ByteArray × Bool) := (codicilref29_fields.f k l1).bind fun t234 => (if t234 = true then (codicilref29_bytes.j0 k a0 l1 a2 (decide ((a2.size : Int) > 65536))) else (codicilref29_bytes.j0 k a0 l1 a2 true))
theorem codicilref29_bytes.mono_l : ∀ k, (∀ y0 y1 y2 y3, LeO (codicilref29_bytes.j0 k y0 y1 y2 y3) (codicilref29_bytes.j0 (k + 1) y0 y1 y2 y3)) ∧ (∀ y0 y1 y2 y3, LeO (codicilref29_bytes.l0 k y0 y1 y2 y3) (codicilref29_bytes.l0 (k + 1) y0 y1 y2 y3))
 | 0 => ⟨fun _ _ _ _ r h => by simp [codicilref29_bytes.j0] at h, fun _ _ _ _ r h => by simp [codicilref29_bytes.l0] at h⟩
 | k + 1 => by
  obtain ⟨ih0, ih1⟩ := codicilref29_bytes.mono_l k
  refine ⟨?_, ?_⟩
  ·intro y0 y1 y2 y3
   unfold codicilref29_bytes.j0
   repeat' first
   | (with_reducible exact ih0 _ _ _ _)
   | (with_reducible exact ih1 _ _ _ _)
   | (with_reducible exact codicilref29_fields.mono _ _)
   | (with_reducible exact LeO.refl _)
   | (with_reducible exact LeO.none _)
   | (with_reducible refine LeO.ite ?_ ?_)
   | (with_reducible refine LeO.bind ?_ (fun _ => ?_))
   | exact ih0 _ _ _ _
   | exact ih1 _ _ _ _
   | exact codicilref29_fields.mono _ _
   | exact LeO.none _
   | refine LeO.ite ?_ ?_
   | refine LeO.bind ?_ (fun _ => ?_)
  ·intro y0 y1 y2 y3
   unfold codicilref29_bytes.l0
   repeat' first
   | (with_reducible exact ih0 _ _ _ _)
   | (with_reducible exact ih1 _ _ _ _)
   | (with_reducible exact codicilref29_fields.mono _ _)
   | (with_reducible exact LeO.refl _)
   | (with_reducible exact LeO.none _)
   | (with_reducible refine LeO.ite ?_ ?_)
   | (with_reducible refine LeO.bind ?_ (fun _ => ?_))
   | exact ih0 _ _ _ _
   | exact ih1 _ _ _ _
   | exact codicilref29_fields.mono _ _
   | exact LeO.none _
   | refine LeO.ite ?_ ?_
   | refine LeO.bind ?_ (fun _ => ?_)
theorem codicilref29_bytes.mono : ∀ a0 a1 a2 k, LeO (codicilref29_bytes.f k a0 a1 a2) (codicilref29_bytes.f (k + 1) a0 a1 a2) := by
 intro a0 a1 a2 k
 obtain ⟨ih0, ih1⟩ := codicilref29_bytes.mono_l k
 unfold codicilref29_bytes.f
 repeat' first
   | (with_reducible exact ih0 _ _ _ _)
   | (with_reducible exact ih1 _ _ _ _)
   | (with_reducible exact codicilref29_fields.mono _ _)
   | (with_reducible exact LeO.refl _)
   | (with_reducible exact LeO.none _)
   | (with_reducible refine LeO.ite ?_ ?_)
   | (with_reducible refine LeO.bind ?_ (fun _ => ?_))
   | exact ih0 _ _ _ _
   | exact ih1 _ _ _ _
   | exact codicilref29_fields.mono _ _
   | exact LeO.none _
   | refine LeO.ite ?_ ?_
   | refine LeO.bind ?_ (fun _ => ?_)
set_option maxHeartbeats 8000000 in
set_option maxRecDepth 100000 in
theorem codicilref29_bytes.calls (k : Nat) (a0 : ByteArray) (A1 : Option Addr) (c1 : Nat) (l1 : List (S59)) (a2 : ByteArray) (r1 : ByteArray) (r2 : Bool) (w : World) (hr1 : Kd.C k59 w A1 l1.length l1) (hc1 : l1.length ≤ c1) (h : codicilref29_bytes.f k a0 l1 a2 = some (r1, r2)) (HL : Laid0 w) :
  Calls Tryz.prog 53 #[.string a0, .slice A1 l1.length c1, .string a2] w fun e w' => e = .returned (.tuple #[.string r1, .bool r2]) ∧ Below w.heap.size w w' := by
 have HR1 := qH hr1
 have HC1 := qH hc1
 clear hr1 hc1
 have HB := qH (Below.refl w.heap.size w)
 have H : ((codicilref29_fields.f k l1).bind fun t234 => (if t234 = true then (codicilref29_bytes.j0 k a0 l1 a2 (decide ((a2.size : Int) > 65536))) else (codicilref29_bytes.j0 k a0 l1 a2 true))) = some (r1, r2) := h
 clear h
 have HC4 := qH H
 clear H
 go_enter Tryz.func53, Tryz.ntmps53
 go_upto_region 1 with (fail)
 repeat (go_quiet (fail); go_upto_region 1 with (fail))
 go_cut [17] (fun v17 wc => ∃ (kq : Nat) (x17_3 : Bool), v17 = .bool x17_3 ∧ Aside0 (codicilref29_bytes.j0 kq a0 l1 a2 x17_3 = some (r1, r2)) ∧ Aside0 (kq ≤ k) ∧ Aside0 (Below w.heap.size w wc))
 case first =>
  have H := HC4.out
  clear HC4
  replace H := Option.bind_eq_some_iff.mp H
  obtain ⟨t234, A50, H⟩ := H
  (try dsimp only at H)
  have A5 := qH A50
  clear A50
  by_cases c6 : t234 = true
  ·subst c6
   have H1 : (codicilref29_bytes.j0 k a0 l1 a2 (decide ((a2.size : Int) > 65536))) = some (r1, r2) := by rw [if_pos rfl] at H; exact H
   clear H
   have H := H1
   clear H1
   have H' := qH H
   clear H
   go_wp2_with (first | (go_at_call 79; (with_reducible refine (codicilref29_fields.calls k _ _ l1 true _ ?side1 ?side2 A5.out).mono ?_); (case side1 => repeat (first | exact (Kd.C_below HR1.out HB.out) | (with_reducible refine Kd.C_alloc ?_ _) | (with_reducible refine Kd.C_drewN ?_ _) | (with_reducible refine Kd.C_drew ?_))); (case side2 => exact HC1.out); rintro e w7 ⟨rfl, hb⟩; have n0_ := qH (below_step zz2 hb); clear HB; have HB := n0_; clear n0_; (try clear hb); (try clear hb2); (try clear hk); (try clear hi)))
   repeat (go_quiet (first | (go_at_call 79; (with_reducible refine (codicilref29_fields.calls k _ _ l1 true _ ?side1 ?side2 A5.out).mono ?_); (case side1 => repeat (first | exact (Kd.C_below HR1.out HB.out) | (with_reducible refine Kd.C_alloc ?_ _) | (with_reducible refine Kd.C_drewN ?_ _) | (with_reducible refine Kd.C_drew ?_))); (case side2 => exact HC1.out); rintro e w7 ⟨rfl, hb⟩; have n0_ := qH (below_step zz2 hb); clear HB; have HB := n0_; clear n0_; (try clear hb); (try clear hb2); (try clear hk); (try clear hi))); try go_wp2_with (first | (go_at_call 79; (with_reducible refine (codicilref29_fields.calls k _ _ l1 true _ ?side1 ?side2 A5.out).mono ?_); (case side1 => repeat (first | exact (Kd.C_below HR1.out HB.out) | (with_reducible refine Kd.C_alloc ?_ _) | (with_reducible refine Kd.C_drewN ?_ _) | (with_reducible refine Kd.C_drew ?_))); (case side2 => exact HC1.out); rintro e w7 ⟨rfl, hb⟩; have n0_ := qH (below_step zz2 hb); clear HB; have HB := n0_; clear n0_; (try clear hb); (try clear hb2); (try clear hk); (try clear hi))))
   go_meet
   case rel => exact ⟨_, (decide ((a2.size : Int) > 65536)), zz3, H', ⟨by first | omega | exact Nat.le_refl _⟩, ⟨by repeat (first | (with_reducible first | exact HB.out | apply qL | apply qJ | apply qK) | exact HB.out)⟩⟩
  ·replace c6 := Bool.eq_false_iff.mpr c6
   subst c6
   have H1 : (codicilref29_bytes.j0 k a0 l1 a2 true) = some (r1, r2) := by rw [if_neg (show ¬ (false = true) by decide)] at H; exact H
   clear H
   have H := H1
   clear H1
   have H' := qH H
   clear H
   go_wp2_with (first | (go_at_call 79; (with_reducible refine (codicilref29_fields.calls k _ _ l1 false _ ?side1 ?side2 A5.out).mono ?_); (case side1 => repeat (first | exact (Kd.C_below HR1.out HB.out) | (with_reducible refine Kd.C_alloc ?_ _) | (with_reducible refine Kd.C_drewN ?_ _) | (with_reducible refine Kd.C_drew ?_))); (case side2 => exact HC1.out); rintro e w8 ⟨rfl, hb⟩; have n0_ := qH (below_step zz2 hb); clear HB; have HB := n0_; clear n0_; (try clear hb); (try clear hb2); (try clear hk); (try clear hi)))
   repeat (go_quiet (first | (go_at_call 79; (with_reducible refine (codicilref29_fields.calls k _ _ l1 false _ ?side1 ?side2 A5.out).mono ?_); (case side1 => repeat (first | exact (Kd.C_below HR1.out HB.out) | (with_reducible refine Kd.C_alloc ?_ _) | (with_reducible refine Kd.C_drewN ?_ _) | (with_reducible refine Kd.C_drew ?_))); (case side2 => exact HC1.out); rintro e w8 ⟨rfl, hb⟩; have n0_ := qH (below_step zz2 hb); clear HB; have HB := n0_; clear n0_; (try clear hb); (try clear hb2); (try clear hk); (try clear hi))); try go_wp2_with (first | (go_at_call 79; (with_reducible refine (codicilref29_fields.calls k _ _ l1 false _ ?side1 ?side2 A5.out).mono ?_); (case side1 => repeat (first | exact (Kd.C_below HR1.out HB.out) | (with_reducible refine Kd.C_alloc ?_ _) | (with_reducible refine Kd.C_drewN ?_ _) | (with_reducible refine Kd.C_drew ?_))); (case side2 => exact HC1.out); rintro e w8 ⟨rfl, hb⟩; have n0_ := qH (below_step zz2 hb); clear HB; have HB := n0_; clear n0_; (try clear hb); (try clear hb2); (try clear hk); (try clear hi))))
   go_meet
   case rel => exact ⟨_, (true), zz3, H', ⟨by first | omega | exact Nat.le_refl _⟩, ⟨by repeat (first | (with_reducible first | exact HB.out | apply qL | apply qJ | apply qK) | exact HB.out)⟩⟩
 case rest =>
  clear HC4
  try clear c1
  try clear p2
  try clear c5
  try clear c6
  obtain ⟨kq, x17_3, rfl, HA, HJ3, HB⟩ := hcut
  cases kq with
  | zero => exact absurd HA.out (by simp [codicilref29_bytes.j0])
  | succ kj3 =>
   have H := HA.out
   clear HA
   simp only [codicilref29_bytes.j0] at H
   by_cases c9 : x17_3 = true
   ·subst c9
    have H1 : (some ((⟨#[]⟩ : ByteArray), false)) = some (r1, r2) := by rw [if_pos rfl] at H; exact H
    clear H
    have H := H1
    clear H1
    simp only [Option.some.injEq, Prod.mk.injEq] at H
    obtain ⟨rfl, rfl⟩ := H
    go_wp2
    repeat (go_quiet (fail); try go_wp2)
    go_ret2
    exact ⟨by first | rfl | (simp [errW_none, errW_some] <;> rfl) | (simp [*, errW_none, errW_some] <;> rfl), by repeat (first | (with_reducible first | exact HB.out | apply qL | apply qJ | apply qK) | exact HB.out)⟩
   ·replace c9 := Bool.eq_false_iff.mpr c9
    subst c9
    have H1 : (if a0.size + 2 ≤ 9223372036854775807 then (codicilref29_bytes.l0 kj3 l1 a2 (a0 ++ (⟨#[13, 10]⟩ : ByteArray)) 0) else (none)) = some (r1, r2) := by rw [if_neg (show ¬ (false = true) by decide)] at H; exact H
    clear H
    have H := H1
    clear H1
    by_cases c10 : a0.size + 2 ≤ 9223372036854775807
    ·rw [if_pos c10] at H
     have c10b0 := eq_true c10
     have c10b1 : decide (a0.size + 2 ≤ 9223372036854775807) = true := decide_eq_true c10
     try have c10b2 : (9223372036854775807 < a0.size + 2) = False := eq_false (Nat.not_lt.2 c10)
     have H' := qH H
     clear H
     go_wp2
     repeat (go_quiet (fail); try go_wp2)
     go_loopg [8, 9] kj3 (fun kq v8 v9 w' => ∃ (x8_2 : ByteArray) (x9_2 : Int), v8 = .string x8_2 ∧ v9 = .int .i64 x9_2 ∧ Aside0 (codicilref29_bytes.l0 kq l1 a2 x8_2 x9_2 = some (r1, r2)) ∧ Aside0 (kq ≤ kj3) ∧ Aside0 (Below w.heap.size w w'))
     case atStart => exact ⟨(a0 ++ (⟨#[13, 10]⟩ : ByteArray)), (0), zz3, zz3, H', ⟨Nat.le_refl _⟩, ⟨by repeat (first | (with_reducible first | exact HB.out | apply qL | apply qJ | apply qK) | exact HB.out)⟩⟩
     case round =>
      clear H'
      try clear c1
      try clear p2
      try clear c5
      try clear c6
      try clear c9
      try clear c10
      try clear c10b0
      try clear c10b1
      try clear c10b2
      try clear p2
      obtain ⟨x8_2, x9_2, rfl, rfl, HA, HK2, HB⟩ := hrel
      cases gk with
      | zero => exact absurd HA.out (by simp [codicilref29_bytes.l0])
      | succ k2 =>
       have H := HA.out
       clear HA
       simp only [codicilref29_bytes.l0] at H
       by_cases c11 : x9_2 < (l1.length : Int)
       ·rw [if_pos c11] at H
        have c11b0 : decide (x9_2 < (l1.length : Int)) = true := decide_eq_true c11
        clear c11
        by_cases c12 : 0 ≤ x9_2
        ·rw [if_pos c12] at H
         have c12b0 : decide (0 ≤ x9_2) = true := decide_eq_true c12
         clear c12
         by_cases c13 : x8_2.size + ((rd_T59 l1 x9_2).f0).size ≤ 9223372036854775807
         ·rw [if_pos c13] at H
          have c13b0 := eq_true c13
          have c13b1 : decide (x8_2.size + ((rd_T59 l1 x9_2).f0).size ≤ 9223372036854775807) = true := decide_eq_true c13
          try have c13b2 : (9223372036854775807 < x8_2.size + ((rd_T59 l1 x9_2).f0).size) = False := eq_false (Nat.not_lt.2 c13)
          by_cases c14 : (x8_2 ++ ((rd_T59 l1 x9_2).f0)).size + 2 ≤ 9223372036854775807
          ·rw [if_pos c14] at H
           have c14b0 := eq_true c14
           have c14b1 : decide ((x8_2 ++ ((rd_T59 l1 x9_2).f0)).size + 2 ≤ 9223372036854775807) = true := decide_eq_true c14
           try have c14b2 : (9223372036854775807 < (x8_2 ++ ((rd_T59 l1 x9_2).f0)).size + 2) = False := eq_false (Nat.not_lt.2 c14)
           try (have c14b3 := of_eq_false c14b2; simp only [ByteArray.size_append] at c14b3)
           by_cases c15 : ((x8_2 ++ ((rd_T59 l1 x9_2).f0)) ++ (⟨#[58, 32]⟩ : ByteArray)).size + ((rd_T59 l1 x9_2).f1).size ≤ 9223372036854775807
           ·rw [if_pos c15] at H
            have c15b0 := eq_true c15
            have c15b1 : decide (((x8_2 ++ ((rd_T59 l1 x9_2).f0)) ++ (⟨#[58, 32]⟩ : ByteArray)).size + ((rd_T59 l1 x9_2).f1).size ≤ 9223372036854775807) = true := decide_eq_true c15
            try have c15b2 : (9223372036854775807 < ((x8_2 ++ ((rd_T59 l1 x9_2).f0)) ++ (⟨#[58, 32]⟩ : ByteArray)).size + ((rd_T59 l1 x9_2).f1).size) = False := eq_false (Nat.not_lt.2 c15)
            try (have c15b3 := of_eq_false c15b2; simp only [ByteArray.size_append, show (⟨#[58, 32]⟩ : ByteArray).size = 2 from rfl] at c15b3)
            by_cases c16 : (((x8_2 ++ ((rd_T59 l1 x9_2).f0)) ++ (⟨#[58, 32]⟩ : ByteArray)) ++ ((rd_T59 l1 x9_2).f1)).size + 2 ≤ 9223372036854775807
            ·rw [if_pos c16] at H
             have c16b0 := eq_true c16
             have c16b1 : decide ((((x8_2 ++ ((rd_T59 l1 x9_2).f0)) ++ (⟨#[58, 32]⟩ : ByteArray)) ++ ((rd_T59 l1 x9_2).f1)).size + 2 ≤ 9223372036854775807) = true := decide_eq_true c16
             try have c16b2 : (9223372036854775807 < (((x8_2 ++ ((rd_T59 l1 x9_2).f0)) ++ (⟨#[58, 32]⟩ : ByteArray)) ++ ((rd_T59 l1 x9_2).f1)).size + 2) = False := eq_false (Nat.not_lt.2 c16)
             try (have c16b3 := of_eq_false c16b2; simp only [ByteArray.size_append, show (⟨#[58, 32]⟩ : ByteArray).size = 2 from rfl] at c16b3)
             have H' := qH H
             clear H
             have p235 : 0 ≤ (x9_2 : Int) := of_decide_eq_true zz0
             have q235 : x9_2 < (l1.length : Int) := of_decide_eq_true zz0
             obtain ⟨ad235, e235, hx235_0, hx235_1⟩ := at_T59 HR1.out x9_2 p235 q235
             cases e235
             replace hx235_0 := (HB.out.cell (qO w _ hx235_0)).trans hx235_0
             replace hx235_1 := (HB.out.cell (qO w _ hx235_1)).trans hx235_1
             replace p235 := eq_true p235
             replace q235 := eq_true q235
             have p236 : 0 ≤ (x9_2 : Int) := of_decide_eq_true zz0
             have q236 : x9_2 < (l1.length : Int) := of_decide_eq_true zz0
             obtain ⟨ad236, e236, hx236_0, hx236_1⟩ := at_T59 HR1.out x9_2 p236 q236
             obtain rfl : ad235 = ad236 := (by injection e236)
             replace hx236_0 := (HB.out.cell (qO w _ hx236_0)).trans hx236_0
             replace hx236_1 := (HB.out.cell (qO w _ hx236_1)).trans hx236_1
             replace p236 := eq_true p236
             replace q236 := eq_true q236
             go_wp2
             repeat (go_quiet (fail); try go_wp2)
             go_roundg k2
             case measure => have := HJ3.out; have := HK2.out; omega
             case rel => exact ⟨((((x8_2 ++ ((rd_T59 l1 x9_2).f0)) ++ (⟨#[58, 32]⟩ : ByteArray)) ++ ((rd_T59 l1 x9_2).f1)) ++ (⟨#[13, 10]⟩ : ByteArray)), (wrap64 (x9_2 + 1)), zz3, zz3, H', ⟨by have := HJ3.out; have := HK2.out; omega⟩, ⟨by repeat (first | (with_reducible first | exact HB.out | apply qL | apply qJ | apply qK) | exact HB.out)⟩⟩
            ·rw [if_neg c16] at H
             exact absurd H zz65
           ·rw [if_neg c15] at H
            exact absurd H zz65
          ·rw [if_neg c14] at H
           exact absurd H zz65
         ·rw [if_neg c13] at H
          exact absurd H zz65
        ·rw [if_neg c12] at H
         exact absurd H zz65
       ·rw [if_neg c11] at H
        have c11b0 : decide (x9_2 < (l1.length : Int)) = false := decide_eq_false c11
        clear c11
        by_cases c17 : x8_2.size + 16 ≤ 9223372036854775807
        ·rw [if_pos c17] at H
         have c17b0 := eq_true c17
         have c17b1 : decide (x8_2.size + 16 ≤ 9223372036854775807) = true := decide_eq_true c17
         try have c17b2 : (9223372036854775807 < x8_2.size + 16) = False := eq_false (Nat.not_lt.2 c17)
         replace H := Option.bind_eq_some_iff.mp H
         obtain ⟨t237, A180, H⟩ := H
         (try dsimp only at H)
         have A18 := qH A180
         clear A180
         by_cases c19 : (x8_2 ++ (⟨#[99, 111, 110, 116, 101, 110, 116, 45, 108, 101, 110, 103, 116, 104, 58, 32]⟩ : ByteArray)).size + t237.size ≤ 9223372036854775807
         ·rw [if_pos c19] at H
          have c19b0 := eq_true c19
          have c19b1 : decide ((x8_2 ++ (⟨#[99, 111, 110, 116, 101, 110, 116, 45, 108, 101, 110, 103, 116, 104, 58, 32]⟩ : ByteArray)).size + t237.size ≤ 9223372036854775807) = true := decide_eq_true c19
          try have c19b2 : (9223372036854775807 < (x8_2 ++ (⟨#[99, 111, 110, 116, 101, 110, 116, 45, 108, 101, 110, 103, 116, 104, 58, 32]⟩ : ByteArray)).size + t237.size) = False := eq_false (Nat.not_lt.2 c19)
          try (have c19b3 := of_eq_false c19b2; simp only [ByteArray.size_append, show (⟨#[99, 111, 110, 116, 101, 110, 116, 45, 108, 101, 110, 103, 116, 104, 58, 32]⟩ : ByteArray).size = 16 from rfl] at c19b3)
          by_cases c20 : ((x8_2 ++ (⟨#[99, 111, 110, 116, 101, 110, 116, 45, 108, 101, 110, 103, 116, 104, 58, 32]⟩ : ByteArray)) ++ t237).size + 4 ≤ 9223372036854775807
          ·rw [if_pos c20] at H
           have c20b0 := eq_true c20
           have c20b1 : decide (((x8_2 ++ (⟨#[99, 111, 110, 116, 101, 110, 116, 45, 108, 101, 110, 103, 116, 104, 58, 32]⟩ : ByteArray)) ++ t237).size + 4 ≤ 9223372036854775807) = true := decide_eq_true c20
           try have c20b2 : (9223372036854775807 < ((x8_2 ++ (⟨#[99, 111, 110, 116, 101, 110, 116, 45, 108, 101, 110, 103, 116, 104, 58, 32]⟩ : ByteArray)) ++ t237).size + 4) = False := eq_false (Nat.not_lt.2 c20)
           try (have c20b3 := of_eq_false c20b2; simp only [ByteArray.size_append, show (⟨#[99, 111, 110, 116, 101, 110, 116, 45, 108, 101, 110, 103, 116, 104, 58, 32]⟩ : ByteArray).size = 16 from rfl] at c20b3)
           by_cases c21 : (((x8_2 ++ (⟨#[99, 111, 110, 116, 101, 110, 116, 45, 108, 101, 110, 103, 116, 104, 58, 32]⟩ : ByteArray)) ++ t237) ++ (⟨#[13, 10, 13, 10]⟩ : ByteArray)).size + a2.size ≤ 9223372036854775807
           ·rw [if_pos c21] at H
            have c21b0 := eq_true c21
            have c21b1 : decide ((((x8_2 ++ (⟨#[99, 111, 110, 116, 101, 110, 116, 45, 108, 101, 110, 103, 116, 104, 58, 32]⟩ : ByteArray)) ++ t237) ++ (⟨#[13, 10, 13, 10]⟩ : ByteArray)).size + a2.size ≤ 9223372036854775807) = true := decide_eq_true c21
            try have c21b2 : (9223372036854775807 < (((x8_2 ++ (⟨#[99, 111, 110, 116, 101, 110, 116, 45, 108, 101, 110, 103, 116, 104, 58, 32]⟩ : ByteArray)) ++ t237) ++ (⟨#[13, 10, 13, 10]⟩ : ByteArray)).size + a2.size) = False := eq_false (Nat.not_lt.2 c21)
            try (have c21b3 := of_eq_false c21b2; simp only [ByteArray.size_append, show (⟨#[13, 10, 13, 10]⟩ : ByteArray).size = 4 from rfl, show (⟨#[99, 111, 110, 116, 101, 110, 116, 45, 108, 101, 110, 103, 116, 104, 58, 32]⟩ : ByteArray).size = 16 from rfl] at c21b3)
            simp only [Option.some.injEq, Prod.mk.injEq] at H
            obtain ⟨rfl, rfl⟩ := H
            go_wp2_with (first | (go_at_call 54; (with_reducible refine (strconv_Itoa.calls (a2.size : Int) t237 _ A18.out (HL.later zz2)).mono ?_); rintro e w22 ⟨rfl, hb⟩; have n0_ := qH (below_step zz2 hb); clear HB; have HB := n0_; clear n0_; (try clear hb); (try clear hb2); (try clear hk); (try clear hi)))
            repeat (go_quiet (first | (go_at_call 54; (with_reducible refine (strconv_Itoa.calls (a2.size : Int) t237 _ A18.out (HL.later zz2)).mono ?_); rintro e w22 ⟨rfl, hb⟩; have n0_ := qH (below_step zz2 hb); clear HB; have HB := n0_; clear n0_; (try clear hb); (try clear hb2); (try clear hk); (try clear hi))); try go_wp2_with (first | (go_at_call 54; (with_reducible refine (strconv_Itoa.calls (a2.size : Int) t237 _ A18.out (HL.later zz2)).mono ?_); rintro e w22 ⟨rfl, hb⟩; have n0_ := qH (below_step zz2 hb); clear HB; have HB := n0_; clear n0_; (try clear hb); (try clear hb2); (try clear hk); (try clear hi))))
            go_ret2
            exact ⟨by first | rfl | (simp [errW_none, errW_some] <;> rfl) | (simp [*, errW_none, errW_some] <;> rfl), by repeat (first | (with_reducible first | exact HB.out | apply qL | apply qJ | apply qK) | exact HB.out)⟩
           ·rw [if_neg c21] at H
            exact absurd H zz65
          ·rw [if_neg c20] at H
           exact absurd H zz65
         ·rw [if_neg c19] at H
          exact absurd H zz65
        ·rw [if_neg c17] at H
         exact absurd H zz65
    ·rw [if_neg c10] at H
     exact absurd H zz65

/-! ### codicilref29_Ask: function 21 -/
def codicilref29_Ask.j0 : Nat → Bool → ByteArray → ByteArray → List (S59) → ByteArray → Option (ByteArray × Int)
 | 0, _, _, _, _, _ => none
 | k + 1, x15, x239000, x239001, x239002, x239003 => if x15 = true then (some ((⟨#[]⟩ : ByteArray), 2)) else (if x239000.size + 1 ≤ 9223372036854775807 then (if (x239000 ++ (⟨#[32]⟩ : ByteArray)).size + x239001.size ≤ 9223372036854775807 then (if ((x239000 ++ (⟨#[32]⟩ : ByteArray)) ++ x239001).size + 9 ≤ 9223372036854775807 then ((codicilref29_bytes.f k (((x239000 ++ (⟨#[32]⟩ : ByteArray)) ++ x239001) ++ (⟨#[32, 72, 84, 84, 80, 47, 49, 46, 49]⟩ : ByteArray)) x239002 x239003).bind fun bt241 => (if bt241.2 = true then (some (bt241.1, 0)) else (some ((⟨#[]⟩ : ByteArray), 2)))) else (none)) else (none)) else (none))
def codicilref29_Ask.f (k : Nat) (a0_0 : ByteArray) (a0_1 : ByteArray) (l0_2 : List (S59)) (a0_3 : ByteArray) : Option (ByteArray × Int) := (codicilref29_token.f k a0_0).bind fun t239 => (if t239 = true then ((codicilref29_target.f k a0_1).bind fun t240 => (codicilref29_Ask.j0 k (!t240) a0_0 a0_1 l0_2 a0_3)) else (codicilref29_Ask.j0 k true a0_0 a0_1 l0_2 a0_3))
theorem codicilref29_Ask.mono_l : ∀ k, (∀ y0 y1 y2 y3 y4, LeO (codicilref29_Ask.j0 k y0 y1 y2 y3 y4) (codicilref29_Ask.j0 (k + 1) y0 y1 y2 y3 y4))
 | 0 => fun _ _ _ _ _ r h => by simp [codicilref29_Ask.j0] at h
 | k + 1 => by
  have ih0 := codicilref29_Ask.mono_l k
  ·intro y0 y1 y2 y3 y4
   unfold codicilref29_Ask.j0
   repeat' first
   | (with_reducible exact ih0 _ _ _ _ _)
   | (with_reducible exact codicilref29_bytes.mono _ _ _ _)
   | (with_reducible exact codicilref29_target.mono _ _)
   | (with_reducible exact codicilref29_token.mono _ _)
   | (with_reducible exact LeO.refl _)
   | (with_reducible exact LeO.none _)
   | (with_reducible refine LeO.ite ?_ ?_)
   | (with_reducible refine LeO.bind ?_ (fun _ => ?_))
   | exact ih0 _ _ _ _ _
   | exact codicilref29_bytes.mono _ _ _ _
   | exact codicilref29_target.mono _ _
   | exact codicilref29_token.mono _ _
   | exact LeO.none _
   | refine LeO.ite ?_ ?_
   | refine LeO.bind ?_ (fun _ => ?_)
theorem codicilref29_Ask.mono : ∀ a0 a1 a2 a3 k, LeO (codicilref29_Ask.f k a0 a1 a2 a3) (codicilref29_Ask.f (k + 1) a0 a1 a2 a3) := by
 intro a0 a1 a2 a3 k
 have ih0 := codicilref29_Ask.mono_l k
 unfold codicilref29_Ask.f
 repeat' first
   | (with_reducible exact ih0 _ _ _ _ _)
   | (with_reducible exact codicilref29_bytes.mono _ _ _ _)
   | (with_reducible exact codicilref29_target.mono _ _)
   | (with_reducible exact codicilref29_token.mono _ _)
   | (with_reducible exact LeO.refl _)
   | (with_reducible exact LeO.none _)
   | (with_reducible refine LeO.ite ?_ ?_)
   | (with_reducible refine LeO.bind ?_ (fun _ => ?_))
   | exact ih0 _ _ _ _ _
   | exact codicilref29_bytes.mono _ _ _ _
   | exact codicilref29_target.mono _ _
   | exact codicilref29_token.mono _ _
   | exact LeO.none _
   | refine LeO.ite ?_ ?_
   | refine LeO.bind ?_ (fun _ => ?_)
set_option maxHeartbeats 8000000 in
set_option maxRecDepth 100000 in
theorem codicilref29_Ask.calls (k : Nat) (a0_0 : ByteArray) (a0_1 : ByteArray) (A0_2 : Option Addr) (c0_2 : Nat) (l0_2 : List (S59)) (a0_3 : ByteArray) (r1 : ByteArray) (r2 : Int) (w : World) (hr0_2 : Kd.C k59 w A0_2 l0_2.length l0_2) (hc0_2 : l0_2.length ≤ c0_2) (h : codicilref29_Ask.f k a0_0 a0_1 l0_2 a0_3 = some (r1, r2)) (HL : Laid0 w) :
  Calls Tryz.prog 21 #[.agg #[.string a0_0, .string a0_1, .slice A0_2 l0_2.length c0_2, .string a0_3]] w fun e w' => e = .returned (.tuple #[.string r1, .int .i64 r2]) ∧ Below w.heap.size w w' := by
 have hu25 := Tryz.underlying25
 have HR0_2 := qH hr0_2
 have HC0_2 := qH hc0_2
 clear hr0_2 hc0_2
 have HB := qH (Below.refl w.heap.size w)
 have H : ((codicilref29_token.f k a0_0).bind fun t239 => (if t239 = true then ((codicilref29_target.f k a0_1).bind fun t240 => (codicilref29_Ask.j0 k (!t240) a0_0 a0_1 l0_2 a0_3)) else (codicilref29_Ask.j0 k true a0_0 a0_1 l0_2 a0_3))) = some (r1, r2) := h
 clear h
 have HC2 := qH H
 clear H
 go_enter Tryz.func21, Tryz.ntmps21
 go_upto_region 1 with (first | ((with_reducible refine gate_dst (N := 1) rfl ?_); refine box_event ?hg (N := 1) ?hd (cs := #[.string a0_0, .string a0_1, .slice A0_2 l0_2.length c0_2, .string a0_3]) (t := 25) ?hr ?_; (case hd => rfl); (case hg => rfl); (case hr => first | (go_simp; done) | (go_simp; rfl) | (go_simp; simp [IntKind.wrap_u32]; done)); intro gb238 hg w3 hbox hb; have n0_ := qH (below_step zz2 hb); have n1_ := qH (hbox); have n2_ := qH ((by rw [hg]; exact (below_size zz2) : w.heap.size ≤ gb238)); have n3_ := n2_; clear HB; have HB := n0_; have BK238 := n1_; have GW238 := n2_; have GE238 := n3_; clear n0_ n1_ n2_ n3_; clear hb hbox hg))
 (try simp only [Act.put, List.setIfInBounds_toArray, List.set_cons_zero, List.set_cons_succ])
 go_cut [15] (fun v15 wc => ∃ (kq : Nat) (x15_1 : Bool), v15 = .bool x15_1 ∧ Aside0 (codicilref29_Ask.j0 kq x15_1 a0_0 a0_1 l0_2 a0_3 = some (r1, r2)) ∧ Aside0 (kq ≤ k) ∧ Aside0 (wc.heap[gb238]? = some (.cells #[.string a0_0, .string a0_1, (.slice A0_2 l0_2.length c0_2), .string a0_3] 25 (0, 0))) ∧ Aside0 (Below w.heap.size w wc))
 case first =>
  have H := HC2.out
  clear HC2
  replace H := Option.bind_eq_some_iff.mp H
  obtain ⟨t239, A40, H⟩ := H
  (try dsimp only at H)
  have A4 := qH A40
  clear A40
  by_cases c5 : t239 = true
  ·subst c5
   have H1 : ((codicilref29_target.f k a0_1).bind fun t240 => (codicilref29_Ask.j0 k (!t240) a0_0 a0_1 l0_2 a0_3)) = some (r1, r2) := by rw [if_pos rfl] at H; exact H
   clear H
   have H := H1
   clear H1
   replace H := Option.bind_eq_some_iff.mp H
   obtain ⟨t240, A60, H⟩ := H
   (try dsimp only at H)
   have A6 := qH A60
   clear A60
   have H' := qH H
   clear H
   have hcz7_0 : w3.cell? ⟨gb238, 0, none⟩ = some (.string a0_0) := (qE BK238.out 0).trans rfl
   have hcz7_1 : w3.cell? ⟨gb238, 1, none⟩ = some (.string a0_1) := (qE BK238.out 1).trans rfl
   have hcz7_2 : w3.cell? ⟨gb238, 2, none⟩ = some (.slice A0_2 l0_2.length c0_2) := (qE BK238.out 2).trans rfl
   have hcz7_3 : w3.cell? ⟨gb238, 3, none⟩ = some (.string a0_3) := (qE BK238.out 3).trans rfl
   have hfz7_0 := qF BK238.out 0
   have hfz7_1 := qF BK238.out 1
   have hfz7_2 := qF BK238.out 2
   have hfz7_3 := qF BK238.out 3
   go_wp2_with (first | ((with_reducible refine gate_callee (f := 52) rfl ?_); refine goesL_ (some 8) rfl rfl Tryz.func52 (by kernel_rfl) rfl #[.string a0_0] rfl zz4 ?_; (with_reducible refine (codicilref29_token.calls k a0_0 true _ A4.out).mono ?_); rintro e w' ⟨rfl, ⟨nd, rfl⟩⟩; refine ⟨_, rfl, ?_⟩) | (go_at_call 47; (with_reducible refine (codicilref29_target.calls k a0_1 t240 _ A6.out).mono ?_); rintro e w' ⟨rfl, ⟨nd, rfl⟩⟩))
   go_meet
   case rel => exact ⟨_, (!t240), zz3, H', ⟨by first | omega | exact Nat.le_refl _⟩, ⟨by (with_reducible repeat first | apply qA | apply qC | apply qB); exact BK238.out⟩, ⟨by repeat (first | (with_reducible first | exact HB.out | apply qL | apply qJ | apply qK | refine qI ?_ GE238.out) | exact HB.out)⟩⟩
  ·replace c5 := Bool.eq_false_iff.mpr c5
   subst c5
   have H1 : (codicilref29_Ask.j0 k true a0_0 a0_1 l0_2 a0_3) = some (r1, r2) := by rw [if_neg (show ¬ (false = true) by decide)] at H; exact H
   clear H
   have H := H1
   clear H1
   have H' := qH H
   clear H
   have hcz8_0 : w3.cell? ⟨gb238, 0, none⟩ = some (.string a0_0) := (qE BK238.out 0).trans rfl
   have hcz8_1 : w3.cell? ⟨gb238, 1, none⟩ = some (.string a0_1) := (qE BK238.out 1).trans rfl
   have hcz8_2 : w3.cell? ⟨gb238, 2, none⟩ = some (.slice A0_2 l0_2.length c0_2) := (qE BK238.out 2).trans rfl
   have hcz8_3 : w3.cell? ⟨gb238, 3, none⟩ = some (.string a0_3) := (qE BK238.out 3).trans rfl
   have hfz8_0 := qF BK238.out 0
   have hfz8_1 := qF BK238.out 1
   have hfz8_2 := qF BK238.out 2
   have hfz8_3 := qF BK238.out 3
   go_wp2_with (first | ((with_reducible refine gate_callee (f := 52) rfl ?_); refine goesL_ (some 8) rfl rfl Tryz.func52 (by kernel_rfl) rfl #[.string a0_0] rfl zz4 ?_; (with_reducible refine (codicilref29_token.calls k a0_0 false _ A4.out).mono ?_); rintro e w' ⟨rfl, ⟨nd, rfl⟩⟩; refine ⟨_, rfl, ?_⟩))
   go_meet
   case rel => exact ⟨_, (true), zz3, H', ⟨by first | omega | exact Nat.le_refl _⟩, ⟨by (with_reducible repeat first | apply qA | apply qC | apply qB); exact BK238.out⟩, ⟨by repeat (first | (with_reducible first | exact HB.out | apply qL | apply qJ | apply qK | refine qI ?_ GE238.out) | exact HB.out)⟩⟩
 case rest =>
  clear HC2
  try clear c2
  try clear p2
  try clear c5
  try clear hcz7_0
  try clear hcz7_1
  try clear hcz7_2
  try clear hcz7_3
  try clear hcz8_0
  try clear hcz8_1
  try clear hcz8_2
  try clear hcz8_3
  try clear hfz7_0
  try clear hfz7_1
  try clear hfz7_2
  try clear hfz7_3
  try clear hfz8_0
  try clear hfz8_1
  try clear hfz8_2
  try clear hfz8_3
  obtain ⟨kq, x15_1, rfl, HA, HJ1, BK238, HB⟩ := hcut
  cases kq with
  | zero => exact absurd HA.out (by simp [codicilref29_Ask.j0])
  | succ kj1 =>
   have H := HA.out
   clear HA
   simp only [codicilref29_Ask.j0] at H
   by_cases c9 : x15_1 = true
   ·subst c9
    have H1 : (some ((⟨#[]⟩ : ByteArray), 2)) = some (r1, r2) := by rw [if_pos rfl] at H; exact H
    clear H
    have H := H1
    clear H1
    simp only [Option.some.injEq, Prod.mk.injEq] at H
    obtain ⟨rfl, rfl⟩ := H
    go_wp2
    go_ret2
    exact ⟨by first | rfl | (simp [errW_none, errW_some] <;> rfl) | (simp [*, errW_none, errW_some] <;> rfl), by repeat (first | (with_reducible first | exact HB.out | apply qL | apply qJ | apply qK | refine qI ?_ GE238.out) | exact HB.out)⟩
   ·replace c9 := Bool.eq_false_iff.mpr c9
    subst c9
    have H1 : (if a0_0.size + 1 ≤ 9223372036854775807 then (if (a0_0 ++ (⟨#[32]⟩ : ByteArray)).size + a0_1.size ≤ 9223372036854775807 then (if ((a0_0 ++ (⟨#[32]⟩ : ByteArray)) ++ a0_1).size + 9 ≤ 9223372036854775807 then ((codicilref29_bytes.f kj1 (((a0_0 ++ (⟨#[32]⟩ : ByteArray)) ++ a0_1) ++ (⟨#[32, 72, 84, 84, 80, 47, 49, 46, 49]⟩ : ByteArray)) l0_2 a0_3).bind fun bt241 => (if bt241.2 = true then (some (bt241.1, 0)) else (some ((⟨#[]⟩ : ByteArray), 2)))) else (none)) else (none)) else (none)) = some (r1, r2) := by rw [if_neg (show ¬ (false = true) by decide)] at H; exact H
    clear H
    have H := H1
    clear H1
    by_cases c10 : a0_0.size + 1 ≤ 9223372036854775807
    ·rw [if_pos c10] at H
     have c10b0 := eq_true c10
     have c10b1 : decide (a0_0.size + 1 ≤ 9223372036854775807) = true := decide_eq_true c10
     try have c10b2 : (9223372036854775807 < a0_0.size + 1) = False := eq_false (Nat.not_lt.2 c10)
     by_cases c11 : (a0_0 ++ (⟨#[32]⟩ : ByteArray)).size + a0_1.size ≤ 9223372036854775807
     ·rw [if_pos c11] at H
      have c11b0 := eq_true c11
      have c11b1 : decide ((a0_0 ++ (⟨#[32]⟩ : ByteArray)).size + a0_1.size ≤ 9223372036854775807) = true := decide_eq_true c11
      try have c11b2 : (9223372036854775807 < (a0_0 ++ (⟨#[32]⟩ : ByteArray)).size + a0_1.size) = False := eq_false (Nat.not_lt.2 c11)
      try (have c11b3 := of_eq_false c11b2; simp only [ByteArray.size_append, show (⟨#[32]⟩ : ByteArray).size = 1 from rfl] at c11b3)
      by_cases c12 : ((a0_0 ++ (⟨#[32]⟩ : ByteArray)) ++ a0_1).size + 9 ≤ 9223372036854775807
      ·rw [if_pos c12] at H
       have c12b0 := eq_true c12
       have c12b1 : decide (((a0_0 ++ (⟨#[32]⟩ : ByteArray)) ++ a0_1).size + 9 ≤ 9223372036854775807) = true := decide_eq_true c12
       try have c12b2 : (9223372036854775807 < ((a0_0 ++ (⟨#[32]⟩ : ByteArray)) ++ a0_1).size + 9) = False := eq_false (Nat.not_lt.2 c12)
       try (have c12b3 := of_eq_false c12b2; simp only [ByteArray.size_append, show (⟨#[32]⟩ : ByteArray).size = 1 from rfl] at c12b3)
       replace H := Option.bind_eq_some_iff.mp H
       obtain ⟨⟨t241, t242⟩, A130, H⟩ := H
       (try dsimp only at H)
       have A13 := qH A130
       clear A130
       by_cases c14 : t242 = true
       ·subst c14
        have H1 : (some (t241, 0)) = some (r1, r2) := by rw [if_pos rfl] at H; exact H
        clear H
        have H := H1
        clear H1
        simp only [Option.some.injEq, Prod.mk.injEq] at H
        obtain ⟨rfl, rfl⟩ := H
        have hcz15_0 : wc.cell? ⟨gb238, 0, none⟩ = some (.string a0_0) := (qE BK238.out 0).trans rfl
        have hcz15_1 : wc.cell? ⟨gb238, 1, none⟩ = some (.string a0_1) := (qE BK238.out 1).trans rfl
        have hcz15_2 : wc.cell? ⟨gb238, 2, none⟩ = some (.slice A0_2 l0_2.length c0_2) := (qE BK238.out 2).trans rfl
        have hcz15_3 : wc.cell? ⟨gb238, 3, none⟩ = some (.string a0_3) := (qE BK238.out 3).trans rfl
        have hfz15_0 := qF BK238.out 0
        have hfz15_1 := qF BK238.out 1
        have hfz15_2 := qF BK238.out 2
        have hfz15_3 := qF BK238.out 3
        go_wp2_with (first | ((with_reducible refine gate_callee (f := 53) rfl ?_); refine goesL_ (some 28) rfl rfl Tryz.func53 (by kernel_rfl) rfl #[.string (((a0_0 ++ (⟨#[32]⟩ : ByteArray)) ++ a0_1) ++ (⟨#[32, 72, 84, 84, 80, 47, 49, 46, 49]⟩ : ByteArray)), .slice A0_2 l0_2.length c0_2, .string a0_3] rfl zz4 ?_; (with_reducible refine (codicilref29_bytes.calls kj1 (((a0_0 ++ (⟨#[32]⟩ : ByteArray)) ++ a0_1) ++ (⟨#[32, 72, 84, 84, 80, 47, 49, 46, 49]⟩ : ByteArray)) _ _ l0_2 a0_3 t241 true _ ?side1 ?side2 A13.out (HL.later zz67)).mono ?_); (case side1 => repeat (first | exact (Kd.C_below HR0_2.out HB.out) | (with_reducible refine Kd.C_alloc ?_ _) | (with_reducible refine Kd.C_drewN ?_ _) | (with_reducible refine Kd.C_drew ?_))); (case side2 => exact HC0_2.out); rintro e w16 ⟨rfl, hb⟩; refine ⟨_, rfl, ?_⟩; have n0_ := qH (qD (g := gb238) (by (with_reducible repeat first | apply qA | apply qC | apply qB); exact BK238.out) hb); have n1_ := qH (below_step zz67 hb); clear BK238; clear HB; have BK238 := n0_; have HB := n1_; clear n0_ n1_; (try clear hb); (try clear hb2); (try clear hk); (try clear hi)))
        go_ret2
        exact ⟨by first | rfl | (simp [errW_none, errW_some] <;> rfl) | (simp [*, errW_none, errW_some] <;> rfl), by repeat (first | (with_reducible first | exact HB.out | apply qL | apply qJ | apply qK | refine qI ?_ GE238.out) | exact HB.out)⟩
       ·replace c14 := Bool.eq_false_iff.mpr c14
        subst c14
        have H1 : (some ((⟨#[]⟩ : ByteArray), 2)) = some (r1, r2) := by rw [if_neg (show ¬ (false = true) by decide)] at H; exact H
        clear H
        have H := H1
        clear H1
        simp only [Option.some.injEq, Prod.mk.injEq] at H
        obtain ⟨rfl, rfl⟩ := H
        have hcz17_0 : wc.cell? ⟨gb238, 0, none⟩ = some (.string a0_0) := (qE BK238.out 0).trans rfl
        have hcz17_1 : wc.cell? ⟨gb238, 1, none⟩ = some (.string a0_1) := (qE BK238.out 1).trans rfl
        have hcz17_2 : wc.cell? ⟨gb238, 2, none⟩ = some (.slice A0_2 l0_2.length c0_2) := (qE BK238.out 2).trans rfl
        have hcz17_3 : wc.cell? ⟨gb238, 3, none⟩ = some (.string a0_3) := (qE BK238.out 3).trans rfl
        have hfz17_0 := qF BK238.out 0
        have hfz17_1 := qF BK238.out 1
        have hfz17_2 := qF BK238.out 2
        have hfz17_3 := qF BK238.out 3
        go_wp2_with (first | ((with_reducible refine gate_callee (f := 53) rfl ?_); refine goesL_ (some 28) rfl rfl Tryz.func53 (by kernel_rfl) rfl #[.string (((a0_0 ++ (⟨#[32]⟩ : ByteArray)) ++ a0_1) ++ (⟨#[32, 72, 84, 84, 80, 47, 49, 46, 49]⟩ : ByteArray)), .slice A0_2 l0_2.length c0_2, .string a0_3] rfl zz4 ?_; (with_reducible refine (codicilref29_bytes.calls kj1 (((a0_0 ++ (⟨#[32]⟩ : ByteArray)) ++ a0_1) ++ (⟨#[32, 72, 84, 84, 80, 47, 49, 46, 49]⟩ : ByteArray)) _ _ l0_2 a0_3 t241 false _ ?side1 ?side2 A13.out (HL.later zz67)).mono ?_); (case side1 => repeat (first | exact (Kd.C_below HR0_2.out HB.out) | (with_reducible refine Kd.C_alloc ?_ _) | (with_reducible refine Kd.C_drewN ?_ _) | (with_reducible refine Kd.C_drew ?_))); (case side2 => exact HC0_2.out); rintro e w18 ⟨rfl, hb⟩; refine ⟨_, rfl, ?_⟩; have n0_ := qH (qD (g := gb238) (by (with_reducible repeat first | apply qA | apply qC | apply qB); exact BK238.out) hb); have n1_ := qH (below_step zz67 hb); clear BK238; clear HB; have BK238 := n0_; have HB := n1_; clear n0_ n1_; (try clear hb); (try clear hb2); (try clear hk); (try clear hi)))
        go_ret2
        exact ⟨by first | rfl | (simp [errW_none, errW_some] <;> rfl) | (simp [*, errW_none, errW_some] <;> rfl), by repeat (first | (with_reducible first | exact HB.out | apply qL | apply qJ | apply qK | refine qI ?_ GE238.out) | exact HB.out)⟩
      ·rw [if_neg c12] at H
       exact absurd H zz65
     ·rw [if_neg c11] at H
      exact absurd H zz65
    ·rw [if_neg c10] at H
     exact absurd H zz65

end Go.Proofs.YtddjhmelniphgaaGreatDoor.Print
