-- Written by wip/tools/xprint.py of this session's repo (the kit's print, run with external functions). Lean checks it.
import Derived.Test.YtddjhmelniphgaaGreatDoorHAm
import Derived.Test.YtddjhmelniphgaaGreatDoorPrint0
import Derived.Test.YtddjhmelniphgaaGreatDoorPrint2
import Derived.Test.YtddjhmelniphgaaGreatDoorHTItoa
import Derived.Test.YtddjhmelniphgaaGreatDoorHTSmall
namespace Go.Proofs.YtddjhmelniphgaaGreatDoor.Print
open Go.RowKit Go.Proofs.YtddjhmelniphgaaGreatDoorW.PrintWords Go.Proofs.YtddjhmelniphgaaGreatDoorW.PrintLast Go.Proofs.YtddjhmelniphgaaGreatDoorW.PrintMore
attribute [local go_sem] max2_int min2_int max_two min_two max_three min_three max_four min_four   -- for this text's walks alone
set_option linter.unusedVariables false
set_option linter.unusedSimpArgs false

/-! ### codicilref29_value: function 72 -/
def codicilref29_value.l0 : Nat → ByteArray → Int → Option (Bool)
 | 0, _, _ => none
 | k + 1, x0, x3 => if x3 < (x0.size : Int) then (if 0 ≤ x3 then (if (bt x0 x3) < 32 then (if (bt x0 x3) = 9 then (codicilref29_value.l0 k x0 (wrap64 (x3 + 1))) else (some false)) else (if (bt x0 x3) > 126 then (if (bt x0 x3) = 9 then (codicilref29_value.l0 k x0 (wrap64 (x3 + 1))) else (some false)) else (codicilref29_value.l0 k x0 (wrap64 (x3 + 1))))) else (none)) else (if x0.toList = ([] : List UInt8) then (some true) else (if 0 < (x0.size : Int) then ((codicilref29_blank.f (bt x0 0)).bind fun t153 => (if t153 = true then (some false) else (if 0 ≤ (wrap64 ((x0.size : Int) - 1)) then (if (wrap64 ((x0.size : Int) - 1)) < (x0.size : Int) then ((codicilref29_blank.f (bt x0 (wrap64 ((x0.size : Int) - 1)))).bind fun t154 => (some (!t154))) else (none)) else (none)))) else (none)))
def codicilref29_value.f (k : Nat) (a0 : ByteArray) : Option (Bool) := codicilref29_value.l0 k a0 0
theorem codicilref29_value.mono_l : ∀ k, (∀ y0 y1, LeO (codicilref29_value.l0 k y0 y1) (codicilref29_value.l0 (k + 1) y0 y1))
 | 0 => fun _ _ r h => by simp [codicilref29_value.l0] at h
 | k + 1 => by
  have ih0 := codicilref29_value.mono_l k
  ·intro y0 y1
   unfold codicilref29_value.l0
   repeat' first
   | (with_reducible exact ih0 _ _)
   | (with_reducible exact LeO.refl _)
   | (with_reducible exact LeO.none _)
   | (with_reducible refine LeO.ite ?_ ?_)
   | (with_reducible refine LeO.bind ?_ (fun _ => ?_))
   | exact ih0 _ _
   | exact LeO.none _
   | refine LeO.ite ?_ ?_
   | refine LeO.bind ?_ (fun _ => ?_)
theorem codicilref29_value.mono : ∀ a0 k, LeO (codicilref29_value.f k a0) (codicilref29_value.f (k + 1) a0) := by
 intro a0 k
 have ih0 := codicilref29_value.mono_l k
 unfold codicilref29_value.f
 repeat' first
   | (with_reducible exact ih0 _ _)
   | (with_reducible exact LeO.refl _)
   | (with_reducible exact LeO.none _)
   | (with_reducible refine LeO.ite ?_ ?_)
   | (with_reducible refine LeO.bind ?_ (fun _ => ?_))
   | exact ih0 _ _
   | exact LeO.none _
   | refine LeO.ite ?_ ?_
   | refine LeO.bind ?_ (fun _ => ?_)
set_option maxHeartbeats 8000000 in
set_option maxRecDepth 100000 in
theorem codicilref29_value.calls (k : Nat) (a0 : ByteArray) (r : Bool) (w : World) (h : codicilref29_value.f k a0 = some r) :
  Calls Tryz.prog 72 #[.string a0] w fun e w' => e = .returned (.bool r) ∧ Drawn0 w w' := by
 have H : (codicilref29_value.l0 k a0 0) = some r := h
 clear h
 have H' := qH H
 clear H
 go_enter Tryz.func72, Tryz.ntmps72
 go_wp2
 go_loopg [3] k (fun kq v3 w' => ∃ (x3_1 : Int), v3 = .int .i64 x3_1 ∧ Aside0 (codicilref29_value.l0 kq a0 x3_1 = some r) ∧ Aside0 (kq ≤ k) ∧ Drawn0 w w')
 case atStart => exact ⟨(0), zz1, H', ⟨Nat.le_refl _⟩, by repeat (first | exact Drawn0.refl _ | apply Drawn0.step)⟩
 case round =>
  clear H'
  obtain ⟨x3_1, rfl, HA, HK1, ⟨m1, rfl⟩⟩ := hrel
  cases gk with
  | zero => exact absurd HA.out (by simp [codicilref29_value.l0])
  | succ k1 =>
   have H := HA.out
   clear HA
   simp only [codicilref29_value.l0] at H
   by_cases c2 : x3_1 < (a0.size : Int)
   ·rw [if_pos c2] at H
    have c2b0 : decide (x3_1 < (a0.size : Int)) = true := decide_eq_true c2
    clear c2
    by_cases c3 : 0 ≤ x3_1
    ·rw [if_pos c3] at H
     have c3b0 : decide (0 ≤ x3_1) = true := decide_eq_true c3
     clear c3
     by_cases c5 : (bt a0 x3_1) < 32
     ·rw [if_pos c5] at H
      have c5b0 : decide ((bt a0 x3_1) < 32) = true := decide_eq_true c5
      clear c5
      by_cases c7 : (bt a0 x3_1) = 9
      ·rw [if_pos c7] at H
       have c7b0 : ((bt a0 x3_1) == 9) = true := beq_iff_eq.mpr c7
       have c7b1 : ((bt a0 x3_1) != 9) = false := bne_eq_false_iff_eq.mpr c7
       clear c7
       have H' := qH H
       clear H
       have p4 : 0 ≤ (x3_1 : Int) := of_decide_eq_true zz0
       have q4 : x3_1 < (a0.size : Int) := of_decide_eq_true zz0
       have hx4 := bt_at a0 x3_1
       replace p4 := eq_true p4
       replace q4 := eq_true q4
       have p6 : 0 ≤ (x3_1 : Int) := of_decide_eq_true zz0
       have q6 : x3_1 < (a0.size : Int) := of_decide_eq_true zz0
       have hx6 := bt_at a0 x3_1
       replace p6 := eq_true p6
       replace q6 := eq_true q6
       go_wp2
       go_roundg k1
       case measure => have := HK1.out; omega
       case rel => exact ⟨(wrap64 (x3_1 + 1)), zz1, H', ⟨by have := HK1.out; omega⟩, by repeat (first | exact Drawn0.refl _ | apply Drawn0.step)⟩
      ·rw [if_neg c7] at H
       have c7b0 : ((bt a0 x3_1) == 9) = false := beq_eq_false_iff_ne.mpr c7
       have c7b1 : ((bt a0 x3_1) != 9) = true := bne_iff_ne.mpr c7
       obtain rfl := Option.some.inj H
       simp only [Option.some.injEq, Prod.mk.injEq] at H
       obtain ⟨rfl⟩ := H
       have p4 : 0 ≤ (x3_1 : Int) := of_decide_eq_true zz0
       have q4 : x3_1 < (a0.size : Int) := of_decide_eq_true zz0
       have hx4 := bt_at a0 x3_1
       replace p4 := eq_true p4
       replace q4 := eq_true q4
       have p6 : 0 ≤ (x3_1 : Int) := of_decide_eq_true zz0
       have q6 : x3_1 < (a0.size : Int) := of_decide_eq_true zz0
       have hx6 := bt_at a0 x3_1
       replace p6 := eq_true p6
       replace q6 := eq_true q6
       go_wp2
       go_ret
       exact ⟨by first | rfl | (simp; done) | (simp; exact qEmp _) | (simp [*]; done), by repeat (first | exact Drawn0.refl _ | apply Drawn0.step)⟩
     ·rw [if_neg c5] at H
      have c5b0 : decide ((bt a0 x3_1) < 32) = false := decide_eq_false c5
      clear c5
      by_cases c9 : (bt a0 x3_1) > 126
      ·rw [if_pos c9] at H
       have c9b0 : decide (126 < (bt a0 x3_1)) = true := decide_eq_true c9
       clear c9
       by_cases c11 : (bt a0 x3_1) = 9
       ·rw [if_pos c11] at H
        have c11b0 : ((bt a0 x3_1) == 9) = true := beq_iff_eq.mpr c11
        have c11b1 : ((bt a0 x3_1) != 9) = false := bne_eq_false_iff_eq.mpr c11
        clear c11
        have H' := qH H
        clear H
        have p4 : 0 ≤ (x3_1 : Int) := of_decide_eq_true zz0
        have q4 : x3_1 < (a0.size : Int) := of_decide_eq_true zz0
        have hx4 := bt_at a0 x3_1
        replace p4 := eq_true p4
        replace q4 := eq_true q4
        have p8 : 0 ≤ (x3_1 : Int) := of_decide_eq_true zz0
        have q8 : x3_1 < (a0.size : Int) := of_decide_eq_true zz0
        have hx8 := bt_at a0 x3_1
        replace p8 := eq_true p8
        replace q8 := eq_true q8
        have p10 : 0 ≤ (x3_1 : Int) := of_decide_eq_true zz0
        have q10 : x3_1 < (a0.size : Int) := of_decide_eq_true zz0
        have hx10 := bt_at a0 x3_1
        replace p10 := eq_true p10
        replace q10 := eq_true q10
        go_wp2
        go_roundg k1
        case measure => have := HK1.out; omega
        case rel => exact ⟨(wrap64 (x3_1 + 1)), zz1, H', ⟨by have := HK1.out; omega⟩, by repeat (first | exact Drawn0.refl _ | apply Drawn0.step)⟩
       ·rw [if_neg c11] at H
        have c11b0 : ((bt a0 x3_1) == 9) = false := beq_eq_false_iff_ne.mpr c11
        have c11b1 : ((bt a0 x3_1) != 9) = true := bne_iff_ne.mpr c11
        obtain rfl := Option.some.inj H
        simp only [Option.some.injEq, Prod.mk.injEq] at H
        obtain ⟨rfl⟩ := H
        have p4 : 0 ≤ (x3_1 : Int) := of_decide_eq_true zz0
        have q4 : x3_1 < (a0.size : Int) := of_decide_eq_true zz0
        have hx4 := bt_at a0 x3_1
        replace p4 := eq_true p4
        replace q4 := eq_true q4
        have p8 : 0 ≤ (x3_1 : Int) := of_decide_eq_true zz0
        have q8 : x3_1 < (a0.size : Int) := of_decide_eq_true zz0
        have hx8 := bt_at a0 x3_1
        replace p8 := eq_true p8
        replace q8 := eq_true q8
        have p10 : 0 ≤ (x3_1 : Int) := of_decide_eq_true zz0
        have q10 : x3_1 < (a0.size : Int) := of_decide_eq_true zz0
        have hx10 := bt_at a0 x3_1
        replace p10 := eq_true p10
        replace q10 := eq_true q10
        go_wp2
        go_ret
        exact ⟨by first | rfl | (simp; done) | (simp; exact qEmp _) | (simp [*]; done), by repeat (first | exact Drawn0.refl _ | apply Drawn0.step)⟩
      ·rw [if_neg c9] at H
       have c9b0 : decide (126 < (bt a0 x3_1)) = false := decide_eq_false c9
       clear c9
       have H' := qH H
       clear H
       have p4 : 0 ≤ (x3_1 : Int) := of_decide_eq_true zz0
       have q4 : x3_1 < (a0.size : Int) := of_decide_eq_true zz0
       have hx4 := bt_at a0 x3_1
       replace p4 := eq_true p4
       replace q4 := eq_true q4
       have p8 : 0 ≤ (x3_1 : Int) := of_decide_eq_true zz0
       have q8 : x3_1 < (a0.size : Int) := of_decide_eq_true zz0
       have hx8 := bt_at a0 x3_1
       replace p8 := eq_true p8
       replace q8 := eq_true q8
       go_wp2
       go_roundg k1
       case measure => have := HK1.out; omega
       case rel => exact ⟨(wrap64 (x3_1 + 1)), zz1, H', ⟨by have := HK1.out; omega⟩, by repeat (first | exact Drawn0.refl _ | apply Drawn0.step)⟩
    ·rw [if_neg c3] at H
     exact absurd H (by simp)
   ·rw [if_neg c2] at H
    have c2b0 : decide (x3_1 < (a0.size : Int)) = false := decide_eq_false c2
    clear c2
    by_cases c12 : a0.toList = ([] : List UInt8)
    ·rw [if_pos c12] at H
     have c12b0 : (a0.toList == ([] : List UInt8)) = true := beq_iff_eq.mpr c12
     have c12be : a0.toList.isEmpty = true := List.isEmpty_iff.mpr c12
     have c12b1 : (a0.toList != ([] : List UInt8)) = false := bne_eq_false_iff_eq.mpr c12
     clear c12
     obtain rfl := Option.some.inj H
     simp only [Option.some.injEq, Prod.mk.injEq] at H
     obtain ⟨rfl⟩ := H
     go_wp2
     go_ret
     exact ⟨by first | rfl | (simp; done) | (simp; exact qEmp _) | (simp [*]; done), by repeat (first | exact Drawn0.refl _ | apply Drawn0.step)⟩
    ·rw [if_neg c12] at H
     have c12b0 : (a0.toList == ([] : List UInt8)) = false := beq_eq_false_iff_ne.mpr c12
     have c12be : a0.toList.isEmpty = false := List.isEmpty_eq_false_iff.mpr c12
     have c12b1 : (a0.toList != ([] : List UInt8)) = true := bne_iff_ne.mpr c12
     by_cases c13 : 0 < (a0.size : Int)
     ·rw [if_pos c13] at H
      have c13b0 : decide (0 < (a0.size : Int)) = true := decide_eq_true c13
      have c13b1 : decide (0 < a0.size) = true := decide_eq_true (by omega)
      clear c13
      replace H := Option.bind_eq_some_iff.mp H
      obtain ⟨t153, A150, H⟩ := H
      (try dsimp only at H)
      have A15 := qH A150
      clear A150
      by_cases c16 : t153 = true
      ·subst c16
       have H1 : (some false) = some r := by rw [if_pos rfl] at H; exact H
       clear H
       have H := H1
       clear H1
       obtain rfl := Option.some.inj H
       simp only [Option.some.injEq, Prod.mk.injEq] at H
       obtain ⟨rfl⟩ := H
       have p14 : 0 ≤ (0 : Int) := (by omega)
       have q14 : 0 < a0.size := (by have : (0 : Int) < (a0.size : Int) := of_decide_eq_true zz0; omega)
       have hx14 : ∀ h : 0 < a0.size, ((a0[0]'h).toNat : Int) = bt a0 0 := bt_at a0 0
       clear p14
       have qi14 : (0 < (a0.size : Int)) = True := eq_true (of_decide_eq_true zz0)
       replace q14 := eq_true q14
       go_wp2_with (first | (go_at_call 105; (with_reducible refine (codicilref29_blank.calls (bt a0 0) true _ A15.out).mono ?_); rintro e w' ⟨rfl, ⟨nd, rfl⟩⟩))
       go_ret
       exact ⟨by first | rfl | (simp; done) | (simp; exact qEmp _) | (simp [*]; done), by repeat (first | exact Drawn0.refl _ | apply Drawn0.step)⟩
      ·replace c16 := Bool.eq_false_iff.mpr c16
       subst c16
       have H1 : (if 0 ≤ (wrap64 ((a0.size : Int) - 1)) then (if (wrap64 ((a0.size : Int) - 1)) < (a0.size : Int) then ((codicilref29_blank.f (bt a0 (wrap64 ((a0.size : Int) - 1)))).bind fun t154 => (some (!t154))) else (none)) else (none)) = some r := by rw [if_neg (show ¬ (false = true) by decide)] at H; exact H
       clear H
       have H := H1
       clear H1
       obtain ⟨ji17, hji17⟩ : ∃ j_ : Int, (wrap64 ((a0.size : Int) - 1)) = j_ := ⟨_, rfl⟩
       replace H : (if 0 ≤ (ji17) then (if (ji17) < (a0.size : Int) then ((codicilref29_blank.f (bt a0 (ji17))).bind fun t154 => (some (!t154))) else (none)) else (none)) = some r := by first | (rw [hji17] at H; exact H) | (simp only [hji17] at H ⊢; exact H)
       (try rw [hji17] at A15)
       have hji17w : (IntKind.i64.wrap ((a0.size : Int) - 1)) = ji17 := (i64_w _).trans hji17
       by_cases c18 : 0 ≤ (ji17)
       ·rw [if_pos c18] at H
        have c18b0 : decide (0 ≤ (ji17)) = true := decide_eq_true c18
        clear c18
        by_cases c19 : (ji17) < (a0.size : Int)
        ·rw [if_pos c19] at H
         have c19b0 : decide ((ji17) < (a0.size : Int)) = true := decide_eq_true c19
         clear c19
         replace H := Option.bind_eq_some_iff.mp H
         obtain ⟨t154, A210, H⟩ := H
         (try dsimp only at H)
         have A21 := qH A210
         clear A210
         obtain rfl := Option.some.inj H
         simp only [Option.some.injEq, Prod.mk.injEq] at H
         obtain ⟨rfl⟩ := H
         have p14 : 0 ≤ (0 : Int) := (by omega)
         have q14 : 0 < a0.size := (by have : (0 : Int) < (a0.size : Int) := of_decide_eq_true zz0; omega)
         have hx14 : ∀ h : 0 < a0.size, ((a0[0]'h).toNat : Int) = bt a0 0 := bt_at a0 0
         clear p14
         have qi14 : (0 < (a0.size : Int)) = True := eq_true (of_decide_eq_true zz0)
         replace q14 := eq_true q14
         go_wp2_with (first | (go_at_call 105; (with_reducible refine (codicilref29_blank.calls (bt a0 0) false _ A15.out).mono ?_); rintro e w' ⟨rfl, ⟨nd, rfl⟩⟩; have p20 : 0 ≤ ((ji17) : Int) := of_decide_eq_true zz0; have q20 : (ji17) < (a0.size : Int) := of_decide_eq_true zz0; have hx20 := bt_at a0 (ji17); replace p20 := eq_true p20; replace q20 := eq_true q20) | (go_at_call 105; (with_reducible refine (codicilref29_blank.calls (bt a0 (ji17)) t154 _ A21.out).mono ?_); rintro e w' ⟨rfl, ⟨nd, rfl⟩⟩))
         go_ret
         exact ⟨by first | rfl | (simp; done) | (simp only [← hji17] <;> (first | rfl | simp)) | (simp [*]; done), by repeat (first | exact Drawn0.refl _ | apply Drawn0.step)⟩
        ·rw [if_neg c19] at H
         exact absurd H (by simp)
       ·rw [if_neg c18] at H
        exact absurd H (by simp)
     ·rw [if_neg c13] at H
      exact absurd H (by simp)

/-! ### codicilref29_fields: function 79 -/
def codicilref29_fields.l0 : Nat → List (S59) → Int → Option (Bool)
 | 0, _, _ => none
 | k + 1, x0, x3 => if x3 < (x0.length : Int) then (if 0 ≤ x3 then ((codicilref29_token.f k ((rd_T59 x0 x3).f0)).bind fun t156 => (if t156 = true then ((codicilref29_small.f ((rd_T59 x0 x3).f0)).bind fun t157 => (if t157.toList = ((rd_T59 x0 x3).f0).toList then (if ((rd_T59 x0 x3).f0).toList = ([99, 111, 110, 116, 101, 110, 116, 45, 108, 101, 110, 103, 116, 104] : List UInt8) then (some false) else (if ((rd_T59 x0 x3).f0).toList = ([116, 114, 97, 110, 115, 102, 101, 114, 45, 101, 110, 99, 111, 100, 105, 110, 103] : List UInt8) then (some false) else ((codicilref29_value.f k ((rd_T59 x0 x3).f1)).bind fun t159 => (if t159 = true then (codicilref29_fields.l0 k x0 (wrap64 (x3 + 1))) else (some false))))) else (some false))) else (some false))) else (none)) else (some (decide ((x0.length : Int) < 64)))
def codicilref29_fields.f (k : Nat) (l0 : List (S59)) : Option (Bool) := codicilref29_fields.l0 k l0 0
theorem codicilref29_fields.mono_l : ∀ k, (∀ y0 y1, LeO (codicilref29_fields.l0 k y0 y1) (codicilref29_fields.l0 (k + 1) y0 y1))
 | 0 => fun _ _ r h => by simp [codicilref29_fields.l0] at h
 | k + 1 => by
  have ih0 := codicilref29_fields.mono_l k
  ·intro y0 y1
   unfold codicilref29_fields.l0
   repeat' first
   | (with_reducible exact ih0 _ _)
   | (with_reducible exact codicilref29_token.mono _ _)
   | (with_reducible exact codicilref29_value.mono _ _)
   | (with_reducible exact LeO.refl _)
   | (with_reducible exact LeO.none _)
   | (with_reducible refine LeO.ite ?_ ?_)
   | (with_reducible refine LeO.bind ?_ (fun _ => ?_))
   | exact ih0 _ _
   | exact codicilref29_token.mono _ _
   | exact codicilref29_value.mono _ _
   | exact LeO.none _
   | refine LeO.ite ?_ ?_
   | refine LeO.bind ?_ (fun _ => ?_)
theorem codicilref29_fields.mono : ∀ a0 k, LeO (codicilref29_fields.f k a0) (codicilref29_fields.f (k + 1) a0) := by
 intro a0 k
 have ih0 := codicilref29_fields.mono_l k
 unfold codicilref29_fields.f
 repeat' first
   | (with_reducible exact ih0 _ _)
   | (with_reducible exact codicilref29_token.mono _ _)
   | (with_reducible exact codicilref29_value.mono _ _)
   | (with_reducible exact LeO.refl _)
   | (with_reducible exact LeO.none _)
   | (with_reducible refine LeO.ite ?_ ?_)
   | (with_reducible refine LeO.bind ?_ (fun _ => ?_))
   | exact ih0 _ _
   | exact codicilref29_token.mono _ _
   | exact codicilref29_value.mono _ _
   | exact LeO.none _
   | refine LeO.ite ?_ ?_
   | refine LeO.bind ?_ (fun _ => ?_)
set_option maxHeartbeats 8000000 in
set_option maxRecDepth 100000 in
theorem codicilref29_fields.calls (k : Nat) (A0 : Option Addr) (c0 : Nat) (l0 : List (S59)) (r : Bool) (w : World) (hr0 : Kd.C k59 w A0 l0.length l0) (hc0 : l0.length ≤ c0) (h : codicilref29_fields.f k l0 = some r) :
  Calls Tryz.prog 79 #[.slice A0 l0.length c0] w fun e w' => e = .returned (.bool r) ∧ Below w.heap.size w w' := by
 have HR0 := qH hr0
 have HC0 := qH hc0
 clear hr0 hc0
 have HB := qH (Below.refl w.heap.size w)
 have H : (codicilref29_fields.l0 k l0 0) = some r := h
 clear h
 have H' := qH H
 clear H
 go_enter Tryz.func79, Tryz.ntmps79
 go_wp2
 go_loopg [3] k (fun kq v3 w' => ∃ (x3_1 : Int), v3 = .int .i64 x3_1 ∧ Aside0 (codicilref29_fields.l0 kq l0 x3_1 = some r) ∧ Aside0 (kq ≤ k) ∧ Aside0 (Below w.heap.size w w'))
 case atStart => exact ⟨(0), zz1, H', ⟨Nat.le_refl _⟩, ⟨by repeat (first | (with_reducible first | exact HB.out | apply qL | apply qJ | apply qK) | exact HB.out)⟩⟩
 case round =>
  clear H'
  obtain ⟨x3_1, rfl, HA, HK1, HB⟩ := hrel
  cases gk with
  | zero => exact absurd HA.out (by simp [codicilref29_fields.l0])
  | succ k1 =>
   have H := HA.out
   clear HA
   simp only [codicilref29_fields.l0] at H
   by_cases c2 : x3_1 < (l0.length : Int)
   ·rw [if_pos c2] at H
    have c2b0 : decide (x3_1 < (l0.length : Int)) = true := decide_eq_true c2
    clear c2
    by_cases c3 : 0 ≤ x3_1
    ·rw [if_pos c3] at H
     have c3b0 : decide (0 ≤ x3_1) = true := decide_eq_true c3
     clear c3
     replace H := Option.bind_eq_some_iff.mp H
     obtain ⟨t156, A40, H⟩ := H
     (try dsimp only at H)
     have A4 := qH A40
     clear A40
     by_cases c5 : t156 = true
     ·subst c5
      have H1 : ((codicilref29_small.f ((rd_T59 l0 x3_1).f0)).bind fun t157 => (if t157.toList = ((rd_T59 l0 x3_1).f0).toList then (if ((rd_T59 l0 x3_1).f0).toList = ([99, 111, 110, 116, 101, 110, 116, 45, 108, 101, 110, 103, 116, 104] : List UInt8) then (some false) else (if ((rd_T59 l0 x3_1).f0).toList = ([116, 114, 97, 110, 115, 102, 101, 114, 45, 101, 110, 99, 111, 100, 105, 110, 103] : List UInt8) then (some false) else ((codicilref29_value.f k1 ((rd_T59 l0 x3_1).f1)).bind fun t159 => (if t159 = true then (codicilref29_fields.l0 k1 l0 (wrap64 (x3_1 + 1))) else (some false))))) else (some false))) = some r := by rw [if_pos rfl] at H; exact H
      clear H
      have H := H1
      clear H1
      replace H := Option.bind_eq_some_iff.mp H
      obtain ⟨t157, A60, H⟩ := H
      (try dsimp only at H)
      have A6 := qH A60
      clear A60
      by_cases c7 : t157.toList = ((rd_T59 l0 x3_1).f0).toList
      ·rw [if_pos c7] at H
       have c7b0 : (t157.toList == ((rd_T59 l0 x3_1).f0).toList) = true := beq_iff_eq.mpr c7
       have c7b1 : (t157.toList != ((rd_T59 l0 x3_1).f0).toList) = false := bne_eq_false_iff_eq.mpr c7
       clear c7
       by_cases c8 : ((rd_T59 l0 x3_1).f0).toList = ([99, 111, 110, 116, 101, 110, 116, 45, 108, 101, 110, 103, 116, 104] : List UInt8)
       ·rw [if_pos c8] at H
        have c8b0 : (((rd_T59 l0 x3_1).f0).toList == ([99, 111, 110, 116, 101, 110, 116, 45, 108, 101, 110, 103, 116, 104] : List UInt8)) = true := beq_iff_eq.mpr c8
        have c8b1 : (((rd_T59 l0 x3_1).f0).toList != ([99, 111, 110, 116, 101, 110, 116, 45, 108, 101, 110, 103, 116, 104] : List UInt8)) = false := bne_eq_false_iff_eq.mpr c8
        clear c8
        obtain rfl := Option.some.inj H
        simp only [Option.some.injEq, Prod.mk.injEq] at H
        obtain ⟨rfl⟩ := H
        have p155 : 0 ≤ (x3_1 : Int) := of_decide_eq_true zz0
        have q155 : x3_1 < (l0.length : Int) := of_decide_eq_true zz0
        obtain ⟨ad155, e155, hx155_0, hx155_1⟩ := at_T59 HR0.out x3_1 p155 q155
        cases e155
        replace hx155_0 := (HB.out.cell (qO w _ hx155_0)).trans hx155_0
        replace hx155_1 := (HB.out.cell (qO w _ hx155_1)).trans hx155_1
        replace p155 := eq_true p155
        replace q155 := eq_true q155
        go_wp2_with (first | ((with_reducible refine gate_callee (f := 52) rfl ?_); refine goesL_ (some 17) rfl rfl Tryz.func52 (by kernel_rfl) rfl #[.string ((rd_T59 l0 x3_1).f0)] rfl zz2 ?_; (with_reducible refine (codicilref29_token.calls k1 ((rd_T59 l0 x3_1).f0) true _ A4.out).mono ?_); rintro e w' ⟨rfl, ⟨nd, rfl⟩⟩; refine ⟨_, rfl, ?_⟩) | (go_at_call 97; (with_reducible refine (codicilref29_small.calls ((rd_T59 l0 x3_1).f0) t157 _ A6.out).mono ?_); rintro e w9 ⟨rfl, hb⟩; have n0_ := qH (below_step zz3 hb); clear HB; have HB := n0_; clear n0_; (try clear hb); (try clear hb2); (try clear hk); (try clear hi)))
        go_ret
        exact ⟨by first | rfl | (simp [errW_none, errW_some] <;> rfl) | (simp [*, errW_none, errW_some] <;> rfl), by repeat (first | (with_reducible first | exact HB.out | apply qL | apply qJ | apply qK) | exact HB.out)⟩
       ·rw [if_neg c8] at H
        have c8b0 : (((rd_T59 l0 x3_1).f0).toList == ([99, 111, 110, 116, 101, 110, 116, 45, 108, 101, 110, 103, 116, 104] : List UInt8)) = false := beq_eq_false_iff_ne.mpr c8
        have c8b1 : (((rd_T59 l0 x3_1).f0).toList != ([99, 111, 110, 116, 101, 110, 116, 45, 108, 101, 110, 103, 116, 104] : List UInt8)) = true := bne_iff_ne.mpr c8
        by_cases c10 : ((rd_T59 l0 x3_1).f0).toList = ([116, 114, 97, 110, 115, 102, 101, 114, 45, 101, 110, 99, 111, 100, 105, 110, 103] : List UInt8)
        ·rw [if_pos c10] at H
         have c10b0 : (((rd_T59 l0 x3_1).f0).toList == ([116, 114, 97, 110, 115, 102, 101, 114, 45, 101, 110, 99, 111, 100, 105, 110, 103] : List UInt8)) = true := beq_iff_eq.mpr c10
         have c10b1 : (((rd_T59 l0 x3_1).f0).toList != ([116, 114, 97, 110, 115, 102, 101, 114, 45, 101, 110, 99, 111, 100, 105, 110, 103] : List UInt8)) = false := bne_eq_false_iff_eq.mpr c10
         clear c10
         obtain rfl := Option.some.inj H
         simp only [Option.some.injEq, Prod.mk.injEq] at H
         obtain ⟨rfl⟩ := H
         have p155 : 0 ≤ (x3_1 : Int) := of_decide_eq_true zz0
         have q155 : x3_1 < (l0.length : Int) := of_decide_eq_true zz0
         obtain ⟨ad155, e155, hx155_0, hx155_1⟩ := at_T59 HR0.out x3_1 p155 q155
         cases e155
         replace hx155_0 := (HB.out.cell (qO w _ hx155_0)).trans hx155_0
         replace hx155_1 := (HB.out.cell (qO w _ hx155_1)).trans hx155_1
         replace p155 := eq_true p155
         replace q155 := eq_true q155
         go_wp2_with (first | ((with_reducible refine gate_callee (f := 52) rfl ?_); refine goesL_ (some 17) rfl rfl Tryz.func52 (by kernel_rfl) rfl #[.string ((rd_T59 l0 x3_1).f0)] rfl zz2 ?_; (with_reducible refine (codicilref29_token.calls k1 ((rd_T59 l0 x3_1).f0) true _ A4.out).mono ?_); rintro e w' ⟨rfl, ⟨nd, rfl⟩⟩; refine ⟨_, rfl, ?_⟩) | (go_at_call 97; (with_reducible refine (codicilref29_small.calls ((rd_T59 l0 x3_1).f0) t157 _ A6.out).mono ?_); rintro e w11 ⟨rfl, hb⟩; have n0_ := qH (below_step zz3 hb); clear HB; have HB := n0_; clear n0_; (try clear hb); (try clear hb2); (try clear hk); (try clear hi)))
         go_ret
         exact ⟨by first | rfl | (simp [errW_none, errW_some] <;> rfl) | (simp [*, errW_none, errW_some] <;> rfl), by repeat (first | (with_reducible first | exact HB.out | apply qL | apply qJ | apply qK) | exact HB.out)⟩
        ·rw [if_neg c10] at H
         have c10b0 : (((rd_T59 l0 x3_1).f0).toList == ([116, 114, 97, 110, 115, 102, 101, 114, 45, 101, 110, 99, 111, 100, 105, 110, 103] : List UInt8)) = false := beq_eq_false_iff_ne.mpr c10
         have c10b1 : (((rd_T59 l0 x3_1).f0).toList != ([116, 114, 97, 110, 115, 102, 101, 114, 45, 101, 110, 99, 111, 100, 105, 110, 103] : List UInt8)) = true := bne_iff_ne.mpr c10
         replace H := Option.bind_eq_some_iff.mp H
         obtain ⟨t159, A120, H⟩ := H
         (try dsimp only at H)
         have A12 := qH A120
         clear A120
         by_cases c13 : t159 = true
         ·subst c13
          have H1 : (codicilref29_fields.l0 k1 l0 (wrap64 (x3_1 + 1))) = some r := by rw [if_pos rfl] at H; exact H
          clear H
          have H := H1
          clear H1
          have H' := qH H
          clear H
          have p155 : 0 ≤ (x3_1 : Int) := of_decide_eq_true zz0
          have q155 : x3_1 < (l0.length : Int) := of_decide_eq_true zz0
          obtain ⟨ad155, e155, hx155_0, hx155_1⟩ := at_T59 HR0.out x3_1 p155 q155
          cases e155
          replace hx155_0 := (HB.out.cell (qO w _ hx155_0)).trans hx155_0
          replace hx155_1 := (HB.out.cell (qO w _ hx155_1)).trans hx155_1
          replace p155 := eq_true p155
          replace q155 := eq_true q155
          go_wp2_with (first | ((with_reducible refine gate_callee (f := 52) rfl ?_); refine goesL_ (some 17) rfl rfl Tryz.func52 (by kernel_rfl) rfl #[.string ((rd_T59 l0 x3_1).f0)] rfl zz2 ?_; (with_reducible refine (codicilref29_token.calls k1 ((rd_T59 l0 x3_1).f0) true _ A4.out).mono ?_); rintro e w' ⟨rfl, ⟨nd, rfl⟩⟩; refine ⟨_, rfl, ?_⟩) | (go_at_call 97; (with_reducible refine (codicilref29_small.calls ((rd_T59 l0 x3_1).f0) t157 _ A6.out).mono ?_); rintro e w14 ⟨rfl, hb⟩; have n0_ := qH (below_step zz3 hb); clear HB; have HB := n0_; clear n0_; (try clear hb); (try clear hb2); (try clear hk); (try clear hi); have p158 : 0 ≤ (x3_1 : Int) := of_decide_eq_true zz0; have q158 : x3_1 < (l0.length : Int) := of_decide_eq_true zz0; obtain ⟨ad158, e158, hx158_0, hx158_1⟩ := at_T59 HR0.out x3_1 p158 q158; obtain rfl : ad155 = ad158 := (by injection e158); replace hx158_0 := (HB.out.cell (qO w _ hx158_0)).trans hx158_0; replace hx158_1 := (HB.out.cell (qO w _ hx158_1)).trans hx158_1; replace p158 := eq_true p158; replace q158 := eq_true q158) | (go_at_call 72; (with_reducible refine (codicilref29_value.calls k1 ((rd_T59 l0 x3_1).f1) true _ A12.out).mono ?_); rintro e w' ⟨rfl, ⟨nd, rfl⟩⟩))
          go_roundg k1
          case measure => have := HK1.out; omega
          case rel => exact ⟨(wrap64 (x3_1 + 1)), zz1, H', ⟨by have := HK1.out; omega⟩, ⟨by repeat (first | (with_reducible first | exact HB.out | apply qL | apply qJ | apply qK) | exact HB.out)⟩⟩
         ·replace c13 := Bool.eq_false_iff.mpr c13
          subst c13
          have H1 : (some false) = some r := by rw [if_neg (show ¬ (false = true) by decide)] at H; exact H
          clear H
          have H := H1
          clear H1
          obtain rfl := Option.some.inj H
          simp only [Option.some.injEq, Prod.mk.injEq] at H
          obtain ⟨rfl⟩ := H
          have p155 : 0 ≤ (x3_1 : Int) := of_decide_eq_true zz0
          have q155 : x3_1 < (l0.length : Int) := of_decide_eq_true zz0
          obtain ⟨ad155, e155, hx155_0, hx155_1⟩ := at_T59 HR0.out x3_1 p155 q155
          cases e155
          replace hx155_0 := (HB.out.cell (qO w _ hx155_0)).trans hx155_0
          replace hx155_1 := (HB.out.cell (qO w _ hx155_1)).trans hx155_1
          replace p155 := eq_true p155
          replace q155 := eq_true q155
          go_wp2_with (first | ((with_reducible refine gate_callee (f := 52) rfl ?_); refine goesL_ (some 17) rfl rfl Tryz.func52 (by kernel_rfl) rfl #[.string ((rd_T59 l0 x3_1).f0)] rfl zz2 ?_; (with_reducible refine (codicilref29_token.calls k1 ((rd_T59 l0 x3_1).f0) true _ A4.out).mono ?_); rintro e w' ⟨rfl, ⟨nd, rfl⟩⟩; refine ⟨_, rfl, ?_⟩) | (go_at_call 97; (with_reducible refine (codicilref29_small.calls ((rd_T59 l0 x3_1).f0) t157 _ A6.out).mono ?_); rintro e w15 ⟨rfl, hb⟩; have n0_ := qH (below_step zz3 hb); clear HB; have HB := n0_; clear n0_; (try clear hb); (try clear hb2); (try clear hk); (try clear hi); have p158 : 0 ≤ (x3_1 : Int) := of_decide_eq_true zz0; have q158 : x3_1 < (l0.length : Int) := of_decide_eq_true zz0; obtain ⟨ad158, e158, hx158_0, hx158_1⟩ := at_T59 HR0.out x3_1 p158 q158; obtain rfl : ad155 = ad158 := (by injection e158); replace hx158_0 := (HB.out.cell (qO w _ hx158_0)).trans hx158_0; replace hx158_1 := (HB.out.cell (qO w _ hx158_1)).trans hx158_1; replace p158 := eq_true p158; replace q158 := eq_true q158) | (go_at_call 72; (with_reducible refine (codicilref29_value.calls k1 ((rd_T59 l0 x3_1).f1) false _ A12.out).mono ?_); rintro e w' ⟨rfl, ⟨nd, rfl⟩⟩))
          go_ret
          exact ⟨by first | rfl | (simp [errW_none, errW_some] <;> rfl) | (simp [*, errW_none, errW_some] <;> rfl), by repeat (first | (with_reducible first | exact HB.out | apply qL | apply qJ | apply qK) | exact HB.out)⟩
      ·rw [if_neg c7] at H
       have c7b0 : (t157.toList == ((rd_T59 l0 x3_1).f0).toList) = false := beq_eq_false_iff_ne.mpr c7
       have c7b1 : (t157.toList != ((rd_T59 l0 x3_1).f0).toList) = true := bne_iff_ne.mpr c7
       obtain rfl := Option.some.inj H
       simp only [Option.some.injEq, Prod.mk.injEq] at H
       obtain ⟨rfl⟩ := H
       have p155 : 0 ≤ (x3_1 : Int) := of_decide_eq_true zz0
       have q155 : x3_1 < (l0.length : Int) := of_decide_eq_true zz0
       obtain ⟨ad155, e155, hx155_0, hx155_1⟩ := at_T59 HR0.out x3_1 p155 q155
       cases e155
       replace hx155_0 := (HB.out.cell (qO w _ hx155_0)).trans hx155_0
       replace hx155_1 := (HB.out.cell (qO w _ hx155_1)).trans hx155_1
       replace p155 := eq_true p155
       replace q155 := eq_true q155
       go_wp2_with (first | ((with_reducible refine gate_callee (f := 52) rfl ?_); refine goesL_ (some 17) rfl rfl Tryz.func52 (by kernel_rfl) rfl #[.string ((rd_T59 l0 x3_1).f0)] rfl zz2 ?_; (with_reducible refine (codicilref29_token.calls k1 ((rd_T59 l0 x3_1).f0) true _ A4.out).mono ?_); rintro e w' ⟨rfl, ⟨nd, rfl⟩⟩; refine ⟨_, rfl, ?_⟩) | (go_at_call 97; (with_reducible refine (codicilref29_small.calls ((rd_T59 l0 x3_1).f0) t157 _ A6.out).mono ?_); rintro e w16 ⟨rfl, hb⟩; have n0_ := qH (below_step zz3 hb); clear HB; have HB := n0_; clear n0_; (try clear hb); (try clear hb2); (try clear hk); (try clear hi)))
       go_ret
       exact ⟨by first | rfl | (simp [errW_none, errW_some] <;> rfl) | (simp [*, errW_none, errW_some] <;> rfl), by repeat (first | (with_reducible first | exact HB.out | apply qL | apply qJ | apply qK) | exact HB.out)⟩
     ·replace c5 := Bool.eq_false_iff.mpr c5
      subst c5
      have H1 : (some false) = some r := by rw [if_neg (show ¬ (false = true) by decide)] at H; exact H
      clear H
      have H := H1
      clear H1
      obtain rfl := Option.some.inj H
      simp only [Option.some.injEq, Prod.mk.injEq] at H
      obtain ⟨rfl⟩ := H
      have p155 : 0 ≤ (x3_1 : Int) := of_decide_eq_true zz0
      have q155 : x3_1 < (l0.length : Int) := of_decide_eq_true zz0
      obtain ⟨ad155, e155, hx155_0, hx155_1⟩ := at_T59 HR0.out x3_1 p155 q155
      cases e155
      replace hx155_0 := (HB.out.cell (qO w _ hx155_0)).trans hx155_0
      replace hx155_1 := (HB.out.cell (qO w _ hx155_1)).trans hx155_1
      replace p155 := eq_true p155
      replace q155 := eq_true q155
      go_wp2_with (first | ((with_reducible refine gate_callee (f := 52) rfl ?_); refine goesL_ (some 17) rfl rfl Tryz.func52 (by kernel_rfl) rfl #[.string ((rd_T59 l0 x3_1).f0)] rfl zz2 ?_; (with_reducible refine (codicilref29_token.calls k1 ((rd_T59 l0 x3_1).f0) false _ A4.out).mono ?_); rintro e w' ⟨rfl, ⟨nd, rfl⟩⟩; refine ⟨_, rfl, ?_⟩))
      go_ret
      exact ⟨by first | rfl | (simp [errW_none, errW_some] <;> rfl) | (simp [*, errW_none, errW_some] <;> rfl), by repeat (first | (with_reducible first | exact HB.out | apply qL | apply qJ | apply qK) | exact HB.out)⟩
    ·rw [if_neg c3] at H
     exact absurd H (by simp)
   ·rw [if_neg c2] at H
    have c2b0 : decide (x3_1 < (l0.length : Int)) = false := decide_eq_false c2
    clear c2
    obtain rfl := Option.some.inj H
    simp only [Option.some.injEq, Prod.mk.injEq] at H
    obtain ⟨rfl⟩ := H
    go_wp2
    go_ret
    exact ⟨by first | rfl | (simp [errW_none, errW_some] <;> rfl) | (simp [*, errW_none, errW_some] <;> rfl), by repeat (first | (with_reducible first | exact HB.out | apply qL | apply qJ | apply qK) | exact HB.out)⟩

/-! ### codicilref29_bytes: function 53 -/
mutual
def codicilref29_bytes.j0 : Nat → ByteArray → List (S59) → ByteArray → Bool → Option (ByteArray × Bool)
 | 0, _, _, _, _ => none
 | k + 1, x0, x1, x2, x17 => if x17 = true then (some ((⟨#[]⟩ : ByteArray), false)) else (if x0.size + 2 ≤ 9223372036854775807 then (codicilref29_bytes.l0 k x1 x2 (x0 ++ (⟨#[13, 10]⟩ : ByteArray)) 0) else (none))
def codicilref29_bytes.l0 : Nat → List (S59) → ByteArray → ByteArray → Int → Option (ByteArray × Bool)
 | 0, _, _, _, _ => none
 | k + 1, x1, x2, x8, x9 => if x9 < (x1.length : Int) then (if 0 ≤ x9 then (if x8.size + ((rd_T59 x1 x9).f0).size ≤ 9223372036854775807 then (if (x8 ++ ((rd_T59 x1 x9).f0)).size + 2 ≤ 9223372036854775807 then (if ((x8 ++ ((rd_T59 x1 x9).f0)) ++ (⟨#[58, 32]⟩ : ByteArray)).size + ((rd_T59 x1 x9).f1).size ≤ 9223372036854775807 then (if (((x8 ++ ((rd_T59 x1 x9).f0)) ++ (⟨#[58, 32]⟩ : ByteArray)) ++ ((rd_T59 x1 x9).f1)).size + 2 ≤ 9223372036854775807 then (codicilref29_bytes.l0 k x1 x2 ((((x8 ++ ((rd_T59 x1 x9).f0)) ++ (⟨#[58, 32]⟩ : ByteArray)) ++ ((rd_T59 x1 x9).f1)) ++ (⟨#[13, 10]⟩ : ByteArray)) (wrap64 (x9 + 1))) else (none)) else (none)) else (none)) else (none)) else (none)) else (if x8.size + 16 ≤ 9223372036854775807 then ((strconv_Itoa.f (x2.size : Int)).bind fun t163 => (if (x8 ++ (⟨#[99, 111, 110, 116, 101, 110, 116, 45, 108, 101, 110, 103, 116, 104, 58, 32]⟩ : ByteArray)).size + t163.size ≤ 9223372036854775807 then (if ((x8 ++ (⟨#[99, 111, 110, 116, 101, 110, 116, 45, 108, 101, 110, 103, 116, 104, 58, 32]⟩ : ByteArray)) ++ t163).size + 4 ≤ 9223372036854775807 then (if (((x8 ++ (⟨#[99, 111, 110, 116, 101, 110, 116, 45, 108, 101, 110, 103, 116, 104, 58, 32]⟩ : ByteArray)) ++ t163) ++ (⟨#[13, 10, 13, 10]⟩ : ByteArray)).size + x2.size ≤ 9223372036854775807 then (some ((((x8 ++ (⟨#[99, 111, 110, 116, 101, 110, 116, 45, 108, 101, 110, 103, 116, 104, 58, 32]⟩ : ByteArray)) ++ t163) ++ (⟨#[13, 10, 13, 10]⟩ : ByteArray)) ++ x2, decide (((((x8 ++ (⟨#[99, 111, 110, 116, 101, 110, 116, 45, 108, 101, 110, 103, 116, 104, 58, 32]⟩ : ByteArray)) ++ t163) ++ (⟨#[13, 10, 13, 10]⟩ : ByteArray)).size : Int) ≤ 8192))) else (none)) else (none)) else (none))) else (none))
end
def codicilref29_bytes.f (k : Nat) (a0 : ByteArray) (l1 : List (S59)) (a2 : ByteArray) : Option (ByteArray × Bool) := (codicilref29_fields.f k l1).bind fun t160 => (if t160 = true then (codicilref29_bytes.j0 k a0 l1 a2 (decide ((a2.size : Int) > 65536))) else (codicilref29_bytes.j0 k a0 l1 a2 true))
theorem codicilref29_bytes.mono_l : ∀ k, (∀ y0 y1 y2 y3, LeO (codicilref29_bytes.j0 k y0 y1 y2 y3) (codicilref29_bytes.j0 (k + 1) y0 y1 y2 y3)) ∧ (∀ y0 y1 y2 y3, LeO (codicilref29_bytes.l0 k y0 y1 y2 y3) (codicilref29_bytes.l0 (k + 1) y0 y1 y2 y3))
 | 0 => ⟨fun _ _ _ _ r h => by simp [codicilref29_bytes.j0] at h, fun _ _ _ _ r h => by simp [codicilref29_bytes.l0] at h⟩
 | k + 1 => by
  obtain ⟨ih0, ih1⟩ := codicilref29_bytes.mono_l k
  refine ⟨?_, ?_⟩
  ·intro y0 y1 y2 y3
   unfold codicilref29_bytes.j0
   repeat' first
   | (with_reducible exact ih0 _ _ _ _)
   | (with_reducible exact ih1 _ _ _ _)
   | (with_reducible exact codicilref29_fields.mono _ _)
   | (with_reducible exact LeO.refl _)
   | (with_reducible exact LeO.none _)
   | (with_reducible refine LeO.ite ?_ ?_)
   | (with_reducible refine LeO.bind ?_ (fun _ => ?_))
   | exact ih0 _ _ _ _
   | exact ih1 _ _ _ _
   | exact codicilref29_fields.mono _ _
   | exact LeO.none _
   | refine LeO.ite ?_ ?_
   | refine LeO.bind ?_ (fun _ => ?_)
  ·intro y0 y1 y2 y3
   unfold codicilref29_bytes.l0
   repeat' first
   | (with_reducible exact ih0 _ _ _ _)
   | (with_reducible exact ih1 _ _ _ _)
   | (with_reducible exact codicilref29_fields.mono _ _)
   | (with_reducible exact LeO.refl _)
   | (with_reducible exact LeO.none _)
   | (with_reducible refine LeO.ite ?_ ?_)
   | (with_reducible refine LeO.bind ?_ (fun _ => ?_))
   | exact ih0 _ _ _ _
   | exact ih1 _ _ _ _
   | exact codicilref29_fields.mono _ _
   | exact LeO.none _
   | refine LeO.ite ?_ ?_
   | refine LeO.bind ?_ (fun _ => ?_)
theorem codicilref29_bytes.mono : ∀ a0 a1 a2 k, LeO (codicilref29_bytes.f k a0 a1 a2) (codicilref29_bytes.f (k + 1) a0 a1 a2) := by
 intro a0 a1 a2 k
 obtain ⟨ih0, ih1⟩ := codicilref29_bytes.mono_l k
 unfold codicilref29_bytes.f
 repeat' first
   | (with_reducible exact ih0 _ _ _ _)
   | (with_reducible exact ih1 _ _ _ _)
   | (with_reducible exact codicilref29_fields.mono _ _)
   | (with_reducible exact LeO.refl _)
   | (with_reducible exact LeO.none _)
   | (with_reducible refine LeO.ite ?_ ?_)
   | (with_reducible refine LeO.bind ?_ (fun _ => ?_))
   | exact ih0 _ _ _ _
   | exact ih1 _ _ _ _
   | exact codicilref29_fields.mono _ _
   | exact LeO.none _
   | refine LeO.ite ?_ ?_
   | refine LeO.bind ?_ (fun _ => ?_)
set_option maxHeartbeats 8000000 in
set_option maxRecDepth 100000 in
theorem codicilref29_bytes.calls (k : Nat) (a0 : ByteArray) (A1 : Option Addr) (c1 : Nat) (l1 : List (S59)) (a2 : ByteArray) (r1 : ByteArray) (r2 : Bool) (w : World) (hr1 : Kd.C k59 w A1 l1.length l1) (hc1 : l1.length ≤ c1) (h : codicilref29_bytes.f k a0 l1 a2 = some (r1, r2)) (HL : Laid0 w) :
  Calls Tryz.prog 53 #[.string a0, .slice A1 l1.length c1, .string a2] w fun e w' => e = .returned (.tuple #[.string r1, .bool r2]) ∧ Below w.heap.size w w' := by
 have HR1 := qH hr1
 have HC1 := qH hc1
 clear hr1 hc1
 have HB := qH (Below.refl w.heap.size w)
 have H : ((codicilref29_fields.f k l1).bind fun t160 => (if t160 = true then (codicilref29_bytes.j0 k a0 l1 a2 (decide ((a2.size : Int) > 65536))) else (codicilref29_bytes.j0 k a0 l1 a2 true))) = some (r1, r2) := h
 clear h
 have HC4 := qH H
 clear H
 go_enter Tryz.func53, Tryz.ntmps53
 go_upto_region 1 with (fail)
 repeat (go_quiet (fail); go_upto_region 1 with (fail))
 go_cut [17] (fun v17 wc => ∃ (kq : Nat) (x17_3 : Bool), v17 = .bool x17_3 ∧ Aside0 (codicilref29_bytes.j0 kq a0 l1 a2 x17_3 = some (r1, r2)) ∧ Aside0 (kq ≤ k) ∧ Aside0 (Below w.heap.size w wc))
 case first =>
  have H := HC4.out
  clear HC4
  replace H := Option.bind_eq_some_iff.mp H
  obtain ⟨t160, A50, H⟩ := H
  (try dsimp only at H)
  have A5 := qH A50
  clear A50
  by_cases c6 : t160 = true
  ·subst c6
   have H1 : (codicilref29_bytes.j0 k a0 l1 a2 (decide ((a2.size : Int) > 65536))) = some (r1, r2) := by rw [if_pos rfl] at H; exact H
   clear H
   have H := H1
   clear H1
   have H' := qH H
   clear H
   go_wp2_with (first | (go_at_call 79; (with_reducible refine (codicilref29_fields.calls k _ _ l1 true _ ?side1 ?side2 A5.out).mono ?_); (case side1 => repeat (first | exact (Kd.C_below HR1.out HB.out) | (with_reducible refine Kd.C_alloc ?_ _) | (with_reducible refine Kd.C_drewN ?_ _) | (with_reducible refine Kd.C_drew ?_))); (case side2 => exact HC1.out); rintro e w7 ⟨rfl, hb⟩; have n0_ := qH (below_step zz3 hb); clear HB; have HB := n0_; clear n0_; (try clear hb); (try clear hb2); (try clear hk); (try clear hi)))
   repeat (go_quiet (first | (go_at_call 79; (with_reducible refine (codicilref29_fields.calls k _ _ l1 true _ ?side1 ?side2 A5.out).mono ?_); (case side1 => repeat (first | exact (Kd.C_below HR1.out HB.out) | (with_reducible refine Kd.C_alloc ?_ _) | (with_reducible refine Kd.C_drewN ?_ _) | (with_reducible refine Kd.C_drew ?_))); (case side2 => exact HC1.out); rintro e w7 ⟨rfl, hb⟩; have n0_ := qH (below_step zz3 hb); clear HB; have HB := n0_; clear n0_; (try clear hb); (try clear hb2); (try clear hk); (try clear hi))); try go_wp2_with (first | (go_at_call 79; (with_reducible refine (codicilref29_fields.calls k _ _ l1 true _ ?side1 ?side2 A5.out).mono ?_); (case side1 => repeat (first | exact (Kd.C_below HR1.out HB.out) | (with_reducible refine Kd.C_alloc ?_ _) | (with_reducible refine Kd.C_drewN ?_ _) | (with_reducible refine Kd.C_drew ?_))); (case side2 => exact HC1.out); rintro e w7 ⟨rfl, hb⟩; have n0_ := qH (below_step zz3 hb); clear HB; have HB := n0_; clear n0_; (try clear hb); (try clear hb2); (try clear hk); (try clear hi))))
   go_meet
   case rel => exact ⟨_, (decide ((a2.size : Int) > 65536)), zz1, H', ⟨by first | omega | exact Nat.le_refl _⟩, ⟨by repeat (first | (with_reducible first | exact HB.out | apply qL | apply qJ | apply qK) | exact HB.out)⟩⟩
  ·replace c6 := Bool.eq_false_iff.mpr c6
   subst c6
   have H1 : (codicilref29_bytes.j0 k a0 l1 a2 true) = some (r1, r2) := by rw [if_neg (show ¬ (false = true) by decide)] at H; exact H
   clear H
   have H := H1
   clear H1
   have H' := qH H
   clear H
   go_wp2_with (first | (go_at_call 79; (with_reducible refine (codicilref29_fields.calls k _ _ l1 false _ ?side1 ?side2 A5.out).mono ?_); (case side1 => repeat (first | exact (Kd.C_below HR1.out HB.out) | (with_reducible refine Kd.C_alloc ?_ _) | (with_reducible refine Kd.C_drewN ?_ _) | (with_reducible refine Kd.C_drew ?_))); (case side2 => exact HC1.out); rintro e w8 ⟨rfl, hb⟩; have n0_ := qH (below_step zz3 hb); clear HB; have HB := n0_; clear n0_; (try clear hb); (try clear hb2); (try clear hk); (try clear hi)))
   repeat (go_quiet (first | (go_at_call 79; (with_reducible refine (codicilref29_fields.calls k _ _ l1 false _ ?side1 ?side2 A5.out).mono ?_); (case side1 => repeat (first | exact (Kd.C_below HR1.out HB.out) | (with_reducible refine Kd.C_alloc ?_ _) | (with_reducible refine Kd.C_drewN ?_ _) | (with_reducible refine Kd.C_drew ?_))); (case side2 => exact HC1.out); rintro e w8 ⟨rfl, hb⟩; have n0_ := qH (below_step zz3 hb); clear HB; have HB := n0_; clear n0_; (try clear hb); (try clear hb2); (try clear hk); (try clear hi))); try go_wp2_with (first | (go_at_call 79; (with_reducible refine (codicilref29_fields.calls k _ _ l1 false _ ?side1 ?side2 A5.out).mono ?_); (case side1 => repeat (first | exact (Kd.C_below HR1.out HB.out) | (with_reducible refine Kd.C_alloc ?_ _) | (with_reducible refine Kd.C_drewN ?_ _) | (with_reducible refine Kd.C_drew ?_))); (case side2 => exact HC1.out); rintro e w8 ⟨rfl, hb⟩; have n0_ := qH (below_step zz3 hb); clear HB; have HB := n0_; clear n0_; (try clear hb); (try clear hb2); (try clear hk); (try clear hi))))
   go_meet
   case rel => exact ⟨_, (true), zz1, H', ⟨by first | omega | exact Nat.le_refl _⟩, ⟨by repeat (first | (with_reducible first | exact HB.out | apply qL | apply qJ | apply qK) | exact HB.out)⟩⟩
 case rest =>
  clear HC4
  try clear c1
  try clear p2
  try clear c5
  try clear c6
  obtain ⟨kq, x17_3, rfl, HA, HJ3, HB⟩ := hcut
  cases kq with
  | zero => exact absurd HA.out (by simp [codicilref29_bytes.j0])
  | succ kj3 =>
   have H := HA.out
   clear HA
   simp only [codicilref29_bytes.j0] at H
   by_cases c9 : x17_3 = true
   ·subst c9
    have H1 : (some ((⟨#[]⟩ : ByteArray), false)) = some (r1, r2) := by rw [if_pos rfl] at H; exact H
    clear H
    have H := H1
    clear H1
    simp only [Option.some.injEq, Prod.mk.injEq] at H
    obtain ⟨rfl, rfl⟩ := H
    go_wp2
    repeat (go_quiet (fail); try go_wp2)
    go_ret2
    exact ⟨by first | rfl | (simp [errW_none, errW_some] <;> rfl) | (simp [*, errW_none, errW_some] <;> rfl), by repeat (first | (with_reducible first | exact HB.out | apply qL | apply qJ | apply qK) | exact HB.out)⟩
   ·replace c9 := Bool.eq_false_iff.mpr c9
    subst c9
    have H1 : (if a0.size + 2 ≤ 9223372036854775807 then (codicilref29_bytes.l0 kj3 l1 a2 (a0 ++ (⟨#[13, 10]⟩ : ByteArray)) 0) else (none)) = some (r1, r2) := by rw [if_neg (show ¬ (false = true) by decide)] at H; exact H
    clear H
    have H := H1
    clear H1
    by_cases c10 : a0.size + 2 ≤ 9223372036854775807
    ·rw [if_pos c10] at H
     have c10b0 := eq_true c10
     have c10b1 : decide (a0.size + 2 ≤ 9223372036854775807) = true := decide_eq_true c10
     try have c10b2 : (9223372036854775807 < a0.size + 2) = False := eq_false (Nat.not_lt.2 c10)
     have H' := qH H
     clear H
     go_wp2
     repeat (go_quiet (fail); try go_wp2)
     go_loopg [8, 9] kj3 (fun kq v8 v9 w' => ∃ (x8_2 : ByteArray) (x9_2 : Int), v8 = .string x8_2 ∧ v9 = .int .i64 x9_2 ∧ Aside0 (codicilref29_bytes.l0 kq l1 a2 x8_2 x9_2 = some (r1, r2)) ∧ Aside0 (kq ≤ kj3) ∧ Aside0 (Below w.heap.size w w'))
     case atStart => exact ⟨(a0 ++ (⟨#[13, 10]⟩ : ByteArray)), (0), zz1, zz1, H', ⟨Nat.le_refl _⟩, ⟨by repeat (first | (with_reducible first | exact HB.out | apply qL | apply qJ | apply qK) | exact HB.out)⟩⟩
     case round =>
      clear H'
      try clear c1
      try clear p2
      try clear c5
      try clear c6
      try clear c9
      try clear c10
      try clear c10b0
      try clear c10b1
      try clear c10b2
      try clear p2
      obtain ⟨x8_2, x9_2, rfl, rfl, HA, HK2, HB⟩ := hrel
      cases gk with
      | zero => exact absurd HA.out (by simp [codicilref29_bytes.l0])
      | succ k2 =>
       have H := HA.out
       clear HA
       simp only [codicilref29_bytes.l0] at H
       by_cases c11 : x9_2 < (l1.length : Int)
       ·rw [if_pos c11] at H
        have c11b0 : decide (x9_2 < (l1.length : Int)) = true := decide_eq_true c11
        clear c11
        by_cases c12 : 0 ≤ x9_2
        ·rw [if_pos c12] at H
         have c12b0 : decide (0 ≤ x9_2) = true := decide_eq_true c12
         clear c12
         by_cases c13 : x8_2.size + ((rd_T59 l1 x9_2).f0).size ≤ 9223372036854775807
         ·rw [if_pos c13] at H
          have c13b0 := eq_true c13
          have c13b1 : decide (x8_2.size + ((rd_T59 l1 x9_2).f0).size ≤ 9223372036854775807) = true := decide_eq_true c13
          try have c13b2 : (9223372036854775807 < x8_2.size + ((rd_T59 l1 x9_2).f0).size) = False := eq_false (Nat.not_lt.2 c13)
          by_cases c14 : (x8_2 ++ ((rd_T59 l1 x9_2).f0)).size + 2 ≤ 9223372036854775807
          ·rw [if_pos c14] at H
           have c14b0 := eq_true c14
           have c14b1 : decide ((x8_2 ++ ((rd_T59 l1 x9_2).f0)).size + 2 ≤ 9223372036854775807) = true := decide_eq_true c14
           try have c14b2 : (9223372036854775807 < (x8_2 ++ ((rd_T59 l1 x9_2).f0)).size + 2) = False := eq_false (Nat.not_lt.2 c14)
           try (have c14b3 := of_eq_false c14b2; simp only [ByteArray.size_append] at c14b3)
           by_cases c15 : ((x8_2 ++ ((rd_T59 l1 x9_2).f0)) ++ (⟨#[58, 32]⟩ : ByteArray)).size + ((rd_T59 l1 x9_2).f1).size ≤ 9223372036854775807
           ·rw [if_pos c15] at H
            have c15b0 := eq_true c15
            have c15b1 : decide (((x8_2 ++ ((rd_T59 l1 x9_2).f0)) ++ (⟨#[58, 32]⟩ : ByteArray)).size + ((rd_T59 l1 x9_2).f1).size ≤ 9223372036854775807) = true := decide_eq_true c15
            try have c15b2 : (9223372036854775807 < ((x8_2 ++ ((rd_T59 l1 x9_2).f0)) ++ (⟨#[58, 32]⟩ : ByteArray)).size + ((rd_T59 l1 x9_2).f1).size) = False := eq_false (Nat.not_lt.2 c15)
            try (have c15b3 := of_eq_false c15b2; simp only [ByteArray.size_append, show (⟨#[58, 32]⟩ : ByteArray).size = 2 from rfl] at c15b3)
            by_cases c16 : (((x8_2 ++ ((rd_T59 l1 x9_2).f0)) ++ (⟨#[58, 32]⟩ : ByteArray)) ++ ((rd_T59 l1 x9_2).f1)).size + 2 ≤ 9223372036854775807
            ·rw [if_pos c16] at H
             have c16b0 := eq_true c16
             have c16b1 : decide ((((x8_2 ++ ((rd_T59 l1 x9_2).f0)) ++ (⟨#[58, 32]⟩ : ByteArray)) ++ ((rd_T59 l1 x9_2).f1)).size + 2 ≤ 9223372036854775807) = true := decide_eq_true c16
             try have c16b2 : (9223372036854775807 < (((x8_2 ++ ((rd_T59 l1 x9_2).f0)) ++ (⟨#[58, 32]⟩ : ByteArray)) ++ ((rd_T59 l1 x9_2).f1)).size + 2) = False := eq_false (Nat.not_lt.2 c16)
             try (have c16b3 := of_eq_false c16b2; simp only [ByteArray.size_append, show (⟨#[58, 32]⟩ : ByteArray).size = 2 from rfl] at c16b3)
             have H' := qH H
             clear H
             have p161 : 0 ≤ (x9_2 : Int) := of_decide_eq_true zz0
             have q161 : x9_2 < (l1.length : Int) := of_decide_eq_true zz0
             obtain ⟨ad161, e161, hx161_0, hx161_1⟩ := at_T59 HR1.out x9_2 p161 q161
             cases e161
             replace hx161_0 := (HB.out.cell (qO w _ hx161_0)).trans hx161_0
             replace hx161_1 := (HB.out.cell (qO w _ hx161_1)).trans hx161_1
             replace p161 := eq_true p161
             replace q161 := eq_true q161
             have p162 : 0 ≤ (x9_2 : Int) := of_decide_eq_true zz0
             have q162 : x9_2 < (l1.length : Int) := of_decide_eq_true zz0
             obtain ⟨ad162, e162, hx162_0, hx162_1⟩ := at_T59 HR1.out x9_2 p162 q162
             obtain rfl : ad161 = ad162 := (by injection e162)
             replace hx162_0 := (HB.out.cell (qO w _ hx162_0)).trans hx162_0
             replace hx162_1 := (HB.out.cell (qO w _ hx162_1)).trans hx162_1
             replace p162 := eq_true p162
             replace q162 := eq_true q162
             go_wp2
             repeat (go_quiet (fail); try go_wp2)
             go_roundg k2
             case measure => have := HJ3.out; have := HK2.out; omega
             case rel => exact ⟨((((x8_2 ++ ((rd_T59 l1 x9_2).f0)) ++ (⟨#[58, 32]⟩ : ByteArray)) ++ ((rd_T59 l1 x9_2).f1)) ++ (⟨#[13, 10]⟩ : ByteArray)), (wrap64 (x9_2 + 1)), zz1, zz1, H', ⟨by have := HJ3.out; have := HK2.out; omega⟩, ⟨by repeat (first | (with_reducible first | exact HB.out | apply qL | apply qJ | apply qK) | exact HB.out)⟩⟩
            ·rw [if_neg c16] at H
             exact absurd H (by simp)
           ·rw [if_neg c15] at H
            exact absurd H (by simp)
          ·rw [if_neg c14] at H
           exact absurd H (by simp)
         ·rw [if_neg c13] at H
          exact absurd H (by simp)
        ·rw [if_neg c12] at H
         exact absurd H (by simp)
       ·rw [if_neg c11] at H
        have c11b0 : decide (x9_2 < (l1.length : Int)) = false := decide_eq_false c11
        clear c11
        by_cases c17 : x8_2.size + 16 ≤ 9223372036854775807
        ·rw [if_pos c17] at H
         have c17b0 := eq_true c17
         have c17b1 : decide (x8_2.size + 16 ≤ 9223372036854775807) = true := decide_eq_true c17
         try have c17b2 : (9223372036854775807 < x8_2.size + 16) = False := eq_false (Nat.not_lt.2 c17)
         replace H := Option.bind_eq_some_iff.mp H
         obtain ⟨t163, A180, H⟩ := H
         (try dsimp only at H)
         have A18 := qH A180
         clear A180
         by_cases c19 : (x8_2 ++ (⟨#[99, 111, 110, 116, 101, 110, 116, 45, 108, 101, 110, 103, 116, 104, 58, 32]⟩ : ByteArray)).size + t163.size ≤ 9223372036854775807
         ·rw [if_pos c19] at H
          have c19b0 := eq_true c19
          have c19b1 : decide ((x8_2 ++ (⟨#[99, 111, 110, 116, 101, 110, 116, 45, 108, 101, 110, 103, 116, 104, 58, 32]⟩ : ByteArray)).size + t163.size ≤ 9223372036854775807) = true := decide_eq_true c19
          try have c19b2 : (9223372036854775807 < (x8_2 ++ (⟨#[99, 111, 110, 116, 101, 110, 116, 45, 108, 101, 110, 103, 116, 104, 58, 32]⟩ : ByteArray)).size + t163.size) = False := eq_false (Nat.not_lt.2 c19)
          try (have c19b3 := of_eq_false c19b2; simp only [ByteArray.size_append, show (⟨#[99, 111, 110, 116, 101, 110, 116, 45, 108, 101, 110, 103, 116, 104, 58, 32]⟩ : ByteArray).size = 16 from rfl] at c19b3)
          by_cases c20 : ((x8_2 ++ (⟨#[99, 111, 110, 116, 101, 110, 116, 45, 108, 101, 110, 103, 116, 104, 58, 32]⟩ : ByteArray)) ++ t163).size + 4 ≤ 9223372036854775807
          ·rw [if_pos c20] at H
           have c20b0 := eq_true c20
           have c20b1 : decide (((x8_2 ++ (⟨#[99, 111, 110, 116, 101, 110, 116, 45, 108, 101, 110, 103, 116, 104, 58, 32]⟩ : ByteArray)) ++ t163).size + 4 ≤ 9223372036854775807) = true := decide_eq_true c20
           try have c20b2 : (9223372036854775807 < ((x8_2 ++ (⟨#[99, 111, 110, 116, 101, 110, 116, 45, 108, 101, 110, 103, 116, 104, 58, 32]⟩ : ByteArray)) ++ t163).size + 4) = False := eq_false (Nat.not_lt.2 c20)
           try (have c20b3 := of_eq_false c20b2; simp only [ByteArray.size_append, show (⟨#[99, 111, 110, 116, 101, 110, 116, 45, 108, 101, 110, 103, 116, 104, 58, 32]⟩ : ByteArray).size = 16 from rfl] at c20b3)
           by_cases c21 : (((x8_2 ++ (⟨#[99, 111, 110, 116, 101, 110, 116, 45, 108, 101, 110, 103, 116, 104, 58, 32]⟩ : ByteArray)) ++ t163) ++ (⟨#[13, 10, 13, 10]⟩ : ByteArray)).size + a2.size ≤ 9223372036854775807
           ·rw [if_pos c21] at H
            have c21b0 := eq_true c21
            have c21b1 : decide ((((x8_2 ++ (⟨#[99, 111, 110, 116, 101, 110, 116, 45, 108, 101, 110, 103, 116, 104, 58, 32]⟩ : ByteArray)) ++ t163) ++ (⟨#[13, 10, 13, 10]⟩ : ByteArray)).size + a2.size ≤ 9223372036854775807) = true := decide_eq_true c21
            try have c21b2 : (9223372036854775807 < (((x8_2 ++ (⟨#[99, 111, 110, 116, 101, 110, 116, 45, 108, 101, 110, 103, 116, 104, 58, 32]⟩ : ByteArray)) ++ t163) ++ (⟨#[13, 10, 13, 10]⟩ : ByteArray)).size + a2.size) = False := eq_false (Nat.not_lt.2 c21)
            try (have c21b3 := of_eq_false c21b2; simp only [ByteArray.size_append, show (⟨#[13, 10, 13, 10]⟩ : ByteArray).size = 4 from rfl, show (⟨#[99, 111, 110, 116, 101, 110, 116, 45, 108, 101, 110, 103, 116, 104, 58, 32]⟩ : ByteArray).size = 16 from rfl] at c21b3)
            simp only [Option.some.injEq, Prod.mk.injEq] at H
            obtain ⟨rfl, rfl⟩ := H
            go_wp2_with (first | (go_at_call 54; (with_reducible refine (strconv_Itoa.calls (a2.size : Int) t163 _ A18.out (HL.later zz3)).mono ?_); rintro e w22 ⟨rfl, hb⟩; have n0_ := qH (below_step zz3 hb); clear HB; have HB := n0_; clear n0_; (try clear hb); (try clear hb2); (try clear hk); (try clear hi)))
            repeat (go_quiet (first | (go_at_call 54; (with_reducible refine (strconv_Itoa.calls (a2.size : Int) t163 _ A18.out (HL.later zz3)).mono ?_); rintro e w22 ⟨rfl, hb⟩; have n0_ := qH (below_step zz3 hb); clear HB; have HB := n0_; clear n0_; (try clear hb); (try clear hb2); (try clear hk); (try clear hi))); try go_wp2_with (first | (go_at_call 54; (with_reducible refine (strconv_Itoa.calls (a2.size : Int) t163 _ A18.out (HL.later zz3)).mono ?_); rintro e w22 ⟨rfl, hb⟩; have n0_ := qH (below_step zz3 hb); clear HB; have HB := n0_; clear n0_; (try clear hb); (try clear hb2); (try clear hk); (try clear hi))))
            go_ret2
            exact ⟨by first | rfl | (simp [errW_none, errW_some] <;> rfl) | (simp [*, errW_none, errW_some] <;> rfl), by repeat (first | (with_reducible first | exact HB.out | apply qL | apply qJ | apply qK) | exact HB.out)⟩
           ·rw [if_neg c21] at H
            exact absurd H (by simp)
          ·rw [if_neg c20] at H
           exact absurd H (by simp)
         ·rw [if_neg c19] at H
          exact absurd H (by simp)
        ·rw [if_neg c17] at H
         exact absurd H (by simp)
    ·rw [if_neg c10] at H
     exact absurd H (by simp)

end Go.Proofs.YtddjhmelniphgaaGreatDoor.Print
