-- Written by wip/tools/xprint.py of this session's repo (the kit's print, run with external functions). Lean checks it.
import Derived.Test.YtddjhmelniphgaaGreatDoorHAm
import Derived.Test.YtddjhmelniphgaaGreatDoorPrint0
import Derived.Test.YtddjhmelniphgaaGreatDoorPrint3
import Derived.Test.YtddjhmelniphgaaGreatDoorPrint4
import Derived.Test.YtddjhmelniphgaaGreatDoorPrint6
namespace Go.Proofs.YtddjhmelniphgaaGreatDoor.Print
open Go.RowKit Go.Proofs.YtddjhmelniphgaaGreatDoorW.PrintWords Go.Proofs.YtddjhmelniphgaaGreatDoorW.PrintLast Go.Proofs.YtddjhmelniphgaaGreatDoorW.PrintMore
attribute [local go_sem] max2_int min2_int max_two min_two max_three min_three max_four min_four   -- for this text's walks alone
set_option linter.unusedVariables false
set_option linter.unusedSimpArgs false

/-! ### codicilref29_response: function 42 -/
def codicilref29_response.f (k : Nat) (a0 : ByteArray) : Option (Int) := if (a0.size : Int) < 13 then (some 0) else (if 0 ≤ 9 then (if 9 ≤ (a0.size : Int) then (if (a0.extract 0 9).toList = ([72, 84, 84, 80, 47, 49, 46, 49, 32] : List UInt8) then (if 12 < (a0.size : Int) then (if (bt a0 12) = 32 then (if 13 ≤ (a0.size : Int) then ((codicilref29_value.f k (a0.extract 13 a0.size)).bind fun t182 => (if t182 = true then (if 9 < (a0.size : Int) then (if (bt a0 9) < 49 then (some 0) else (if (bt a0 9) > 53 then (some 0) else (if 10 < (a0.size : Int) then (if (bt a0 10) < 48 then (some 0) else (if (bt a0 10) > 57 then (some 0) else (if 11 < (a0.size : Int) then (if (bt a0 11) < 48 then (some 0) else (if (bt a0 11) > 57 then (some 0) else (some ((((((bt a0 9) - 48) % 256) * 100) + ((((bt a0 10) - 48) % 256) * 10)) + (((bt a0 11) - 48) % 256))))) else (none)))) else (none)))) else (none)) else (some 0))) else (none)) else (some 0)) else (none)) else (some 0)) else (none)) else (none))
theorem codicilref29_response.mono : ∀ a0 k, LeO (codicilref29_response.f k a0) (codicilref29_response.f (k + 1) a0) := by
 intro a0 k
 unfold codicilref29_response.f
 repeat' first
   | (with_reducible exact codicilref29_value.mono _ _)
   | (with_reducible exact LeO.refl _)
   | (with_reducible exact LeO.none _)
   | (with_reducible refine LeO.ite ?_ ?_)
   | (with_reducible refine LeO.bind ?_ (fun _ => ?_))
   | exact codicilref29_value.mono _ _
   | exact LeO.none _
   | refine LeO.ite ?_ ?_
   | refine LeO.bind ?_ (fun _ => ?_)
set_option maxHeartbeats 8000000 in
set_option maxRecDepth 100000 in
theorem codicilref29_response.calls (k : Nat) (a0 : ByteArray) (r : Int) (w : World) (h : codicilref29_response.f k a0 = some r) :
  Calls Tryz.prog 42 #[.string a0] w fun e w' => e = .returned (.int .i64 r) ∧ Drawn0 w w' := by
 have H : (if (a0.size : Int) < 13 then (some 0) else (if 0 ≤ 9 then (if 9 ≤ (a0.size : Int) then (if (a0.extract 0 9).toList = ([72, 84, 84, 80, 47, 49, 46, 49, 32] : List UInt8) then (if 12 < (a0.size : Int) then (if (bt a0 12) = 32 then (if 13 ≤ (a0.size : Int) then ((codicilref29_value.f k (a0.extract 13 a0.size)).bind fun t182 => (if t182 = true then (if 9 < (a0.size : Int) then (if (bt a0 9) < 49 then (some 0) else (if (bt a0 9) > 53 then (some 0) else (if 10 < (a0.size : Int) then (if (bt a0 10) < 48 then (some 0) else (if (bt a0 10) > 57 then (some 0) else (if 11 < (a0.size : Int) then (if (bt a0 11) < 48 then (some 0) else (if (bt a0 11) > 57 then (some 0) else (some ((((((bt a0 9) - 48) % 256) * 100) + ((((bt a0 10) - 48) % 256) * 10)) + (((bt a0 11) - 48) % 256))))) else (none)))) else (none)))) else (none)) else (some 0))) else (none)) else (some 0)) else (none)) else (some 0)) else (none)) else (none))) = some r := h
 clear h
 by_cases c2 : (a0.size : Int) < 13
 ·rw [if_pos c2] at H
  have c2b0 : decide ((a0.size : Int) < 13) = true := decide_eq_true c2
  have c2b1 : decide (a0.size < 13) = true := decide_eq_true zz42
  clear c2
  obtain rfl := Option.some.inj H
  simp only [Option.some.injEq, Prod.mk.injEq] at H
  obtain ⟨rfl⟩ := H
  go_enter Tryz.func42, Tryz.ntmps42
  go_wp2
  repeat (go_quiet (fail); try go_wp2)
  go_ret
  exact ⟨by first | rfl | (simp; done) | (simp; exact qEmp _) | (simp [*]; done), by repeat (first | exact Drawn0.refl _ | apply Drawn0.step)⟩
 ·rw [if_neg c2] at H
  have c2b0 : decide ((a0.size : Int) < 13) = false := decide_eq_false c2
  have c2b1 : decide (a0.size < 13) = false := decide_eq_false zz42
  clear c2
  by_cases c3 : 0 ≤ 9
  ·rw [if_pos c3] at H
   have c3b0 := eq_true c3
   have c3b1 : decide (0 ≤ 9) = true := decide_eq_true c3
   clear c3
   by_cases c4 : 9 ≤ (a0.size : Int)
   ·rw [if_pos c4] at H
    have c4b0 := eq_true c4
    have c4b1 : decide (9 ≤ (a0.size : Int)) = true := decide_eq_true c4
    clear c4
    by_cases c5 : (a0.extract 0 9).toList = ([72, 84, 84, 80, 47, 49, 46, 49, 32] : List UInt8)
    ·rw [if_pos c5] at H
     have c5b0 : ((a0.extract 0 9).toList == ([72, 84, 84, 80, 47, 49, 46, 49, 32] : List UInt8)) = true := beq_iff_eq.mpr c5
     have c5b1 : ((a0.extract 0 9).toList != ([72, 84, 84, 80, 47, 49, 46, 49, 32] : List UInt8)) = false := bne_eq_false_iff_eq.mpr c5
     clear c5
     by_cases c6 : 12 < (a0.size : Int)
     ·rw [if_pos c6] at H
      have c6b0 : decide (12 < (a0.size : Int)) = true := decide_eq_true c6
      have c6b1 : decide (12 < a0.size) = true := decide_eq_true zz42
      clear c6
      by_cases c8 : (bt a0 12) = 32
      ·rw [if_pos c8] at H
       have c8b0 : ((bt a0 12) == 32) = true := beq_iff_eq.mpr c8
       have c8b1 : ((bt a0 12) != 32) = false := bne_eq_false_iff_eq.mpr c8
       clear c8
       by_cases c9 : 13 ≤ (a0.size : Int)
       ·rw [if_pos c9] at H
        have c9b0 := eq_true c9
        have c9b1 : decide (13 ≤ (a0.size : Int)) = true := decide_eq_true c9
        clear c9
        replace H := Option.bind_eq_some_iff.mp H
        obtain ⟨t182, A100, H⟩ := H
        (try dsimp only at H)
        have A10 := qH A100
        clear A100
        by_cases c11 : t182 = true
        ·subst c11
         have H1 : (if 9 < (a0.size : Int) then (if (bt a0 9) < 49 then (some 0) else (if (bt a0 9) > 53 then (some 0) else (if 10 < (a0.size : Int) then (if (bt a0 10) < 48 then (some 0) else (if (bt a0 10) > 57 then (some 0) else (if 11 < (a0.size : Int) then (if (bt a0 11) < 48 then (some 0) else (if (bt a0 11) > 57 then (some 0) else (some ((((((bt a0 9) - 48) % 256) * 100) + ((((bt a0 10) - 48) % 256) * 10)) + (((bt a0 11) - 48) % 256))))) else (none)))) else (none)))) else (none)) = some r := by rw [if_pos rfl] at H; exact H
         clear H
         have H := H1
         clear H1
         by_cases c12 : 9 < (a0.size : Int)
         ·rw [if_pos c12] at H
          have c12b0 : decide (9 < (a0.size : Int)) = true := decide_eq_true c12
          have c12b1 : decide (9 < a0.size) = true := decide_eq_true zz42
          clear c12
          by_cases c14 : (bt a0 9) < 49
          ·rw [if_pos c14] at H
           have c14b0 : decide ((bt a0 9) < 49) = true := decide_eq_true c14
           clear c14
           obtain rfl := Option.some.inj H
           simp only [Option.some.injEq, Prod.mk.injEq] at H
           obtain ⟨rfl⟩ := H
           have p7 : 0 ≤ (12 : Int) := zz42
           have q7 : 12 < a0.size := (by have : (12 : Int) < (a0.size : Int) := of_decide_eq_true zz0; omega)
           have hx7 : ∀ h : 12 < a0.size, ((a0[12]'h).toNat : Int) = bt a0 12 := bt_at a0 12
           clear p7
           have qi7 : (12 < (a0.size : Int)) = True := eq_true (of_decide_eq_true zz0)
           replace q7 := eq_true q7
           go_enter Tryz.func42, Tryz.ntmps42
           go_wp2_with (first | (go_at_call 72; (with_reducible refine (codicilref29_value.calls k (a0.extract 13 a0.size) true _ A10.out).mono ?_); rintro e w' ⟨rfl, ⟨nd, rfl⟩⟩; (try first | exact ⟨rfl, _, World.drewN_drewN _ _ _⟩ | exact ⟨rfl, _, Eq.trans (World.drewN_drewN _ _ _) (congrArg (World.drewN _) (Nat.add_assoc _ _ _))⟩); have p13 : 0 ≤ (9 : Int) := zz42; have q13 : 9 < a0.size := (by have : (9 : Int) < (a0.size : Int) := of_decide_eq_true zz0; omega); have hx13 : ∀ h : 9 < a0.size, ((a0[9]'h).toNat : Int) = bt a0 9 := bt_at a0 9; clear p13; have qi13 : (9 < (a0.size : Int)) = True := eq_true (of_decide_eq_true zz0); replace q13 := eq_true q13))
           go_ret
           exact ⟨by first | rfl | (simp; done) | (simp; exact qEmp _) | (simp [*]; done), by repeat (first | exact Drawn0.refl _ | apply Drawn0.step)⟩
          ·rw [if_neg c14] at H
           have c14b0 : decide ((bt a0 9) < 49) = false := decide_eq_false c14
           clear c14
           by_cases c16 : (bt a0 9) > 53
           ·rw [if_pos c16] at H
            have c16b0 : decide (53 < (bt a0 9)) = true := decide_eq_true c16
            clear c16
            obtain rfl := Option.some.inj H
            simp only [Option.some.injEq, Prod.mk.injEq] at H
            obtain ⟨rfl⟩ := H
            have p7 : 0 ≤ (12 : Int) := zz42
            have q7 : 12 < a0.size := (by have : (12 : Int) < (a0.size : Int) := of_decide_eq_true zz0; omega)
            have hx7 : ∀ h : 12 < a0.size, ((a0[12]'h).toNat : Int) = bt a0 12 := bt_at a0 12
            clear p7
            have qi7 : (12 < (a0.size : Int)) = True := eq_true (of_decide_eq_true zz0)
            replace q7 := eq_true q7
            go_enter Tryz.func42, Tryz.ntmps42
            go_wp2_with (first | (go_at_call 72; (with_reducible refine (codicilref29_value.calls k (a0.extract 13 a0.size) true _ A10.out).mono ?_); rintro e w' ⟨rfl, ⟨nd, rfl⟩⟩; (try first | exact ⟨rfl, _, World.drewN_drewN _ _ _⟩ | exact ⟨rfl, _, Eq.trans (World.drewN_drewN _ _ _) (congrArg (World.drewN _) (Nat.add_assoc _ _ _))⟩); have p13 : 0 ≤ (9 : Int) := zz42; have q13 : 9 < a0.size := (by have : (9 : Int) < (a0.size : Int) := of_decide_eq_true zz0; omega); have hx13 : ∀ h : 9 < a0.size, ((a0[9]'h).toNat : Int) = bt a0 9 := bt_at a0 9; clear p13; have qi13 : (9 < (a0.size : Int)) = True := eq_true (of_decide_eq_true zz0); replace q13 := eq_true q13; have p15 : 0 ≤ (9 : Int) := zz42; have q15 : 9 < a0.size := (by have : (9 : Int) < (a0.size : Int) := of_decide_eq_true zz0; omega); have hx15 : ∀ h : 9 < a0.size, ((a0[9]'h).toNat : Int) = bt a0 9 := bt_at a0 9; clear p15; have qi15 : (9 < (a0.size : Int)) = True := eq_true (of_decide_eq_true zz0); replace q15 := eq_true q15))
            go_ret
            exact ⟨by first | rfl | (simp; done) | (simp; exact qEmp _) | (simp [*]; done), by repeat (first | exact Drawn0.refl _ | apply Drawn0.step)⟩
           ·rw [if_neg c16] at H
            have c16b0 : decide (53 < (bt a0 9)) = false := decide_eq_false c16
            clear c16
            by_cases c17 : 10 < (a0.size : Int)
            ·rw [if_pos c17] at H
             have c17b0 : decide (10 < (a0.size : Int)) = true := decide_eq_true c17
             have c17b1 : decide (10 < a0.size) = true := decide_eq_true zz42
             clear c17
             by_cases c19 : (bt a0 10) < 48
             ·rw [if_pos c19] at H
              have c19b0 : decide ((bt a0 10) < 48) = true := decide_eq_true c19
              clear c19
              obtain rfl := Option.some.inj H
              simp only [Option.some.injEq, Prod.mk.injEq] at H
              obtain ⟨rfl⟩ := H
              have p7 : 0 ≤ (12 : Int) := zz42
              have q7 : 12 < a0.size := (by have : (12 : Int) < (a0.size : Int) := of_decide_eq_true zz0; omega)
              have hx7 : ∀ h : 12 < a0.size, ((a0[12]'h).toNat : Int) = bt a0 12 := bt_at a0 12
              clear p7
              have qi7 : (12 < (a0.size : Int)) = True := eq_true (of_decide_eq_true zz0)
              replace q7 := eq_true q7
              go_enter Tryz.func42, Tryz.ntmps42
              go_wp2_with (first | (go_at_call 72; (with_reducible refine (codicilref29_value.calls k (a0.extract 13 a0.size) true _ A10.out).mono ?_); rintro e w' ⟨rfl, ⟨nd, rfl⟩⟩; (try first | exact ⟨rfl, _, World.drewN_drewN _ _ _⟩ | exact ⟨rfl, _, Eq.trans (World.drewN_drewN _ _ _) (congrArg (World.drewN _) (Nat.add_assoc _ _ _))⟩); have p13 : 0 ≤ (9 : Int) := zz42; have q13 : 9 < a0.size := (by have : (9 : Int) < (a0.size : Int) := of_decide_eq_true zz0; omega); have hx13 : ∀ h : 9 < a0.size, ((a0[9]'h).toNat : Int) = bt a0 9 := bt_at a0 9; clear p13; have qi13 : (9 < (a0.size : Int)) = True := eq_true (of_decide_eq_true zz0); replace q13 := eq_true q13; have p15 : 0 ≤ (9 : Int) := zz42; have q15 : 9 < a0.size := (by have : (9 : Int) < (a0.size : Int) := of_decide_eq_true zz0; omega); have hx15 : ∀ h : 9 < a0.size, ((a0[9]'h).toNat : Int) = bt a0 9 := bt_at a0 9; clear p15; have qi15 : (9 < (a0.size : Int)) = True := eq_true (of_decide_eq_true zz0); replace q15 := eq_true q15; have p18 : 0 ≤ (10 : Int) := zz42; have q18 : 10 < a0.size := (by have : (10 : Int) < (a0.size : Int) := of_decide_eq_true zz0; omega); have hx18 : ∀ h : 10 < a0.size, ((a0[10]'h).toNat : Int) = bt a0 10 := bt_at a0 10; clear p18; have qi18 : (10 < (a0.size : Int)) = True := eq_true (of_decide_eq_true zz0); replace q18 := eq_true q18))
              go_ret
              exact ⟨by first | rfl | (simp; done) | (simp; exact qEmp _) | (simp [*]; done), by repeat (first | exact Drawn0.refl _ | apply Drawn0.step)⟩
             ·rw [if_neg c19] at H
              have c19b0 : decide ((bt a0 10) < 48) = false := decide_eq_false c19
              clear c19
              by_cases c21 : (bt a0 10) > 57
              ·rw [if_pos c21] at H
               have c21b0 : decide (57 < (bt a0 10)) = true := decide_eq_true c21
               clear c21
               obtain rfl := Option.some.inj H
               simp only [Option.some.injEq, Prod.mk.injEq] at H
               obtain ⟨rfl⟩ := H
               have p7 : 0 ≤ (12 : Int) := zz42
               have q7 : 12 < a0.size := (by have : (12 : Int) < (a0.size : Int) := of_decide_eq_true zz0; omega)
               have hx7 : ∀ h : 12 < a0.size, ((a0[12]'h).toNat : Int) = bt a0 12 := bt_at a0 12
               clear p7
               have qi7 : (12 < (a0.size : Int)) = True := eq_true (of_decide_eq_true zz0)
               replace q7 := eq_true q7
               go_enter Tryz.func42, Tryz.ntmps42
               go_wp2_with (first | (go_at_call 72; (with_reducible refine (codicilref29_value.calls k (a0.extract 13 a0.size) true _ A10.out).mono ?_); rintro e w' ⟨rfl, ⟨nd, rfl⟩⟩; (try first | exact ⟨rfl, _, World.drewN_drewN _ _ _⟩ | exact ⟨rfl, _, Eq.trans (World.drewN_drewN _ _ _) (congrArg (World.drewN _) (Nat.add_assoc _ _ _))⟩); have p13 : 0 ≤ (9 : Int) := zz42; have q13 : 9 < a0.size := (by have : (9 : Int) < (a0.size : Int) := of_decide_eq_true zz0; omega); have hx13 : ∀ h : 9 < a0.size, ((a0[9]'h).toNat : Int) = bt a0 9 := bt_at a0 9; clear p13; have qi13 : (9 < (a0.size : Int)) = True := eq_true (of_decide_eq_true zz0); replace q13 := eq_true q13; have p15 : 0 ≤ (9 : Int) := zz42; have q15 : 9 < a0.size := (by have : (9 : Int) < (a0.size : Int) := of_decide_eq_true zz0; omega); have hx15 : ∀ h : 9 < a0.size, ((a0[9]'h).toNat : Int) = bt a0 9 := bt_at a0 9; clear p15; have qi15 : (9 < (a0.size : Int)) = True := eq_true (of_decide_eq_true zz0); replace q15 := eq_true q15; have p18 : 0 ≤ (10 : Int) := zz42; have q18 : 10 < a0.size := (by have : (10 : Int) < (a0.size : Int) := of_decide_eq_true zz0; omega); have hx18 : ∀ h : 10 < a0.size, ((a0[10]'h).toNat : Int) = bt a0 10 := bt_at a0 10; clear p18; have qi18 : (10 < (a0.size : Int)) = True := eq_true (of_decide_eq_true zz0); replace q18 := eq_true q18; have p20 : 0 ≤ (10 : Int) := zz42; have q20 : 10 < a0.size := (by have : (10 : Int) < (a0.size : Int) := of_decide_eq_true zz0; omega); have hx20 : ∀ h : 10 < a0.size, ((a0[10]'h).toNat : Int) = bt a0 10 := bt_at a0 10; clear p20; have qi20 : (10 < (a0.size : Int)) = True := eq_true (of_decide_eq_true zz0); replace q20 := eq_true q20))
               go_ret
               exact ⟨by first | rfl | (simp; done) | (simp; exact qEmp _) | (simp [*]; done), by repeat (first | exact Drawn0.refl _ | apply Drawn0.step)⟩
              ·rw [if_neg c21] at H
               have c21b0 : decide (57 < (bt a0 10)) = false := decide_eq_false c21
               clear c21
               by_cases c22 : 11 < (a0.size : Int)
               ·rw [if_pos c22] at H
                have c22b0 : decide (11 < (a0.size : Int)) = true := decide_eq_true c22
                have c22b1 : decide (11 < a0.size) = true := decide_eq_true zz42
                clear c22
                by_cases c24 : (bt a0 11) < 48
                ·rw [if_pos c24] at H
                 have c24b0 : decide ((bt a0 11) < 48) = true := decide_eq_true c24
                 clear c24
                 obtain rfl := Option.some.inj H
                 simp only [Option.some.injEq, Prod.mk.injEq] at H
                 obtain ⟨rfl⟩ := H
                 have p7 : 0 ≤ (12 : Int) := zz42
                 have q7 : 12 < a0.size := (by have : (12 : Int) < (a0.size : Int) := of_decide_eq_true zz0; omega)
                 have hx7 : ∀ h : 12 < a0.size, ((a0[12]'h).toNat : Int) = bt a0 12 := bt_at a0 12
                 clear p7
                 have qi7 : (12 < (a0.size : Int)) = True := eq_true (of_decide_eq_true zz0)
                 replace q7 := eq_true q7
                 go_enter Tryz.func42, Tryz.ntmps42
                 go_wp2_with (first | (go_at_call 72; (with_reducible refine (codicilref29_value.calls k (a0.extract 13 a0.size) true _ A10.out).mono ?_); rintro e w' ⟨rfl, ⟨nd, rfl⟩⟩; (try first | exact ⟨rfl, _, World.drewN_drewN _ _ _⟩ | exact ⟨rfl, _, Eq.trans (World.drewN_drewN _ _ _) (congrArg (World.drewN _) (Nat.add_assoc _ _ _))⟩); have p13 : 0 ≤ (9 : Int) := zz42; have q13 : 9 < a0.size := (by have : (9 : Int) < (a0.size : Int) := of_decide_eq_true zz0; omega); have hx13 : ∀ h : 9 < a0.size, ((a0[9]'h).toNat : Int) = bt a0 9 := bt_at a0 9; clear p13; have qi13 : (9 < (a0.size : Int)) = True := eq_true (of_decide_eq_true zz0); replace q13 := eq_true q13; have p15 : 0 ≤ (9 : Int) := zz42; have q15 : 9 < a0.size := (by have : (9 : Int) < (a0.size : Int) := of_decide_eq_true zz0; omega); have hx15 : ∀ h : 9 < a0.size, ((a0[9]'h).toNat : Int) = bt a0 9 := bt_at a0 9; clear p15; have qi15 : (9 < (a0.size : Int)) = True := eq_true (of_decide_eq_true zz0); replace q15 := eq_true q15; have p18 : 0 ≤ (10 : Int) := zz42; have q18 : 10 < a0.size := (by have : (10 : Int) < (a0.size : Int) := of_decide_eq_true zz0; omega); have hx18 : ∀ h : 10 < a0.size, ((a0[10]'h).toNat : Int) = bt a0 10 := bt_at a0 10; clear p18; have qi18 : (10 < (a0.size : Int)) = True := eq_true (of_decide_eq_true zz0); replace q18 := eq_true q18; have p20 : 0 ≤ (10 : Int) := zz42; have q20 : 10 < a0.size := (by have : (10 : Int) < (a0.size : Int) := of_decide_eq_true zz0; omega); have hx20 : ∀ h : 10 < a0.size, ((a0[10]'h).toNat : Int) = bt a0 10 := bt_at a0 10; clear p20; have qi20 : (10 < (a0.size : Int)) = True := eq_true (of_decide_eq_true zz0); replace q20 := eq_true q20; have p23 : 0 ≤ (11 : Int) := zz42; have q23 : 11 < a0.size := (by have : (11 : Int) < (a0.size : Int) := of_decide_eq_true zz0; omega); have hx23 : ∀ h : 11 < a0.size, ((a0[11]'h).toNat : Int) = bt a0 11 := bt_at a0 11; clear p23; have qi23 : (11 < (a0.size : Int)) = True := eq_true (of_decide_eq_true zz0); replace q23 := eq_true q23))
                 go_ret
                 exact ⟨by first | rfl | (simp; done) | (simp; exact qEmp _) | (simp [*]; done), by repeat (first | exact Drawn0.refl _ | apply Drawn0.step)⟩
                ·rw [if_neg c24] at H
                 have c24b0 : decide ((bt a0 11) < 48) = false := decide_eq_false c24
                 clear c24
                 by_cases c26 : (bt a0 11) > 57
                 ·rw [if_pos c26] at H
                  have c26b0 : decide (57 < (bt a0 11)) = true := decide_eq_true c26
                  clear c26
                  obtain rfl := Option.some.inj H
                  simp only [Option.some.injEq, Prod.mk.injEq] at H
                  obtain ⟨rfl⟩ := H
                  have p7 : 0 ≤ (12 : Int) := zz42
                  have q7 : 12 < a0.size := (by have : (12 : Int) < (a0.size : Int) := of_decide_eq_true zz0; omega)
                  have hx7 : ∀ h : 12 < a0.size, ((a0[12]'h).toNat : Int) = bt a0 12 := bt_at a0 12
                  clear p7
                  have qi7 : (12 < (a0.size : Int)) = True := eq_true (of_decide_eq_true zz0)
                  replace q7 := eq_true q7
                  go_enter Tryz.func42, Tryz.ntmps42
                  go_wp2_with (first | (go_at_call 72; (with_reducible refine (codicilref29_value.calls k (a0.extract 13 a0.size) true _ A10.out).mono ?_); rintro e w' ⟨rfl, ⟨nd, rfl⟩⟩; (try first | exact ⟨rfl, _, World.drewN_drewN _ _ _⟩ | exact ⟨rfl, _, Eq.trans (World.drewN_drewN _ _ _) (congrArg (World.drewN _) (Nat.add_assoc _ _ _))⟩); have p13 : 0 ≤ (9 : Int) := zz42; have q13 : 9 < a0.size := (by have : (9 : Int) < (a0.size : Int) := of_decide_eq_true zz0; omega); have hx13 : ∀ h : 9 < a0.size, ((a0[9]'h).toNat : Int) = bt a0 9 := bt_at a0 9; clear p13; have qi13 : (9 < (a0.size : Int)) = True := eq_true (of_decide_eq_true zz0); replace q13 := eq_true q13; have p15 : 0 ≤ (9 : Int) := zz42; have q15 : 9 < a0.size := (by have : (9 : Int) < (a0.size : Int) := of_decide_eq_true zz0; omega); have hx15 : ∀ h : 9 < a0.size, ((a0[9]'h).toNat : Int) = bt a0 9 := bt_at a0 9; clear p15; have qi15 : (9 < (a0.size : Int)) = True := eq_true (of_decide_eq_true zz0); replace q15 := eq_true q15; have p18 : 0 ≤ (10 : Int) := zz42; have q18 : 10 < a0.size := (by have : (10 : Int) < (a0.size : Int) := of_decide_eq_true zz0; omega); have hx18 : ∀ h : 10 < a0.size, ((a0[10]'h).toNat : Int) = bt a0 10 := bt_at a0 10; clear p18; have qi18 : (10 < (a0.size : Int)) = True := eq_true (of_decide_eq_true zz0); replace q18 := eq_true q18; have p20 : 0 ≤ (10 : Int) := zz42; have q20 : 10 < a0.size := (by have : (10 : Int) < (a0.size : Int) := of_decide_eq_true zz0; omega); have hx20 : ∀ h : 10 < a0.size, ((a0[10]'h).toNat : Int) = bt a0 10 := bt_at a0 10; clear p20; have qi20 : (10 < (a0.size : Int)) = True := eq_true (of_decide_eq_true zz0); replace q20 := eq_true q20; have p23 : 0 ≤ (11 : Int) := zz42; have q23 : 11 < a0.size := (by have : (11 : Int) < (a0.size : Int) := of_decide_eq_true zz0; omega); have hx23 : ∀ h : 11 < a0.size, ((a0[11]'h).toNat : Int) = bt a0 11 := bt_at a0 11; clear p23; have qi23 : (11 < (a0.size : Int)) = True := eq_true (of_decide_eq_true zz0); replace q23 := eq_true q23; have p25 : 0 ≤ (11 : Int) := zz42; have q25 : 11 < a0.size := (by have : (11 : Int) < (a0.size : Int) := of_decide_eq_true zz0; omega); have hx25 : ∀ h : 11 < a0.size, ((a0[11]'h).toNat : Int) = bt a0 11 := bt_at a0 11; clear p25; have qi25 : (11 < (a0.size : Int)) = True := eq_true (of_decide_eq_true zz0); replace q25 := eq_true q25))
                  go_ret
                  exact ⟨by first | rfl | (simp; done) | (simp; exact qEmp _) | (simp [*]; done), by repeat (first | exact Drawn0.refl _ | apply Drawn0.step)⟩
                 ·rw [if_neg c26] at H
                  have c26b0 : decide (57 < (bt a0 11)) = false := decide_eq_false c26
                  clear c26
                  obtain rfl := Option.some.inj H
                  simp only [Option.some.injEq, Prod.mk.injEq] at H
                  obtain ⟨rfl⟩ := H
                  have p7 : 0 ≤ (12 : Int) := zz42
                  have q7 : 12 < a0.size := (by have : (12 : Int) < (a0.size : Int) := of_decide_eq_true zz0; omega)
                  have hx7 : ∀ h : 12 < a0.size, ((a0[12]'h).toNat : Int) = bt a0 12 := bt_at a0 12
                  clear p7
                  have qi7 : (12 < (a0.size : Int)) = True := eq_true (of_decide_eq_true zz0)
                  replace q7 := eq_true q7
                  go_enter Tryz.func42, Tryz.ntmps42
                  go_wp2_with (first | (go_at_call 72; (with_reducible refine (codicilref29_value.calls k (a0.extract 13 a0.size) true _ A10.out).mono ?_); rintro e w' ⟨rfl, ⟨nd, rfl⟩⟩; (try first | exact ⟨rfl, _, World.drewN_drewN _ _ _⟩ | exact ⟨rfl, _, Eq.trans (World.drewN_drewN _ _ _) (congrArg (World.drewN _) (Nat.add_assoc _ _ _))⟩); have p13 : 0 ≤ (9 : Int) := zz42; have q13 : 9 < a0.size := (by have : (9 : Int) < (a0.size : Int) := of_decide_eq_true zz0; omega); have hx13 : ∀ h : 9 < a0.size, ((a0[9]'h).toNat : Int) = bt a0 9 := bt_at a0 9; clear p13; have qi13 : (9 < (a0.size : Int)) = True := eq_true (of_decide_eq_true zz0); replace q13 := eq_true q13; have p15 : 0 ≤ (9 : Int) := zz42; have q15 : 9 < a0.size := (by have : (9 : Int) < (a0.size : Int) := of_decide_eq_true zz0; omega); have hx15 : ∀ h : 9 < a0.size, ((a0[9]'h).toNat : Int) = bt a0 9 := bt_at a0 9; clear p15; have qi15 : (9 < (a0.size : Int)) = True := eq_true (of_decide_eq_true zz0); replace q15 := eq_true q15; have p18 : 0 ≤ (10 : Int) := zz42; have q18 : 10 < a0.size := (by have : (10 : Int) < (a0.size : Int) := of_decide_eq_true zz0; omega); have hx18 : ∀ h : 10 < a0.size, ((a0[10]'h).toNat : Int) = bt a0 10 := bt_at a0 10; clear p18; have qi18 : (10 < (a0.size : Int)) = True := eq_true (of_decide_eq_true zz0); replace q18 := eq_true q18; have p20 : 0 ≤ (10 : Int) := zz42; have q20 : 10 < a0.size := (by have : (10 : Int) < (a0.size : Int) := of_decide_eq_true zz0; omega); have hx20 : ∀ h : 10 < a0.size, ((a0[10]'h).toNat : Int) = bt a0 10 := bt_at a0 10; clear p20; have qi20 : (10 < (a0.size : Int)) = True := eq_true (of_decide_eq_true zz0); replace q20 := eq_true q20; have p23 : 0 ≤ (11 : Int) := zz42; have q23 : 11 < a0.size := (by have : (11 : Int) < (a0.size : Int) := of_decide_eq_true zz0; omega); have hx23 : ∀ h : 11 < a0.size, ((a0[11]'h).toNat : Int) = bt a0 11 := bt_at a0 11; clear p23; have qi23 : (11 < (a0.size : Int)) = True := eq_true (of_decide_eq_true zz0); replace q23 := eq_true q23; have p25 : 0 ≤ (11 : Int) := zz42; have q25 : 11 < a0.size := (by have : (11 : Int) < (a0.size : Int) := of_decide_eq_true zz0; omega); have hx25 : ∀ h : 11 < a0.size, ((a0[11]'h).toNat : Int) = bt a0 11 := bt_at a0 11; clear p25; have qi25 : (11 < (a0.size : Int)) = True := eq_true (of_decide_eq_true zz0); replace q25 := eq_true q25; have p27 : 0 ≤ (9 : Int) := zz42; have q27 : 9 < a0.size := (by have : (9 : Int) < (a0.size : Int) := of_decide_eq_true zz0; omega); have hx27 : ∀ h : 9 < a0.size, ((a0[9]'h).toNat : Int) = bt a0 9 := bt_at a0 9; clear p27; have qi27 : (9 < (a0.size : Int)) = True := eq_true (of_decide_eq_true zz0); replace q27 := eq_true q27; have p28 : 0 ≤ (10 : Int) := zz42; have q28 : 10 < a0.size := (by have : (10 : Int) < (a0.size : Int) := of_decide_eq_true zz0; omega); have hx28 : ∀ h : 10 < a0.size, ((a0[10]'h).toNat : Int) = bt a0 10 := bt_at a0 10; clear p28; have qi28 : (10 < (a0.size : Int)) = True := eq_true (of_decide_eq_true zz0); replace q28 := eq_true q28; have p29 : 0 ≤ (11 : Int) := zz42; have q29 : 11 < a0.size := (by have : (11 : Int) < (a0.size : Int) := of_decide_eq_true zz0; omega); have hx29 : ∀ h : 11 < a0.size, ((a0[11]'h).toNat : Int) = bt a0 11 := bt_at a0 11; clear p29; have qi29 : (11 < (a0.size : Int)) = True := eq_true (of_decide_eq_true zz0); replace q29 := eq_true q29))
                  repeat (go_quiet (first | (go_at_call 72; (with_reducible refine (codicilref29_value.calls k (a0.extract 13 a0.size) true _ A10.out).mono ?_); rintro e w' ⟨rfl, ⟨nd, rfl⟩⟩; (try first | exact ⟨rfl, _, World.drewN_drewN _ _ _⟩ | exact ⟨rfl, _, Eq.trans (World.drewN_drewN _ _ _) (congrArg (World.drewN _) (Nat.add_assoc _ _ _))⟩); have p13 : 0 ≤ (9 : Int) := zz42; have q13 : 9 < a0.size := (by have : (9 : Int) < (a0.size : Int) := of_decide_eq_true zz0; omega); have hx13 : ∀ h : 9 < a0.size, ((a0[9]'h).toNat : Int) = bt a0 9 := bt_at a0 9; clear p13; have qi13 : (9 < (a0.size : Int)) = True := eq_true (of_decide_eq_true zz0); replace q13 := eq_true q13; have p15 : 0 ≤ (9 : Int) := zz42; have q15 : 9 < a0.size := (by have : (9 : Int) < (a0.size : Int) := of_decide_eq_true zz0; omega); have hx15 : ∀ h : 9 < a0.size, ((a0[9]'h).toNat : Int) = bt a0 9 := bt_at a0 9; clear p15; have qi15 : (9 < (a0.size : Int)) = True := eq_true (of_decide_eq_true zz0); replace q15 := eq_true q15; have p18 : 0 ≤ (10 : Int) := zz42; have q18 : 10 < a0.size := (by have : (10 : Int) < (a0.size : Int) := of_decide_eq_true zz0; omega); have hx18 : ∀ h : 10 < a0.size, ((a0[10]'h).toNat : Int) = bt a0 10 := bt_at a0 10; clear p18; have qi18 : (10 < (a0.size : Int)) = True := eq_true (of_decide_eq_true zz0); replace q18 := eq_true q18; have p20 : 0 ≤ (10 : Int) := zz42; have q20 : 10 < a0.size := (by have : (10 : Int) < (a0.size : Int) := of_decide_eq_true zz0; omega); have hx20 : ∀ h : 10 < a0.size, ((a0[10]'h).toNat : Int) = bt a0 10 := bt_at a0 10; clear p20; have qi20 : (10 < (a0.size : Int)) = True := eq_true (of_decide_eq_true zz0); replace q20 := eq_true q20; have p23 : 0 ≤ (11 : Int) := zz42; have q23 : 11 < a0.size := (by have : (11 : Int) < (a0.size : Int) := of_decide_eq_true zz0; omega); have hx23 : ∀ h : 11 < a0.size, ((a0[11]'h).toNat : Int) = bt a0 11 := bt_at a0 11; clear p23; have qi23 : (11 < (a0.size : Int)) = True := eq_true (of_decide_eq_true zz0); replace q23 := eq_true q23; have p25 : 0 ≤ (11 : Int) := zz42; have q25 : 11 < a0.size := (by have : (11 : Int) < (a0.size : Int) := of_decide_eq_true zz0; omega); have hx25 : ∀ h : 11 < a0.size, ((a0[11]'h).toNat : Int) = bt a0 11 := bt_at a0 11; clear p25; have qi25 : (11 < (a0.size : Int)) = True := eq_true (of_decide_eq_true zz0); replace q25 := eq_true q25; have p27 : 0 ≤ (9 : Int) := zz42; have q27 : 9 < a0.size := (by have : (9 : Int) < (a0.size : Int) := of_decide_eq_true zz0; omega); have hx27 : ∀ h : 9 < a0.size, ((a0[9]'h).toNat : Int) = bt a0 9 := bt_at a0 9; clear p27; have qi27 : (9 < (a0.size : Int)) = True := eq_true (of_decide_eq_true zz0); replace q27 := eq_true q27; have p28 : 0 ≤ (10 : Int) := zz42; have q28 : 10 < a0.size := (by have : (10 : Int) < (a0.size : Int) := of_decide_eq_true zz0; omega); have hx28 : ∀ h : 10 < a0.size, ((a0[10]'h).toNat : Int) = bt a0 10 := bt_at a0 10; clear p28; have qi28 : (10 < (a0.size : Int)) = True := eq_true (of_decide_eq_true zz0); replace q28 := eq_true q28; have p29 : 0 ≤ (11 : Int) := zz42; have q29 : 11 < a0.size := (by have : (11 : Int) < (a0.size : Int) := of_decide_eq_true zz0; omega); have hx29 : ∀ h : 11 < a0.size, ((a0[11]'h).toNat : Int) = bt a0 11 := bt_at a0 11; clear p29; have qi29 : (11 < (a0.size : Int)) = True := eq_true (of_decide_eq_true zz0); replace q29 := eq_true q29)); try go_wp2_with (first | (go_at_call 72; (with_reducible refine (codicilref29_value.calls k (a0.extract 13 a0.size) true _ A10.out).mono ?_); rintro e w' ⟨rfl, ⟨nd, rfl⟩⟩; (try first | exact ⟨rfl, _, World.drewN_drewN _ _ _⟩ | exact ⟨rfl, _, Eq.trans (World.drewN_drewN _ _ _) (congrArg (World.drewN _) (Nat.add_assoc _ _ _))⟩); have p13 : 0 ≤ (9 : Int) := zz42; have q13 : 9 < a0.size := (by have : (9 : Int) < (a0.size : Int) := of_decide_eq_true zz0; omega); have hx13 : ∀ h : 9 < a0.size, ((a0[9]'h).toNat : Int) = bt a0 9 := bt_at a0 9; clear p13; have qi13 : (9 < (a0.size : Int)) = True := eq_true (of_decide_eq_true zz0); replace q13 := eq_true q13; have p15 : 0 ≤ (9 : Int) := zz42; have q15 : 9 < a0.size := (by have : (9 : Int) < (a0.size : Int) := of_decide_eq_true zz0; omega); have hx15 : ∀ h : 9 < a0.size, ((a0[9]'h).toNat : Int) = bt a0 9 := bt_at a0 9; clear p15; have qi15 : (9 < (a0.size : Int)) = True := eq_true (of_decide_eq_true zz0); replace q15 := eq_true q15; have p18 : 0 ≤ (10 : Int) := zz42; have q18 : 10 < a0.size := (by have : (10 : Int) < (a0.size : Int) := of_decide_eq_true zz0; omega); have hx18 : ∀ h : 10 < a0.size, ((a0[10]'h).toNat : Int) = bt a0 10 := bt_at a0 10; clear p18; have qi18 : (10 < (a0.size : Int)) = True := eq_true (of_decide_eq_true zz0); replace q18 := eq_true q18; have p20 : 0 ≤ (10 : Int) := zz42; have q20 : 10 < a0.size := (by have : (10 : Int) < (a0.size : Int) := of_decide_eq_true zz0; omega); have hx20 : ∀ h : 10 < a0.size, ((a0[10]'h).toNat : Int) = bt a0 10 := bt_at a0 10; clear p20; have qi20 : (10 < (a0.size : Int)) = True := eq_true (of_decide_eq_true zz0); replace q20 := eq_true q20; have p23 : 0 ≤ (11 : Int) := zz42; have q23 : 11 < a0.size := (by have : (11 : Int) < (a0.size : Int) := of_decide_eq_true zz0; omega); have hx23 : ∀ h : 11 < a0.size, ((a0[11]'h).toNat : Int) = bt a0 11 := bt_at a0 11; clear p23; have qi23 : (11 < (a0.size : Int)) = True := eq_true (of_decide_eq_true zz0); replace q23 := eq_true q23; have p25 : 0 ≤ (11 : Int) := zz42; have q25 : 11 < a0.size := (by have : (11 : Int) < (a0.size : Int) := of_decide_eq_true zz0; omega); have hx25 : ∀ h : 11 < a0.size, ((a0[11]'h).toNat : Int) = bt a0 11 := bt_at a0 11; clear p25; have qi25 : (11 < (a0.size : Int)) = True := eq_true (of_decide_eq_true zz0); replace q25 := eq_true q25; have p27 : 0 ≤ (9 : Int) := zz42; have q27 : 9 < a0.size := (by have : (9 : Int) < (a0.size : Int) := of_decide_eq_true zz0; omega); have hx27 : ∀ h : 9 < a0.size, ((a0[9]'h).toNat : Int) = bt a0 9 := bt_at a0 9; clear p27; have qi27 : (9 < (a0.size : Int)) = True := eq_true (of_decide_eq_true zz0); replace q27 := eq_true q27; have p28 : 0 ≤ (10 : Int) := zz42; have q28 : 10 < a0.size := (by have : (10 : Int) < (a0.size : Int) := of_decide_eq_true zz0; omega); have hx28 : ∀ h : 10 < a0.size, ((a0[10]'h).toNat : Int) = bt a0 10 := bt_at a0 10; clear p28; have qi28 : (10 < (a0.size : Int)) = True := eq_true (of_decide_eq_true zz0); replace q28 := eq_true q28; have p29 : 0 ≤ (11 : Int) := zz42; have q29 : 11 < a0.size := (by have : (11 : Int) < (a0.size : Int) := of_decide_eq_true zz0; omega); have hx29 : ∀ h : 11 < a0.size, ((a0[11]'h).toNat : Int) = bt a0 11 := bt_at a0 11; clear p29; have qi29 : (11 < (a0.size : Int)) = True := eq_true (of_decide_eq_true zz0); replace q29 := eq_true q29)))
                  go_ret
                  exact ⟨by first | rfl | (simp; done) | (simp; exact qEmp _) | (simp [*]; done), by repeat (first | exact Drawn0.refl _ | apply Drawn0.step)⟩
               ·rw [if_neg c22] at H
                exact absurd H zz65
            ·rw [if_neg c17] at H
             exact absurd H zz65
         ·rw [if_neg c12] at H
          exact absurd H zz65
        ·replace c11 := Bool.eq_false_iff.mpr c11
         subst c11
         have H1 : (some 0) = some r := by rw [if_neg (show ¬ (false = true) by decide)] at H; exact H
         clear H
         have H := H1
         clear H1
         obtain rfl := Option.some.inj H
         simp only [Option.some.injEq, Prod.mk.injEq] at H
         obtain ⟨rfl⟩ := H
         have p7 : 0 ≤ (12 : Int) := zz42
         have q7 : 12 < a0.size := (by have : (12 : Int) < (a0.size : Int) := of_decide_eq_true zz0; omega)
         have hx7 : ∀ h : 12 < a0.size, ((a0[12]'h).toNat : Int) = bt a0 12 := bt_at a0 12
         clear p7
         have qi7 : (12 < (a0.size : Int)) = True := eq_true (of_decide_eq_true zz0)
         replace q7 := eq_true q7
         go_enter Tryz.func42, Tryz.ntmps42
         go_wp2_with (first | (go_at_call 72; (with_reducible refine (codicilref29_value.calls k (a0.extract 13 a0.size) false _ A10.out).mono ?_); rintro e w' ⟨rfl, ⟨nd, rfl⟩⟩; (try first | exact ⟨rfl, _, World.drewN_drewN _ _ _⟩ | exact ⟨rfl, _, Eq.trans (World.drewN_drewN _ _ _) (congrArg (World.drewN _) (Nat.add_assoc _ _ _))⟩)))
         go_ret
         exact ⟨by first | rfl | (simp; done) | (simp; exact qEmp _) | (simp [*]; done), by repeat (first | exact Drawn0.refl _ | apply Drawn0.step)⟩
       ·rw [if_neg c9] at H
        exact absurd H zz65
      ·rw [if_neg c8] at H
       have c8b0 : ((bt a0 12) == 32) = false := beq_eq_false_iff_ne.mpr c8
       have c8b1 : ((bt a0 12) != 32) = true := bne_iff_ne.mpr c8
       obtain rfl := Option.some.inj H
       simp only [Option.some.injEq, Prod.mk.injEq] at H
       obtain ⟨rfl⟩ := H
       have p7 : 0 ≤ (12 : Int) := zz42
       have q7 : 12 < a0.size := (by have : (12 : Int) < (a0.size : Int) := of_decide_eq_true zz0; omega)
       have hx7 : ∀ h : 12 < a0.size, ((a0[12]'h).toNat : Int) = bt a0 12 := bt_at a0 12
       clear p7
       have qi7 : (12 < (a0.size : Int)) = True := eq_true (of_decide_eq_true zz0)
       replace q7 := eq_true q7
       go_enter Tryz.func42, Tryz.ntmps42
       go_wp2
       repeat (go_quiet (fail); try go_wp2)
       go_ret
       exact ⟨by first | rfl | (simp; done) | (simp; exact qEmp _) | (simp [*]; done), by repeat (first | exact Drawn0.refl _ | apply Drawn0.step)⟩
     ·rw [if_neg c6] at H
      exact absurd H zz65
    ·rw [if_neg c5] at H
     have c5b0 : ((a0.extract 0 9).toList == ([72, 84, 84, 80, 47, 49, 46, 49, 32] : List UInt8)) = false := beq_eq_false_iff_ne.mpr c5
     have c5b1 : ((a0.extract 0 9).toList != ([72, 84, 84, 80, 47, 49, 46, 49, 32] : List UInt8)) = true := bne_iff_ne.mpr c5
     obtain rfl := Option.some.inj H
     simp only [Option.some.injEq, Prod.mk.injEq] at H
     obtain ⟨rfl⟩ := H
     go_enter Tryz.func42, Tryz.ntmps42
     go_wp2
     repeat (go_quiet (fail); try go_wp2)
     go_ret
     exact ⟨by first | rfl | (simp; done) | (simp; exact qEmp _) | (simp [*]; done), by repeat (first | exact Drawn0.refl _ | apply Drawn0.step)⟩
   ·rw [if_neg c4] at H
    exact absurd H zz65
  ·rw [if_neg c3] at H
   exact absurd H zz65

/-! ### codicilref29_first: function 67 -/
def codicilref29_first.f (k : Nat) (a0 : ByteArray) : Option (Bool) := (codicilref29_request.f k a0).bind fun bt183 => (if bt183.2.2 = true then (some true) else ((codicilref29_response.f k a0).bind fun t186 => (some (decide (t186 > 0)))))
theorem codicilref29_first.mono : ∀ a0 k, LeO (codicilref29_first.f k a0) (codicilref29_first.f (k + 1) a0) := by
 intro a0 k
 unfold codicilref29_first.f
 repeat' first
   | (with_reducible exact codicilref29_request.mono _ _)
   | (with_reducible exact codicilref29_response.mono _ _)
   | (with_reducible exact LeO.refl _)
   | (with_reducible exact LeO.none _)
   | (with_reducible refine LeO.ite ?_ ?_)
   | (with_reducible refine LeO.bind ?_ (fun _ => ?_))
   | exact codicilref29_request.mono _ _
   | exact codicilref29_response.mono _ _
   | exact LeO.none _
   | refine LeO.ite ?_ ?_
   | refine LeO.bind ?_ (fun _ => ?_)
set_option maxHeartbeats 8000000 in
set_option maxRecDepth 100000 in
theorem codicilref29_first.calls (k : Nat) (a0 : ByteArray) (r : Bool) (w : World) (h : codicilref29_first.f k a0 = some r) :
  Calls Tryz.prog 67 #[.string a0] w fun e w' => e = .returned (.bool r) ∧ Drawn0 w w' := by
 have H : ((codicilref29_request.f k a0).bind fun bt183 => (if bt183.2.2 = true then (some true) else ((codicilref29_response.f k a0).bind fun t186 => (some (decide (t186 > 0)))))) = some r := h
 clear h
 replace H := Option.bind_eq_some_iff.mp H
 obtain ⟨⟨t183, t184, t185⟩, A20, H⟩ := H
 (try dsimp only at H)
 have A2 := qH A20
 clear A20
 by_cases c3 : t185 = true
 ·subst c3
  have H1 : (some true) = some r := by rw [if_pos rfl] at H; exact H
  clear H
  have H := H1
  clear H1
  obtain rfl := Option.some.inj H
  simp only [Option.some.injEq, Prod.mk.injEq] at H
  obtain ⟨rfl⟩ := H
  go_enter Tryz.func67, Tryz.ntmps67
  go_wp2_with (first | ((with_reducible refine gate_callee (f := 35) rfl ?_); refine goesL_ (some 8) rfl rfl Tryz.func35 (by kernel_rfl) rfl #[.string a0] rfl zz4 ?_; (with_reducible refine (codicilref29_request.calls k a0 t183 t184 true _ A2.out).mono ?_); rintro e w' ⟨rfl, ⟨nd, rfl⟩⟩; refine ⟨_, rfl, ?_⟩))
  go_ret
  exact ⟨by first | rfl | (simp; done) | (simp; exact qEmp _) | (simp [*]; done), by repeat (first | exact Drawn0.refl _ | apply Drawn0.step)⟩
 ·replace c3 := Bool.eq_false_iff.mpr c3
  subst c3
  have H1 : ((codicilref29_response.f k a0).bind fun t186 => (some (decide (t186 > 0)))) = some r := by rw [if_neg (show ¬ (false = true) by decide)] at H; exact H
  clear H
  have H := H1
  clear H1
  replace H := Option.bind_eq_some_iff.mp H
  obtain ⟨t186, A40, H⟩ := H
  (try dsimp only at H)
  have A4 := qH A40
  clear A40
  obtain rfl := Option.some.inj H
  simp only [Option.some.injEq, Prod.mk.injEq] at H
  obtain ⟨rfl⟩ := H
  go_enter Tryz.func67, Tryz.ntmps67
  go_wp2_with (first | ((with_reducible refine gate_callee (f := 35) rfl ?_); refine goesL_ (some 8) rfl rfl Tryz.func35 (by kernel_rfl) rfl #[.string a0] rfl zz4 ?_; (with_reducible refine (codicilref29_request.calls k a0 t183 t184 false _ A2.out).mono ?_); rintro e w' ⟨rfl, ⟨nd, rfl⟩⟩; refine ⟨_, rfl, ?_⟩) | (go_at_call 42; (with_reducible refine (codicilref29_response.calls k a0 t186 _ A4.out).mono ?_); rintro e w' ⟨rfl, ⟨nd, rfl⟩⟩))
  go_ret
  exact ⟨by first | rfl | (simp; done) | (simp; exact qEmp _) | (simp [*]; done), by repeat (first | exact Drawn0.refl _ | apply Drawn0.step)⟩

/-! ### codicilref29_Head: function 33 -/
def codicilref29_Head.j0 : Nat → ByteArray → Int → List ByteArray → List (S59) → Int → Bool → Option (ByteArray × (List (S59)) × ByteArray × Int × Int)
 | 0, _, _, _, _, _, _ => none
 | k + 1, x0, x7, x8, x10, x11, x44 => if x44 = true then (some ((⟨#[]⟩ : ByteArray), ([] : List (S59)), (⟨#[]⟩ : ByteArray), 0, 291)) else (if x11 > 65536 then (some ((⟨#[]⟩ : ByteArray), ([] : List (S59)), (⟨#[]⟩ : ByteArray), 0, 292)) else (if (x0.size : Int) < (wrap64 (x7 + x11)) then (some ((⟨#[]⟩ : ByteArray), ([] : List (S59)), (⟨#[]⟩ : ByteArray), 0, 290)) else (if 0 < (x8.length : Int) then (if 0 ≤ x7 then (if x7 ≤ (wrap64 (x7 + x11)) then (if (wrap64 (x7 + x11)) ≤ (x0.size : Int) then (some (rdOf ByteArray.empty x8 0, x10, x0.extract (x7 : Int).toNat ((wrap64 (x7 + x11)) : Int).toNat, wrap64 (x7 + x11), 0)) else (none)) else (none)) else (none)) else (none))))
def codicilref29_Head.f (k : Nat) (a0 : ByteArray) : Option (ByteArray × (List (S59)) × ByteArray × Int × Int) := (codicilref29_end.f k a0).bind fun t187 => (if t187 = 0 then (if (a0.size : Int) ≥ 8192 then (some ((⟨#[]⟩ : ByteArray), ([] : List (S59)), (⟨#[]⟩ : ByteArray), 0, 292)) else (some ((⟨#[]⟩ : ByteArray), ([] : List (S59)), (⟨#[]⟩ : ByteArray), 0, 290))) else (if 0 ≤ (wrap64 (t187 - 4)) then (if (wrap64 (t187 - 4)) ≤ (a0.size : Int) then ((codicilref29_lines.f k (a0.extract 0 ((wrap64 (t187 - 4)) : Int).toNat)).bind fun bt188 => (if bt188.2 = true then (if 1 ≤ (bt188.1.length : Int) then ((codicilref29_headers.f k (bt188.1.drop 1)).bind fun bt196 => (if bt196.2.2 = true then (if 0 < (bt188.1.length : Int) then ((codicilref29_first.f k (rdOf ByteArray.empty bt188.1 0)).bind fun t202 => (codicilref29_Head.j0 k a0 t187 bt188.1 bt196.1 bt196.2.1 (!t202))) else (none)) else (codicilref29_Head.j0 k a0 t187 bt188.1 bt196.1 bt196.2.1 true))) else (none)) else (some ((⟨#[]⟩ : ByteArray), ([] : List (S59)), (⟨#[]⟩ : ByteArray), 0, 291)))) else (none)) else (none)))
theorem codicilref29_Head.mono_l : ∀ k, (∀ y0 y1 y2 y3 y4 y5, LeO (codicilref29_Head.j0 k y0 y1 y2 y3 y4 y5) (codicilref29_Head.j0 (k + 1) y0 y1 y2 y3 y4 y5))
 | 0 => fun _ _ _ _ _ _ r h => by simp [codicilref29_Head.j0] at h
 | k + 1 => by
  have ih0 := codicilref29_Head.mono_l k
  ·intro y0 y1 y2 y3 y4 y5
   unfold codicilref29_Head.j0
   repeat' first
   | (with_reducible exact ih0 _ _ _ _ _ _)
   | (with_reducible exact codicilref29_end.mono _ _)
   | (with_reducible exact codicilref29_first.mono _ _)
   | (with_reducible exact codicilref29_headers.mono _ _)
   | (with_reducible exact codicilref29_lines.mono _ _)
   | (with_reducible exact LeO.refl _)
   | (with_reducible exact LeO.none _)
   | (with_reducible refine LeO.ite ?_ ?_)
   | (with_reducible refine LeO.bind ?_ (fun _ => ?_))
   | exact ih0 _ _ _ _ _ _
   | exact codicilref29_end.mono _ _
   | exact codicilref29_first.mono _ _
   | exact codicilref29_headers.mono _ _
   | exact codicilref29_lines.mono _ _
   | exact LeO.none _
   | refine LeO.ite ?_ ?_
   | refine LeO.bind ?_ (fun _ => ?_)
theorem codicilref29_Head.mono : ∀ a0 k, LeO (codicilref29_Head.f k a0) (codicilref29_Head.f (k + 1) a0) := by
 intro a0 k
 have ih0 := codicilref29_Head.mono_l k
 unfold codicilref29_Head.f
 repeat' first
   | (with_reducible exact ih0 _ _ _ _ _ _)
   | (with_reducible exact codicilref29_end.mono _ _)
   | (with_reducible exact codicilref29_first.mono _ _)
   | (with_reducible exact codicilref29_headers.mono _ _)
   | (with_reducible exact codicilref29_lines.mono _ _)
   | (with_reducible exact LeO.refl _)
   | (with_reducible exact LeO.none _)
   | (with_reducible refine LeO.ite ?_ ?_)
   | (with_reducible refine LeO.bind ?_ (fun _ => ?_))
   | exact ih0 _ _ _ _ _ _
   | exact codicilref29_end.mono _ _
   | exact codicilref29_first.mono _ _
   | exact codicilref29_headers.mono _ _
   | exact codicilref29_lines.mono _ _
   | exact LeO.none _
   | refine LeO.ite ?_ ?_
   | refine LeO.bind ?_ (fun _ => ?_)
set_option maxHeartbeats 8000000 in
set_option maxRecDepth 100000 in
theorem codicilref29_Head.calls (k : Nat) (a0 : ByteArray) (r1 : ByteArray) (r2 : List (S59)) (r3 : ByteArray) (r4 : Int) (r5 : Int) (w : World) (h : codicilref29_Head.f k a0 = some (r1, r2, r3, r4, r5)) :
  Calls Tryz.prog 33 #[.string a0] w fun e w' => ∃ v1_ : Value, e = .returned (.tuple #[.string r1, v1_, .string r3, .int .i64 r4, .int .i64 r5]) ∧ Kd.R k59 59 w' w.heap.size (fun _ => True) v1_ r2 ∧ Below w.heap.size w w' := by
 have HB := qH (Below.refl w.heap.size w)
 have H : ((codicilref29_end.f k a0).bind fun t187 => (if t187 = 0 then (if (a0.size : Int) ≥ 8192 then (some ((⟨#[]⟩ : ByteArray), ([] : List (S59)), (⟨#[]⟩ : ByteArray), 0, 292)) else (some ((⟨#[]⟩ : ByteArray), ([] : List (S59)), (⟨#[]⟩ : ByteArray), 0, 290))) else (if 0 ≤ (wrap64 (t187 - 4)) then (if (wrap64 (t187 - 4)) ≤ (a0.size : Int) then ((codicilref29_lines.f k (a0.extract 0 ((wrap64 (t187 - 4)) : Int).toNat)).bind fun bt188 => (if bt188.2 = true then (if 1 ≤ (bt188.1.length : Int) then ((codicilref29_headers.f k (bt188.1.drop 1)).bind fun bt196 => (if bt196.2.2 = true then (if 0 < (bt188.1.length : Int) then ((codicilref29_first.f k (rdOf ByteArray.empty bt188.1 0)).bind fun t202 => (codicilref29_Head.j0 k a0 t187 bt188.1 bt196.1 bt196.2.1 (!t202))) else (none)) else (codicilref29_Head.j0 k a0 t187 bt188.1 bt196.1 bt196.2.1 true))) else (none)) else (some ((⟨#[]⟩ : ByteArray), ([] : List (S59)), (⟨#[]⟩ : ByteArray), 0, 291)))) else (none)) else (none)))) = some (r1, r2, r3, r4, r5) := h
 clear h
 replace H := Option.bind_eq_some_iff.mp H
 obtain ⟨t187, A20, H⟩ := H
 (try dsimp only at H)
 have A2 := qH A20
 clear A20
 by_cases c3 : t187 = 0
 ·rw [if_pos c3] at H
  have c3b0 : (t187 == 0) = true := beq_iff_eq.mpr c3
  have c3b1 : (t187 != 0) = false := bne_eq_false_iff_eq.mpr c3
  clear c3
  by_cases c4 : (a0.size : Int) ≥ 8192
  ·rw [if_pos c4] at H
   have c4b0 : decide (8192 ≤ (a0.size : Int)) = true := decide_eq_true c4
   have c4b1 : decide (8192 ≤ a0.size) = true := decide_eq_true zz42
   clear c4
   simp only [Option.some.injEq, Prod.mk.injEq] at H
   obtain ⟨rfl, rfl, rfl, rfl, rfl⟩ := H
   go_enter Tryz.func33, Tryz.ntmps33
   go_wp2_with (first | (go_at_call 34; (with_reducible refine (codicilref29_end.calls k a0 t187 _ A2.out).mono ?_); rintro e w' ⟨rfl, ⟨nd, rfl⟩⟩; (try first | exact ⟨rfl, _, World.drewN_drewN _ _ _⟩ | exact ⟨rfl, _, Eq.trans (World.drewN_drewN _ _ _) (congrArg (World.drewN _) (Nat.add_assoc _ _ _))⟩)))
   refine bodyPost_ret (results_list (rs := [.tmp 2, .tmp 3, .tmp 4, .tmp 5, .tmp 6]) rfl zz65 (.tmp (.tmp (.tmp (.tmp (.tmp .nil)))))) rfl ?_
   exact ⟨_, by first | rfl | (simp [errW_none, errW_some] <;> rfl) | (simp [*, errW_none, errW_some] <;> rfl), by first | exact Kd.R_nil _ _ _ _ _ | exact Kd.N_nil _ _ _ _ _ | exact Kd.V_nil _ _ _ _ _ | exact Kd.Q_nil _ _ _ _ _ | exact Kd.S_nil _ _ _ _ _, by repeat (first | (with_reducible first | exact HB.out | apply qL | apply qJ | apply qK) | exact HB.out)⟩
  ·rw [if_neg c4] at H
   have c4b0 : decide (8192 ≤ (a0.size : Int)) = false := decide_eq_false c4
   have c4b1 : decide (8192 ≤ a0.size) = false := decide_eq_false zz42
   clear c4
   simp only [Option.some.injEq, Prod.mk.injEq] at H
   obtain ⟨rfl, rfl, rfl, rfl, rfl⟩ := H
   go_enter Tryz.func33, Tryz.ntmps33
   go_wp2_with (first | (go_at_call 34; (with_reducible refine (codicilref29_end.calls k a0 t187 _ A2.out).mono ?_); rintro e w' ⟨rfl, ⟨nd, rfl⟩⟩; (try first | exact ⟨rfl, _, World.drewN_drewN _ _ _⟩ | exact ⟨rfl, _, Eq.trans (World.drewN_drewN _ _ _) (congrArg (World.drewN _) (Nat.add_assoc _ _ _))⟩)))
   refine bodyPost_ret (results_list (rs := [.tmp 2, .tmp 3, .tmp 4, .tmp 5, .tmp 6]) rfl zz65 (.tmp (.tmp (.tmp (.tmp (.tmp .nil)))))) rfl ?_
   exact ⟨_, by first | rfl | (simp [errW_none, errW_some] <;> rfl) | (simp [*, errW_none, errW_some] <;> rfl), by first | exact Kd.R_nil _ _ _ _ _ | exact Kd.N_nil _ _ _ _ _ | exact Kd.V_nil _ _ _ _ _ | exact Kd.Q_nil _ _ _ _ _ | exact Kd.S_nil _ _ _ _ _, by repeat (first | (with_reducible first | exact HB.out | apply qL | apply qJ | apply qK) | exact HB.out)⟩
 ·rw [if_neg c3] at H
  have c3b0 : (t187 == 0) = false := beq_eq_false_iff_ne.mpr c3
  have c3b1 : (t187 != 0) = true := bne_iff_ne.mpr c3
  obtain ⟨ji5, hji5⟩ : ∃ j_ : Int, (wrap64 (t187 - 4)) = j_ := ⟨_, rfl⟩
  replace H : (if 0 ≤ (ji5) then (if (ji5) ≤ (a0.size : Int) then ((codicilref29_lines.f k (a0.extract 0 ((ji5) : Int).toNat)).bind fun bt188 => (if bt188.2 = true then (if 1 ≤ (bt188.1.length : Int) then ((codicilref29_headers.f k (bt188.1.drop 1)).bind fun bt196 => (if bt196.2.2 = true then (if 0 < (bt188.1.length : Int) then ((codicilref29_first.f k (rdOf ByteArray.empty bt188.1 0)).bind fun t202 => (codicilref29_Head.j0 k a0 t187 bt188.1 bt196.1 bt196.2.1 (!t202))) else (none)) else (codicilref29_Head.j0 k a0 t187 bt188.1 bt196.1 bt196.2.1 true))) else (none)) else (some ((⟨#[]⟩ : ByteArray), ([] : List (S59)), (⟨#[]⟩ : ByteArray), 0, 291)))) else (none)) else (none)) = some (r1, r2, r3, r4, r5) := by first | (rw [hji5] at H; exact H) | (simp only [hji5] at H ⊢; exact H)
  (try rw [hji5] at A2)
  have hji5w : (IntKind.i64.wrap (t187 - 4)) = ji5 := (i64_w _).trans hji5
  by_cases c6 : 0 ≤ (ji5)
  ·rw [if_pos c6] at H
   have c6b0 := eq_true c6
   have c6b1 : decide (0 ≤ (ji5)) = true := decide_eq_true c6
   clear c6
   by_cases c7 : (ji5) ≤ (a0.size : Int)
   ·rw [if_pos c7] at H
    have c7b0 := eq_true c7
    have c7b1 : decide ((ji5) ≤ (a0.size : Int)) = true := decide_eq_true c7
    clear c7
    replace H := Option.bind_eq_some_iff.mp H
    obtain ⟨⟨t188, t189⟩, A80, H⟩ := H
    (try dsimp only at H)
    have A8 := qH A80
    clear A80
    by_cases c9 : t189 = true
    ·subst c9
     have H1 : (if 1 ≤ (t188.length : Int) then ((codicilref29_headers.f k (t188.drop 1)).bind fun bt196 => (if bt196.2.2 = true then (if 0 < (t188.length : Int) then ((codicilref29_first.f k (rdOf ByteArray.empty t188 0)).bind fun t202 => (codicilref29_Head.j0 k a0 t187 t188 bt196.1 bt196.2.1 (!t202))) else (none)) else (codicilref29_Head.j0 k a0 t187 t188 bt196.1 bt196.2.1 true))) else (none)) = some (r1, r2, r3, r4, r5) := by rw [if_pos rfl] at H; exact H
     clear H
     have H := H1
     clear H1
     by_cases c10 : 1 ≤ (t188.length : Int)
     ·rw [if_pos c10] at H
      have c10b0 := eq_true c10
      have c10b1 : decide (1 ≤ (t188.length : Int)) = true := decide_eq_true c10
      clear c10
      obtain ⟨y192, hy192⟩ : ∃ y_ : List ByteArray, y_ = (t188.drop 1) := ⟨_, rfl⟩
      replace H : ((codicilref29_headers.f k y192).bind fun bt196 => (if bt196.2.2 = true then (if 0 < (t188.length : Int) then ((codicilref29_first.f k (rdOf ByteArray.empty t188 0)).bind fun t202 => (codicilref29_Head.j0 k a0 t187 t188 bt196.1 bt196.2.1 (!t202))) else (none)) else (codicilref29_Head.j0 k a0 t187 t188 bt196.1 bt196.2.1 true))) = some (r1, r2, r3, r4, r5) := by first | (rw [hy192]; with_reducible exact H) | (have H2_ := (Option.bind_some _ _).symm.trans H; rw [hy192]; with_reducible exact H2_) | (have H2_ := (Option.bind_some _ _).symm.trans H; with_reducible exact H2_) | with_reducible exact H | (rw [hy192]; exact H) | exact H
      have Ny192 := qH hy192
      clear hy192
      replace H := Option.bind_eq_some_iff.mp H
      obtain ⟨⟨t196, t197, t198⟩, A110, H⟩ := H
      (try dsimp only at H)
      have A11 := qH A110
      clear A110
      have HC12 := qH H
      clear H
      go_enter Tryz.func33, Tryz.ntmps33
      go_upto_region 10 with (first | (go_at_call 34; (with_reducible refine (codicilref29_end.calls k a0 t187 _ A2.out).mono ?_); rintro e w' ⟨rfl, ⟨nd, rfl⟩⟩; (try first | exact ⟨rfl, _, World.drewN_drewN _ _ _⟩ | exact ⟨rfl, _, Eq.trans (World.drewN_drewN _ _ _) (congrArg (World.drewN _) (Nat.add_assoc _ _ _))⟩)) | (go_at_call 36; (with_reducible refine (codicilref29_lines.calls k (a0.extract 0 ((ji5) : Int).toNat) t188 true _ A8.out).mono ?_); rintro e w13 ⟨v190, rfl, ho0, hb⟩; have n0_ := qH (Kd.R_lower ho0 (below_size zz2)); have n1_ := qH (below_step zz2 hb); clear HB; have HO191 := n0_; have HB := n1_; clear n0_ n1_; (try clear hb); (try clear hb2); (try clear hk); (try clear hi); (try clear ho0); obtain ⟨Ao15, co15, eo15⟩ := Kd.R_slice HO191.out; subst eo15; have q14 : (1 : Int) ≤ ((t188.length : Int) : Int) := of_decide_eq_true zz0; obtain ⟨i014, hi014, _, hsz14, _⟩ := info_parts info9; have hroom14 : t188.length ≤ co15 := (Kd.R_reads' HO191.out).2.1; have hC14 : Kd.C Kd.string _ Ao15 t188.length t188 := (Kd.R_reads' HO191.out).2.2; have hcut14 := cut_from (P := Tryz.prog) 40 9 .i64 Tryz.underlying40 hi014 1 hsz14 Ao15 t188.length co15 1 zz42 q14; have hr14 := Kd.C_drop (m := (1 : Int).toNat) (c := co15) hC14 zz42 hroom14; obtain ⟨A14, hA14⟩ : ∃ A1, A1 = (if co15 = (1 : Int).toNat then Ao15 else (Ao15 : Option Addr).map (·.add ((1 : Int).toNat * 1))) := ⟨_, rfl⟩; obtain ⟨c14, hc14⟩ : ∃ c1, c1 = co15 - (1 : Int).toNat := ⟨_, rfl⟩; have hy14 : y192.length = t188.length - (1 : Int).toNat := (by rw [Ny192.out, List.length_drop] <;> omega); rw [show (t188).drop (1 : Int).toNat = y192 from Ny192.out.symm] at hr14; replace hr14 : Kd.C Kd.string _ A14 y192.length y192 := (by rw [hA14]; exact hr14); rw [← hy14, ← hA14, ← hc14] at hcut14; have HR195 := qH hr14; have HC195 := qH (show y192.length ≤ c14 from by rw [hy14, hc14]; exact Nat.sub_le_sub_right hroom14 _); clear hr14 hC14 hroom14 hi014 hsz14 hc14; have KY14 := qH hy14; have KA14 := qH hA14; clear hy14 hA14; have KL14 := qH (show 1 ≤ t188.length from by omega); replace q14 := eq_true q14) | (go_at_call 66; (with_reducible refine (codicilref29_headers.calls k _ _ y192 t196 t197 t198 _ ?side1 ?side2 A11.out).mono ?_); (case side1 => repeat (first | exact zz32 | (with_reducible refine Kd.C_alloc ?_ _) | (with_reducible refine Kd.C_drewN ?_ _) | (with_reducible refine Kd.C_drew ?_))); (case side2 => exact HC195.out); rintro e w16 ⟨v199, rfl, ho0, hb⟩; have n0_ := qH (Kd.R_below (by (with_reducible repeat (first | apply Kd.R_alloc | apply Kd.R_drewN | apply Kd.R_drew)); exact HO191.out) hb); have n1_ := qH (Kd.R_lower ho0 (below_size zz2)); have n2_ := qH (Kd.C_below zz32 hb); have n3_ := qH (below_step zz2 hb); clear HO191; clear HR195; clear HB; have HO191 := n0_; have HO200 := n1_; have HR195 := n2_; have HB := n3_; clear n0_ n1_ n2_ n3_; (try clear hb); (try clear hb2); (try clear hk); (try clear hi); (try clear ho0)))
      (try simp only [Act.put, List.setIfInBounds_toArray, List.set_cons_zero, List.set_cons_succ])
      go_cut [44] (fun v44 wc => ∃ (kq : Nat) (x44_11 : Bool), v44 = .bool x44_11 ∧ Aside0 (codicilref29_Head.j0 kq a0 t187 t188 t196 t197 x44_11 = some (r1, r2, r3, r4, r5)) ∧ Aside0 (kq ≤ k) ∧ Aside0 (Kd.R Kd.string 9 wc w.heap.size (fun _ => True) (.slice Ao15 t188.length co15) t188) ∧ Aside0 (Kd.R k59 59 wc w.heap.size (fun _ => True) v199 t196) ∧ Aside0 (Kd.C Kd.string wc A14 y192.length y192) ∧ Aside0 (Below w.heap.size w wc))
      case first =>
       have H := HC12.out
       clear HC12
       by_cases c17 : t198 = true
       ·subst c17
        have H1 : (if 0 < (t188.length : Int) then ((codicilref29_first.f k (rdOf ByteArray.empty t188 0)).bind fun t202 => (codicilref29_Head.j0 k a0 t187 t188 t196 t197 (!t202))) else (none)) = some (r1, r2, r3, r4, r5) := by rw [if_pos rfl] at H; exact H
        clear H
        have H := H1
        clear H1
        by_cases c18 : 0 < (t188.length : Int)
        ·rw [if_pos c18] at H
         have c18b0 : decide (0 < (t188.length : Int)) = true := decide_eq_true c18
         have c18b1 : decide (0 < t188.length) = true := decide_eq_true zz42
         clear c18
         (first | rw [c18b0] | (simp only [i64_w, i32_w]; rw [c18b0]) | skip)
         replace H := Option.bind_eq_some_iff.mp H
         obtain ⟨t202, A190, H⟩ := H
         (try dsimp only at H)
         have A19 := qH A190
         clear A190
         have H' := qH H
         clear H
         have p201 : 0 ≤ (0 : Int) := zz42
         have q201 : 0 < (t188.length : Int) := of_decide_eq_true zz0
         obtain ⟨ad201, e201, hx201_0⟩ := Kd.at_string (Kd.R_reads' HO191.out).2.2 0 p201 q201
         cases e201
         have qi201 : (0 < t188.length) = True := eq_true zz42
         (try rw [show ((0 : Int)).toNat = 0 from rfl] at hx201_0)
         (try rw [Addr.add_zero'] at hx201_0)
         replace p201 := eq_true p201
         replace q201 := eq_true q201
         go_wp2_with (first | (go_at_call 67; (with_reducible refine (codicilref29_first.calls k (rdOf ByteArray.empty t188 0) t202 _ A19.out).mono ?_); rintro e w' ⟨rfl, ⟨nd, rfl⟩⟩; (try first | exact ⟨rfl, _, World.drewN_drewN _ _ _⟩ | exact ⟨rfl, _, Eq.trans (World.drewN_drewN _ _ _) (congrArg (World.drewN _) (Nat.add_assoc _ _ _))⟩)))
         go_meet
         case rel => exact ⟨_, (!t202), zz3, H', ⟨by first | omega | exact Nat.le_refl _⟩, ⟨by (with_reducible repeat (first | apply Kd.R_alloc | apply Kd.R_drewN | apply Kd.R_drew)); exact HO191.out⟩, ⟨by (with_reducible repeat (first | apply Kd.R_alloc | apply Kd.R_drewN | apply Kd.R_drew)); exact HO200.out⟩, ⟨by repeat (first | (with_reducible exact HR195.out) | (with_reducible refine Kd.C_alloc ?_ _) | (with_reducible refine Kd.C_drewN ?_ _) | (with_reducible refine Kd.C_drew ?_) | exact HR195.out)⟩, ⟨by repeat (first | (with_reducible first | exact HB.out | apply qL | apply qJ | apply qK) | exact HB.out)⟩⟩
        ·rw [if_neg c18] at H
         exact absurd H zz65
       ·replace c17 := Bool.eq_false_iff.mpr c17
        subst c17
        have H1 : (codicilref29_Head.j0 k a0 t187 t188 t196 t197 true) = some (r1, r2, r3, r4, r5) := by rw [if_neg (show ¬ (false = true) by decide)] at H; exact H
        clear H
        have H := H1
        clear H1
        have H' := qH H
        clear H
        go_wp2
        repeat (go_quiet (fail); try go_wp2)
        go_meet
        case rel => exact ⟨_, (true), zz3, H', ⟨by first | omega | exact Nat.le_refl _⟩, ⟨by (with_reducible repeat (first | apply Kd.R_alloc | apply Kd.R_drewN | apply Kd.R_drew)); exact HO191.out⟩, ⟨by (with_reducible repeat (first | apply Kd.R_alloc | apply Kd.R_drewN | apply Kd.R_drew)); exact HO200.out⟩, ⟨by repeat (first | (with_reducible exact HR195.out) | (with_reducible refine Kd.C_alloc ?_ _) | (with_reducible refine Kd.C_drewN ?_ _) | (with_reducible refine Kd.C_drew ?_) | exact HR195.out)⟩, ⟨by repeat (first | (with_reducible first | exact HB.out | apply qL | apply qJ | apply qK) | exact HB.out)⟩⟩
      case rest =>
       clear HC12
       try clear c1
       try clear q1
       try clear p2
       try clear q2
       try clear hx2
       try clear qi2
       try clear c3
       try clear c3b0
       try clear c3b1
       try clear c4
       try clear c4b0
       try clear c4b1
       try clear c6
       try clear c6b0
       try clear c6b1
       try clear p6
       try clear c7
       try clear c7b0
       try clear c7b1
       try clear c9
       try clear c10
       try clear c10b0
       try clear c10b1
       try clear c14
       try clear q14
       try clear c17
       try clear c18
       try clear c18b0
       try clear c18b1
       try clear hx201_0
       try clear p201
       try clear q14
       try clear q201
       obtain ⟨kq, x44_11, rfl, HA, HJ11, HO_8, HO_10, HR195, HB⟩ := hcut
       cases kq with
       | zero => exact absurd HA.out (by simp [codicilref29_Head.j0])
       | succ kj11 =>
        have H := HA.out
        clear HA
        simp only [codicilref29_Head.j0] at H
        by_cases c20 : x44_11 = true
        ·subst c20
         have H1 : (some ((⟨#[]⟩ : ByteArray), ([] : List (S59)), (⟨#[]⟩ : ByteArray), 0, 291)) = some (r1, r2, r3, r4, r5) := by rw [if_pos rfl] at H; exact H
         clear H
         have H := H1
         clear H1
         simp only [Option.some.injEq, Prod.mk.injEq] at H
         obtain ⟨rfl, rfl, rfl, rfl, rfl⟩ := H
         go_wp2
         repeat (go_quiet (fail); try go_wp2)
         refine bodyPost_ret (results_list (rs := [.tmp 2, .tmp 3, .tmp 4, .tmp 5, .tmp 6]) rfl zz65 (.tmp (.tmp (.tmp (.tmp (.tmp .nil)))))) rfl ?_
         exact ⟨_, by first | rfl | (simp [errW_none, errW_some] <;> rfl) | (simp only [← hji5]; first | rfl | (simp [errW_none, errW_some] <;> rfl)) | (simp [*, errW_none, errW_some] <;> rfl), by first | exact Kd.R_nil _ _ _ _ _ | exact Kd.N_nil _ _ _ _ _ | exact Kd.V_nil _ _ _ _ _ | exact Kd.Q_nil _ _ _ _ _ | exact Kd.S_nil _ _ _ _ _, by repeat (first | (with_reducible first | exact HB.out | apply qL | apply qJ | apply qK) | exact HB.out)⟩
        ·replace c20 := Bool.eq_false_iff.mpr c20
         subst c20
         have H1 : (if t197 > 65536 then (some ((⟨#[]⟩ : ByteArray), ([] : List (S59)), (⟨#[]⟩ : ByteArray), 0, 292)) else (if (a0.size : Int) < (wrap64 (t187 + t197)) then (some ((⟨#[]⟩ : ByteArray), ([] : List (S59)), (⟨#[]⟩ : ByteArray), 0, 290)) else (if 0 < (t188.length : Int) then (if 0 ≤ t187 then (if t187 ≤ (wrap64 (t187 + t197)) then (if (wrap64 (t187 + t197)) ≤ (a0.size : Int) then (some (rdOf ByteArray.empty t188 0, t196, a0.extract (t187 : Int).toNat ((wrap64 (t187 + t197)) : Int).toNat, wrap64 (t187 + t197), 0)) else (none)) else (none)) else (none)) else (none)))) = some (r1, r2, r3, r4, r5) := by rw [if_neg (show ¬ (false = true) by decide)] at H; exact H
         clear H
         have H := H1
         clear H1
         by_cases c21 : t197 > 65536
         ·rw [if_pos c21] at H
          have c21b0 : decide (65536 < t197) = true := decide_eq_true c21
          clear c21
          simp only [Option.some.injEq, Prod.mk.injEq] at H
          obtain ⟨rfl, rfl, rfl, rfl, rfl⟩ := H
          go_wp2
          repeat (go_quiet (fail); try go_wp2)
          refine bodyPost_ret (results_list (rs := [.tmp 2, .tmp 3, .tmp 4, .tmp 5, .tmp 6]) rfl zz65 (.tmp (.tmp (.tmp (.tmp (.tmp .nil)))))) rfl ?_
          exact ⟨_, by first | rfl | (simp [errW_none, errW_some] <;> rfl) | (simp only [← hji5]; first | rfl | (simp [errW_none, errW_some] <;> rfl)) | (simp [*, errW_none, errW_some] <;> rfl), by first | exact Kd.R_nil _ _ _ _ _ | exact Kd.N_nil _ _ _ _ _ | exact Kd.V_nil _ _ _ _ _ | exact Kd.Q_nil _ _ _ _ _ | exact Kd.S_nil _ _ _ _ _, by repeat (first | (with_reducible first | exact HB.out | apply qL | apply qJ | apply qK) | exact HB.out)⟩
         ·rw [if_neg c21] at H
          have c21b0 : decide (65536 < t197) = false := decide_eq_false c21
          clear c21
          by_cases c22 : (a0.size : Int) < (wrap64 (t187 + t197))
          ·rw [if_pos c22] at H
           have c22b0 : decide ((a0.size : Int) < (wrap64 (t187 + t197))) = true := decide_eq_true c22
           clear c22
           simp only [Option.some.injEq, Prod.mk.injEq] at H
           obtain ⟨rfl, rfl, rfl, rfl, rfl⟩ := H
           go_wp2
           repeat (go_quiet (fail); try go_wp2)
           refine bodyPost_ret (results_list (rs := [.tmp 2, .tmp 3, .tmp 4, .tmp 5, .tmp 6]) rfl zz65 (.tmp (.tmp (.tmp (.tmp (.tmp .nil)))))) rfl ?_
           exact ⟨_, by first | rfl | (simp [errW_none, errW_some] <;> rfl) | (simp only [← hji5]; first | rfl | (simp [errW_none, errW_some] <;> rfl)) | (simp [*, errW_none, errW_some] <;> rfl), by first | exact Kd.R_nil _ _ _ _ _ | exact Kd.N_nil _ _ _ _ _ | exact Kd.V_nil _ _ _ _ _ | exact Kd.Q_nil _ _ _ _ _ | exact Kd.S_nil _ _ _ _ _, by repeat (first | (with_reducible first | exact HB.out | apply qL | apply qJ | apply qK) | exact HB.out)⟩
          ·rw [if_neg c22] at H
           have c22b0 : decide ((a0.size : Int) < (wrap64 (t187 + t197))) = false := decide_eq_false c22
           clear c22
           by_cases c23 : 0 < (t188.length : Int)
           ·rw [if_pos c23] at H
            have c23b0 : decide (0 < (t188.length : Int)) = true := decide_eq_true c23
            have c23b1 : decide (0 < t188.length) = true := decide_eq_true zz42
            clear c23
            by_cases c24 : 0 ≤ t187
            ·rw [if_pos c24] at H
             have c24b0 := eq_true c24
             have c24b1 : decide (0 ≤ t187) = true := decide_eq_true c24
             clear c24
             by_cases c25 : t187 ≤ (wrap64 (t187 + t197))
             ·rw [if_pos c25] at H
              have c25b0 := eq_true c25
              have c25b1 : decide (t187 ≤ (wrap64 (t187 + t197))) = true := decide_eq_true c25
              by_cases c26 : (wrap64 (t187 + t197)) ≤ (a0.size : Int)
              ·rw [if_pos c26] at H
               have c26b0 := eq_true c26
               have c26b1 : decide ((wrap64 (t187 + t197)) ≤ (a0.size : Int)) = true := decide_eq_true c26
               simp only [Option.some.injEq, Prod.mk.injEq] at H
               obtain ⟨rfl, rfl, rfl, rfl, rfl⟩ := H
               have p203 : 0 ≤ (0 : Int) := zz42
               have q203 : 0 < (t188.length : Int) := of_decide_eq_true zz0
               obtain ⟨ad203, e203, hx203_0⟩ := Kd.at_string (Kd.R_reads' HO_8.out).2.2 0 p203 q203
               cases e203
               have qi203 : (0 < t188.length) = True := eq_true zz42
               (try rw [show ((0 : Int)).toNat = 0 from rfl] at hx203_0)
               (try rw [Addr.add_zero'] at hx203_0)
               replace p203 := eq_true p203
               replace q203 := eq_true q203
               go_wp2
               repeat (go_quiet (fail); try go_wp2)
               refine bodyPost_ret (results_list (rs := [.tmp 2, .tmp 3, .tmp 4, .tmp 5, .tmp 6]) rfl zz65 (.tmp (.tmp (.tmp (.tmp (.tmp .nil)))))) rfl ?_
               exact ⟨_, by first | rfl | (simp [errW_none, errW_some] <;> rfl) | (simp only [← hji5]; first | rfl | (simp [errW_none, errW_some] <;> rfl)) | (simp [*, errW_none, errW_some] <;> rfl), by (with_reducible repeat (first | apply Kd.R_alloc | apply Kd.R_drewN | apply Kd.R_drew)); exact HO_10.out, by repeat (first | (with_reducible first | exact HB.out | apply qL | apply qJ | apply qK) | exact HB.out)⟩
              ·rw [if_neg c26] at H
               exact absurd H zz65
             ·rw [if_neg c25] at H
              exact absurd H zz65
            ·rw [if_neg c24] at H
             exact absurd H zz65
           ·rw [if_neg c23] at H
            exact absurd H zz65
     ·rw [if_neg c10] at H
      exact absurd H zz65
    ·replace c9 := Bool.eq_false_iff.mpr c9
     subst c9
     have H1 : (some ((⟨#[]⟩ : ByteArray), ([] : List (S59)), (⟨#[]⟩ : ByteArray), 0, 291)) = some (r1, r2, r3, r4, r5) := by rw [if_neg (show ¬ (false = true) by decide)] at H; exact H
     clear H
     have H := H1
     clear H1
     simp only [Option.some.injEq, Prod.mk.injEq] at H
     obtain ⟨rfl, rfl, rfl, rfl, rfl⟩ := H
     go_enter Tryz.func33, Tryz.ntmps33
     go_wp2_with (first | (go_at_call 34; (with_reducible refine (codicilref29_end.calls k a0 t187 _ A2.out).mono ?_); rintro e w' ⟨rfl, ⟨nd, rfl⟩⟩; (try first | exact ⟨rfl, _, World.drewN_drewN _ _ _⟩ | exact ⟨rfl, _, Eq.trans (World.drewN_drewN _ _ _) (congrArg (World.drewN _) (Nat.add_assoc _ _ _))⟩)) | (go_at_call 36; (with_reducible refine (codicilref29_lines.calls k (a0.extract 0 ((ji5) : Int).toNat) t188 false _ A8.out).mono ?_); rintro e w27 ⟨v190, rfl, ho0, hb⟩; have n0_ := qH (Kd.R_lower ho0 (below_size zz2)); have n1_ := qH (below_step zz2 hb); clear HB; have HO191 := n0_; have HB := n1_; clear n0_ n1_; (try clear hb); (try clear hb2); (try clear hk); (try clear hi); (try clear ho0)))
     refine bodyPost_ret (results_list (rs := [.tmp 2, .tmp 3, .tmp 4, .tmp 5, .tmp 6]) rfl zz65 (.tmp (.tmp (.tmp (.tmp (.tmp .nil)))))) rfl ?_
     exact ⟨_, by first | rfl | (simp [errW_none, errW_some] <;> rfl) | (simp only [← hji5]; first | rfl | (simp [errW_none, errW_some] <;> rfl)) | (simp [*, errW_none, errW_some] <;> rfl), by first | exact Kd.R_nil _ _ _ _ _ | exact Kd.N_nil _ _ _ _ _ | exact Kd.V_nil _ _ _ _ _ | exact Kd.Q_nil _ _ _ _ _ | exact Kd.S_nil _ _ _ _ _, by repeat (first | (with_reducible first | exact HB.out | apply qL | apply qJ | apply qK) | exact HB.out)⟩
   ·rw [if_neg c7] at H
    exact absurd H zz65
  ·rw [if_neg c6] at H
   exact absurd H zz65

end Go.Proofs.YtddjhmelniphgaaGreatDoor.Print
