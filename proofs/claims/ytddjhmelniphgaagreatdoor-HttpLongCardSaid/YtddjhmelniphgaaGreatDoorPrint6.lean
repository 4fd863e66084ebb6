-- Written by wip/tools/xprint.py of this session's repo (the kit's print, run with external functions). Lean checks it.
import Derived.Test.YtddjhmelniphgaaGreatDoorHAm
import Derived.Test.YtddjhmelniphgaaGreatDoorPrint0
import Derived.Test.YtddjhmelniphgaaGreatDoorPrint3
import Derived.Test.YtddjhmelniphgaaGreatDoorPrint4
import Derived.Test.YtddjhmelniphgaaGreatDoorPrint5
import Derived.Test.YtddjhmelniphgaaGreatDoorHTSmall
namespace Go.Proofs.YtddjhmelniphgaaGreatDoor.Print
open Go.RowKit Go.Proofs.YtddjhmelniphgaaGreatDoorW.PrintWords Go.Proofs.YtddjhmelniphgaaGreatDoorW.PrintLast Go.Proofs.YtddjhmelniphgaaGreatDoorW.PrintMore
attribute [local go_sem] max2_int min2_int max_two min_two max_three min_three max_four min_four   -- for this text's walks alone
set_option linter.unusedVariables false
set_option linter.unusedSimpArgs false

/-! ### codicilref29_headers: function 66 -/
mutual
def codicilref29_headers.l0 : Nat → List ByteArray → List (S59) → Int → Bool → Int → Option ((List (S59)) × Int × Bool)
 | 0, _, _, _, _, _ => none
 | k + 1, x0, x5, x6, x7, x8 => if x8 < (x0.length : Int) then (if 0 ≤ x8 then ((codicilref29_cut.f k (rdOf ByteArray.empty x0 x8) 58).bind fun bt162 => ((codicilref29_trim.f k bt162.2.1).bind fun t165 => (if bt162.2.2 = true then ((codicilref29_token.f k bt162.1).bind fun t166 => (if t166 = true then ((codicilref29_value.f k t165).bind fun t167 => (codicilref29_headers.j1 k x0 x5 x6 x7 x8 bt162.1 t165 (!t167))) else (codicilref29_headers.j1 k x0 x5 x6 x7 x8 bt162.1 t165 true))) else (codicilref29_headers.j1 k x0 x5 x6 x7 x8 bt162.1 t165 true)))) else (none)) else (some (x5, x6, true))
def codicilref29_headers.j1 : Nat → List ByteArray → List (S59) → Int → Bool → Int → ByteArray → ByteArray → Bool → Option ((List (S59)) × Int × Bool)
 | 0, _, _, _, _, _, _, _, _ => none
 | k + 1, x0, x5, x6, x7, x8, x9, x10, x43 => if x43 = true then (some (([] : List (S59)), 0, false)) else ((codicilref29_small.f x9).bind fun t168 => (if t168.toList = ([99, 111, 110, 116, 101, 110, 116, 45, 108, 101, 110, 103, 116, 104] : List UInt8) then ((codicilref29_length.f k x10).bind fun t169 => (if x7 = true then (some (([] : List (S59)), 0, false)) else (if t169 < 0 then (some (([] : List (S59)), 0, false)) else (codicilref29_headers.l0 k x0 x5 t169 true (wrap64 (x8 + 1)))))) else (if t168.toList = ([116, 114, 97, 110, 115, 102, 101, 114, 45, 101, 110, 99, 111, 100, 105, 110, 103] : List UInt8) then (some (([] : List (S59)), 0, false)) else ((codicilref29_small.f x9).bind fun t170 => (if x5.length < 4398046511104 then (codicilref29_headers.l0 k x0 (x5 ++ [(⟨t170, x10⟩ : S59)]) x6 x7 (wrap64 (x8 + 1))) else (none))))))
end
def codicilref29_headers.f (k : Nat) (l0 : List ByteArray) : Option ((List (S59)) × Int × Bool) := if (l0.length : Int) > 64 then (some (([] : List (S59)), 0, false)) else (codicilref29_headers.l0 k l0 ([] : List (S59)) 0 false 0)
theorem codicilref29_headers.mono_l : ∀ k, (∀ y0 y1 y2 y3 y4, LeO (codicilref29_headers.l0 k y0 y1 y2 y3 y4) (codicilref29_headers.l0 (k + 1) y0 y1 y2 y3 y4)) ∧ (∀ y0 y1 y2 y3 y4 y5 y6 y7, LeO (codicilref29_headers.j1 k y0 y1 y2 y3 y4 y5 y6 y7) (codicilref29_headers.j1 (k + 1) y0 y1 y2 y3 y4 y5 y6 y7))
 | 0 => ⟨fun _ _ _ _ _ r h => by simp [codicilref29_headers.l0] at h, fun _ _ _ _ _ _ _ _ r h => by simp [codicilref29_headers.j1] at h⟩
 | k + 1 => by
  obtain ⟨ih0, ih1⟩ := codicilref29_headers.mono_l k
  refine ⟨?_, ?_⟩
  ·intro y0 y1 y2 y3 y4
   unfold codicilref29_headers.l0
   repeat' first
   | (with_reducible exact ih0 _ _ _ _ _)
   | (with_reducible exact ih1 _ _ _ _ _ _ _ _)
   | (with_reducible exact codicilref29_cut.mono _ _ _)
   | (with_reducible exact codicilref29_length.mono _ _)
   | (with_reducible exact codicilref29_token.mono _ _)
   | (with_reducible exact codicilref29_trim.mono _ _)
   | (with_reducible exact codicilref29_value.mono _ _)
   | (with_reducible exact LeO.refl _)
   | (with_reducible exact LeO.none _)
   | (with_reducible refine LeO.ite ?_ ?_)
   | (with_reducible refine LeO.bind ?_ (fun _ => ?_))
   | exact ih0 _ _ _ _ _
   | exact ih1 _ _ _ _ _ _ _ _
   | exact codicilref29_cut.mono _ _ _
   | exact codicilref29_length.mono _ _
   | exact codicilref29_token.mono _ _
   | exact codicilref29_trim.mono _ _
   | exact codicilref29_value.mono _ _
   | exact LeO.none _
   | refine LeO.ite ?_ ?_
   | refine LeO.bind ?_ (fun _ => ?_)
  ·intro y0 y1 y2 y3 y4 y5 y6 y7
   unfold codicilref29_headers.j1
   repeat' first
   | (with_reducible exact ih0 _ _ _ _ _)
   | (with_reducible exact ih1 _ _ _ _ _ _ _ _)
   | (with_reducible exact codicilref29_cut.mono _ _ _)
   | (with_reducible exact codicilref29_length.mono _ _)
   | (with_reducible exact codicilref29_token.mono _ _)
   | (with_reducible exact codicilref29_trim.mono _ _)
   | (with_reducible exact codicilref29_value.mono _ _)
   | (with_reducible exact LeO.refl _)
   | (with_reducible exact LeO.none _)
   | (with_reducible refine LeO.ite ?_ ?_)
   | (with_reducible refine LeO.bind ?_ (fun _ => ?_))
   | exact ih0 _ _ _ _ _
   | exact ih1 _ _ _ _ _ _ _ _
   | exact codicilref29_cut.mono _ _ _
   | exact codicilref29_length.mono _ _
   | exact codicilref29_token.mono _ _
   | exact codicilref29_trim.mono _ _
   | exact codicilref29_value.mono _ _
   | exact LeO.none _
   | refine LeO.ite ?_ ?_
   | refine LeO.bind ?_ (fun _ => ?_)
theorem codicilref29_headers.mono : ∀ a0 k, LeO (codicilref29_headers.f k a0) (codicilref29_headers.f (k + 1) a0) := by
 intro a0 k
 obtain ⟨ih0, ih1⟩ := codicilref29_headers.mono_l k
 unfold codicilref29_headers.f
 repeat' first
   | (with_reducible exact ih0 _ _ _ _ _)
   | (with_reducible exact ih1 _ _ _ _ _ _ _ _)
   | (with_reducible exact codicilref29_cut.mono _ _ _)
   | (with_reducible exact codicilref29_length.mono _ _)
   | (with_reducible exact codicilref29_token.mono _ _)
   | (with_reducible exact codicilref29_trim.mono _ _)
   | (with_reducible exact codicilref29_value.mono _ _)
   | (with_reducible exact LeO.refl _)
   | (with_reducible exact LeO.none _)
   | (with_reducible refine LeO.ite ?_ ?_)
   | (with_reducible refine LeO.bind ?_ (fun _ => ?_))
   | exact ih0 _ _ _ _ _
   | exact ih1 _ _ _ _ _ _ _ _
   | exact codicilref29_cut.mono _ _ _
   | exact codicilref29_length.mono _ _
   | exact codicilref29_token.mono _ _
   | exact codicilref29_trim.mono _ _
   | exact codicilref29_value.mono _ _
   | exact LeO.none _
   | refine LeO.ite ?_ ?_
   | refine LeO.bind ?_ (fun _ => ?_)
set_option maxHeartbeats 8000000 in
set_option maxRecDepth 100000 in
theorem codicilref29_headers.calls (k : Nat) (A0 : Option Addr) (c0 : Nat) (l0 : List ByteArray) (r1 : List (S59)) (r2 : Int) (r3 : Bool) (w : World) (hr0 : Kd.C Kd.string w A0 l0.length l0) (hc0 : l0.length ≤ c0) (h : codicilref29_headers.f k l0 = some (r1, r2, r3)) :
  Calls Tryz.prog 66 #[.slice A0 l0.length c0] w fun e w' => ∃ v0_ : Value, e = .returned (.tuple #[v0_, .int .i64 r2, .bool r3]) ∧ Kd.R k59 59 w' w.heap.size (fun _ => True) v0_ r1 ∧ Below w.heap.size w w' := by
 have hu59 := Tryz.underlying59
 have HR0 := qH hr0
 have HC0 := qH hc0
 clear hr0 hc0
 have HB := qH (Below.refl w.heap.size w)
 have H : (if (l0.length : Int) > 64 then (some (([] : List (S59)), 0, false)) else (codicilref29_headers.l0 k l0 ([] : List (S59)) 0 false 0)) = some (r1, r2, r3) := h
 clear h
 by_cases c2 : (l0.length : Int) > 64
 ·rw [if_pos c2] at H
  have c2b0 : decide (64 < (l0.length : Int)) = true := decide_eq_true c2
  have c2b1 : decide (64 < l0.length) = true := decide_eq_true zz42
  clear c2
  simp only [Option.some.injEq, Prod.mk.injEq] at H
  obtain ⟨rfl, rfl, rfl⟩ := H
  go_enter Tryz.func66, Tryz.ntmps66
  go_wp2
  go_ret3
  exact ⟨_, by first | rfl | (simp [errW_none, errW_some] <;> rfl) | (simp [*, errW_none, errW_some] <;> rfl), by first | exact Kd.R_nil _ _ _ _ _ | exact Kd.N_nil _ _ _ _ _ | exact Kd.V_nil _ _ _ _ _ | exact Kd.Q_nil _ _ _ _ _ | exact Kd.S_nil _ _ _ _ _, by repeat (first | (with_reducible first | exact HB.out | apply qL | apply qJ | apply qK) | exact HB.out)⟩
 ·rw [if_neg c2] at H
  have c2b0 : decide (64 < (l0.length : Int)) = false := decide_eq_false c2
  have c2b1 : decide (64 < l0.length) = false := decide_eq_false zz42
  clear c2
  have H' := qH H
  clear H
  go_enter Tryz.func66, Tryz.ntmps66
  go_wp2
  go_loopg [5, 6, 7, 8] k (fun kq v5 v6 v7 v8 w' => ∃ (x5_1 : List (S59)) (x6_1 : Int) (x7_1 : Bool) (x8_1 : Int), v6 = .int .i64 x6_1 ∧ v7 = .bool x7_1 ∧ v8 = .int .i64 x8_1 ∧ Aside0 (codicilref29_headers.l0 kq l0 x5_1 x6_1 x7_1 x8_1 = some (r1, r2, r3)) ∧ Aside0 (kq ≤ k) ∧ Aside0 (Kd.R k59 59 w' w.heap.size (fun _ => True) v5 x5_1) ∧ Aside0 (Below w.heap.size w w'))
  case atStart => exact ⟨(([] : List (S59))), (0), (false), (0), zz3, zz3, zz3, H', ⟨Nat.le_refl _⟩, ⟨by first | exact Kd.R_nil _ _ _ _ _ | exact Kd.N_nil _ _ _ _ _ | exact Kd.V_nil _ _ _ _ _ | exact Kd.Q_nil _ _ _ _ _ | exact Kd.S_nil _ _ _ _ _⟩, ⟨by repeat (first | (with_reducible first | exact HB.out | apply qL | apply qJ | apply qK) | exact HB.out)⟩⟩
  case round =>
   clear H'
   try clear c2
   try clear c2b0
   try clear c2b1
   try clear p2
   obtain ⟨x5_1, x6_1, x7_1, x8_1, rfl, rfl, rfl, HA, HK1, HO_5, HB⟩ := hrel
   cases gk with
   | zero => exact absurd HA.out (by simp [codicilref29_headers.l0])
   | succ k1 =>
    have H := HA.out
    clear HA
    simp only [codicilref29_headers.l0] at H
    by_cases c3 : x8_1 < (l0.length : Int)
    ·rw [if_pos c3] at H
     have c3b0 : decide (x8_1 < (l0.length : Int)) = true := decide_eq_true c3
     clear c3
     by_cases c4 : 0 ≤ x8_1
     ·rw [if_pos c4] at H
      have c4b0 : decide (0 ≤ x8_1) = true := decide_eq_true c4
      clear c4
      replace H := Option.bind_eq_some_iff.mp H
      obtain ⟨⟨t162, t163, t164⟩, A50, H⟩ := H
      (try dsimp only at H)
      have A5 := qH A50
      clear A50
      replace H := Option.bind_eq_some_iff.mp H
      obtain ⟨t165, A60, H⟩ := H
      (try dsimp only at H)
      have A6 := qH A60
      clear A60
      have HC7 := qH H
      clear H
      have p161 : 0 ≤ (x8_1 : Int) := of_decide_eq_true zz0
      have q161 : x8_1 < (l0.length : Int) := of_decide_eq_true zz0
      obtain ⟨ad161, e161, hx161_0⟩ := Kd.at_string HR0.out x8_1 p161 q161
      cases e161
      replace hx161_0 := (HB.out.cell (qO w _ hx161_0)).trans hx161_0
      replace p161 := eq_true p161
      replace q161 := eq_true q161
      go_upto_region 11 with (first | ((with_reducible refine gate_callee (f := 48) rfl ?_); refine goesL_ (some 26) rfl rfl Tryz.func48 (by kernel_rfl) rfl #[.string (rdOf ByteArray.empty l0 x8_1), .int .u8 58] rfl zz4 ?_; (with_reducible refine (codicilref29_cut.calls k1 (rdOf ByteArray.empty l0 x8_1) 58 t162 t163 t164 _ A5.out).mono ?_); rintro e w' ⟨rfl, ⟨nd, rfl⟩⟩; refine ⟨_, rfl, ?_⟩) | ((with_reducible refine gate_callee (f := 96) rfl ?_); refine goesL_ (some 31) rfl rfl Tryz.func96 (by kernel_rfl) rfl #[.string t163] rfl zz4 ?_; (with_reducible refine (codicilref29_trim.calls k1 t163 t165 _ A6.out).mono ?_); rintro e w' ⟨rfl, ⟨nd, rfl⟩⟩; refine ⟨_, rfl, ?_⟩))
      (try simp only [Act.put, List.setIfInBounds_toArray, List.set_cons_zero, List.set_cons_succ])
      go_cut [43] (fun v43 wc => ∃ (kq : Nat) (x43_6 : Bool), v43 = .bool x43_6 ∧ Aside0 (codicilref29_headers.j1 kq l0 x5_1 x6_1 x7_1 x8_1 t162 t165 x43_6 = some (r1, r2, r3)) ∧ Aside0 (kq ≤ k1) ∧ Aside0 (Kd.R k59 59 wc w.heap.size (fun _ => True) u5 x5_1) ∧ Aside0 (Below w.heap.size w wc))
      case first =>
       have H := HC7.out
       clear HC7
       by_cases c8 : t164 = true
       ·subst c8
        have H1 : ((codicilref29_token.f k1 t162).bind fun t166 => (if t166 = true then ((codicilref29_value.f k1 t165).bind fun t167 => (codicilref29_headers.j1 k1 l0 x5_1 x6_1 x7_1 x8_1 t162 t165 (!t167))) else (codicilref29_headers.j1 k1 l0 x5_1 x6_1 x7_1 x8_1 t162 t165 true))) = some (r1, r2, r3) := by rw [if_pos rfl] at H; exact H
        clear H
        have H := H1
        clear H1
        replace H := Option.bind_eq_some_iff.mp H
        obtain ⟨t166, A90, H⟩ := H
        (try dsimp only at H)
        have A9 := qH A90
        clear A90
        by_cases c10 : t166 = true
        ·subst c10
         have H1 : ((codicilref29_value.f k1 t165).bind fun t167 => (codicilref29_headers.j1 k1 l0 x5_1 x6_1 x7_1 x8_1 t162 t165 (!t167))) = some (r1, r2, r3) := by rw [if_pos rfl] at H; exact H
         clear H
         have H := H1
         clear H1
         replace H := Option.bind_eq_some_iff.mp H
         obtain ⟨t167, A110, H⟩ := H
         (try dsimp only at H)
         have A11 := qH A110
         clear A110
         have H' := qH H
         clear H
         go_wp2_with (first | (go_at_call 52; (with_reducible refine (codicilref29_token.calls k1 t162 true _ A9.out).mono ?_); rintro e w' ⟨rfl, ⟨nd, rfl⟩⟩) | (go_at_call 72; (with_reducible refine (codicilref29_value.calls k1 t165 t167 _ A11.out).mono ?_); rintro e w' ⟨rfl, ⟨nd, rfl⟩⟩))
         go_meet
         case rel => exact ⟨_, (!t167), zz3, H', ⟨by have := HK1.out; first | omega | exact Nat.le_refl _⟩, ⟨by (with_reducible repeat (first | apply Kd.R_alloc | apply Kd.R_drewN | apply Kd.R_drew)); exact HO_5.out⟩, ⟨by repeat (first | (with_reducible first | exact HB.out | apply qL | apply qJ | apply qK) | exact HB.out)⟩⟩
        ·replace c10 := Bool.eq_false_iff.mpr c10
         subst c10
         have H1 : (codicilref29_headers.j1 k1 l0 x5_1 x6_1 x7_1 x8_1 t162 t165 true) = some (r1, r2, r3) := by rw [if_neg (show ¬ (false = true) by decide)] at H; exact H
         clear H
         have H := H1
         clear H1
         have H' := qH H
         clear H
         go_wp2_with (first | (go_at_call 52; (with_reducible refine (codicilref29_token.calls k1 t162 false _ A9.out).mono ?_); rintro e w' ⟨rfl, ⟨nd, rfl⟩⟩))
         go_meet
         case rel => exact ⟨_, (true), zz3, H', ⟨by have := HK1.out; first | omega | exact Nat.le_refl _⟩, ⟨by (with_reducible repeat (first | apply Kd.R_alloc | apply Kd.R_drewN | apply Kd.R_drew)); exact HO_5.out⟩, ⟨by repeat (first | (with_reducible first | exact HB.out | apply qL | apply qJ | apply qK) | exact HB.out)⟩⟩
       ·replace c8 := Bool.eq_false_iff.mpr c8
        subst c8
        have H1 : (codicilref29_headers.j1 k1 l0 x5_1 x6_1 x7_1 x8_1 t162 t165 true) = some (r1, r2, r3) := by rw [if_neg (show ¬ (false = true) by decide)] at H; exact H
        clear H
        have H := H1
        clear H1
        have H' := qH H
        clear H
        go_wp2
        go_meet
        case rel => exact ⟨_, (true), zz3, H', ⟨by have := HK1.out; first | omega | exact Nat.le_refl _⟩, ⟨by (with_reducible repeat (first | apply Kd.R_alloc | apply Kd.R_drewN | apply Kd.R_drew)); exact HO_5.out⟩, ⟨by repeat (first | (with_reducible first | exact HB.out | apply qL | apply qJ | apply qK) | exact HB.out)⟩⟩
      case rest =>
       clear HC7
       try clear c1
       try clear p1
       try clear q1
       try clear hx1
       try clear c2
       try clear c2b0
       try clear c2b1
       try clear p2
       try clear c3
       try clear c3b0
       try clear c4
       try clear c4b0
       try clear c6
       try clear c8
       try clear c9
       try clear c10
       try clear hx161_0
       try clear p161
       try clear p2
       try clear q161
       obtain ⟨kq, x43_6, rfl, HA, HJ6, HO_5, HB⟩ := hcut
       cases kq with
       | zero => exact absurd HA.out (by simp [codicilref29_headers.j1])
       | succ kj6 =>
        have H := HA.out
        clear HA
        simp only [codicilref29_headers.j1] at H
        by_cases c12 : x43_6 = true
        ·subst c12
         have H1 : (some (([] : List (S59)), 0, false)) = some (r1, r2, r3) := by rw [if_pos rfl] at H; exact H
         clear H
         have H := H1
         clear H1
         simp only [Option.some.injEq, Prod.mk.injEq] at H
         obtain ⟨rfl, rfl, rfl⟩ := H
         go_wp2
         go_ret3
         exact ⟨_, by first | rfl | (simp [errW_none, errW_some] <;> rfl) | (simp [*, errW_none, errW_some] <;> rfl), by first | exact Kd.R_nil _ _ _ _ _ | exact Kd.N_nil _ _ _ _ _ | exact Kd.V_nil _ _ _ _ _ | exact Kd.Q_nil _ _ _ _ _ | exact Kd.S_nil _ _ _ _ _, by repeat (first | (with_reducible first | exact HB.out | apply qL | apply qJ | apply qK) | exact HB.out)⟩
        ·replace c12 := Bool.eq_false_iff.mpr c12
         subst c12
         have H1 : ((codicilref29_small.f t162).bind fun t168 => (if t168.toList = ([99, 111, 110, 116, 101, 110, 116, 45, 108, 101, 110, 103, 116, 104] : List UInt8) then ((codicilref29_length.f kj6 t165).bind fun t169 => (if x7_1 = true then (some (([] : List (S59)), 0, false)) else (if t169 < 0 then (some (([] : List (S59)), 0, false)) else (codicilref29_headers.l0 kj6 l0 x5_1 t169 true (wrap64 (x8_1 + 1)))))) else (if t168.toList = ([116, 114, 97, 110, 115, 102, 101, 114, 45, 101, 110, 99, 111, 100, 105, 110, 103] : List UInt8) then (some (([] : List (S59)), 0, false)) else ((codicilref29_small.f t162).bind fun t170 => (if x5_1.length < 4398046511104 then (codicilref29_headers.l0 kj6 l0 (x5_1 ++ [(⟨t170, t165⟩ : S59)]) x6_1 x7_1 (wrap64 (x8_1 + 1))) else (none)))))) = some (r1, r2, r3) := by rw [if_neg (show ¬ (false = true) by decide)] at H; exact H
         clear H
         have H := H1
         clear H1
         replace H := Option.bind_eq_some_iff.mp H
         obtain ⟨t168, A130, H⟩ := H
         (try dsimp only at H)
         have A13 := qH A130
         clear A130
         by_cases c14 : t168.toList = ([99, 111, 110, 116, 101, 110, 116, 45, 108, 101, 110, 103, 116, 104] : List UInt8)
         ·rw [if_pos c14] at H
          have c14b0 : (t168.toList == ([99, 111, 110, 116, 101, 110, 116, 45, 108, 101, 110, 103, 116, 104] : List UInt8)) = true := beq_iff_eq.mpr c14
          have c14b1 : (t168.toList != ([99, 111, 110, 116, 101, 110, 116, 45, 108, 101, 110, 103, 116, 104] : List UInt8)) = false := bne_eq_false_iff_eq.mpr c14
          clear c14
          replace H := Option.bind_eq_some_iff.mp H
          obtain ⟨t169, A150, H⟩ := H
          (try dsimp only at H)
          have A15 := qH A150
          clear A150
          by_cases c16 : x7_1 = true
          ·subst c16
           have H1 : (some (([] : List (S59)), 0, false)) = some (r1, r2, r3) := by rw [if_pos rfl] at H; exact H
           clear H
           have H := H1
           clear H1
           simp only [Option.some.injEq, Prod.mk.injEq] at H
           obtain ⟨rfl, rfl, rfl⟩ := H
           go_wp2_with (first | ((with_reducible refine gate_callee (f := 97) rfl ?_); refine goesL_ (some 45) rfl rfl Tryz.func97 (by kernel_rfl) rfl #[.string t162] rfl zz4 ?_; (with_reducible refine (codicilref29_small.calls t162 t168 _ A13.out).mono ?_); rintro e w17 ⟨rfl, hb⟩; refine ⟨_, rfl, ?_⟩; have n0_ := qH (Kd.R_below zz48 hb); have n1_ := qH (below_step zz2 hb); clear HO_5; clear HB; have HO_5 := n0_; have HB := n1_; clear n0_ n1_; (try clear hb); (try clear hb2); (try clear hk); (try clear hi)) | ((with_reducible refine gate_callee (f := 98) rfl ?_); refine goesL_ (some 56) rfl rfl Tryz.func98 (by kernel_rfl) rfl #[.string t165] rfl zz4 ?_; (with_reducible refine (codicilref29_length.calls kj6 t165 t169 _ A15.out).mono ?_); rintro e w' ⟨rfl, ⟨nd, rfl⟩⟩; refine ⟨_, rfl, ?_⟩))
           go_ret3
           exact ⟨_, by first | rfl | (simp [errW_none, errW_some] <;> rfl) | (simp [*, errW_none, errW_some] <;> rfl), by first | exact Kd.R_nil _ _ _ _ _ | exact Kd.N_nil _ _ _ _ _ | exact Kd.V_nil _ _ _ _ _ | exact Kd.Q_nil _ _ _ _ _ | exact Kd.S_nil _ _ _ _ _, by repeat (first | (with_reducible first | exact HB.out | apply qL | apply qJ | apply qK) | exact HB.out)⟩
          ·replace c16 := Bool.eq_false_iff.mpr c16
           subst c16
           have H1 : (if t169 < 0 then (some (([] : List (S59)), 0, false)) else (codicilref29_headers.l0 kj6 l0 x5_1 t169 true (wrap64 (x8_1 + 1)))) = some (r1, r2, r3) := by rw [if_neg (show ¬ (false = true) by decide)] at H; exact H
           clear H
           have H := H1
           clear H1
           by_cases c18 : t169 < 0
           ·rw [if_pos c18] at H
            have c18b0 : decide (t169 < 0) = true := decide_eq_true c18
            clear c18
            simp only [Option.some.injEq, Prod.mk.injEq] at H
            obtain ⟨rfl, rfl, rfl⟩ := H
            go_wp2_with (first | ((with_reducible refine gate_callee (f := 97) rfl ?_); refine goesL_ (some 45) rfl rfl Tryz.func97 (by kernel_rfl) rfl #[.string t162] rfl zz4 ?_; (with_reducible refine (codicilref29_small.calls t162 t168 _ A13.out).mono ?_); rintro e w19 ⟨rfl, hb⟩; refine ⟨_, rfl, ?_⟩; have n0_ := qH (Kd.R_below zz48 hb); have n1_ := qH (below_step zz2 hb); clear HO_5; clear HB; have HO_5 := n0_; have HB := n1_; clear n0_ n1_; (try clear hb); (try clear hb2); (try clear hk); (try clear hi)) | ((with_reducible refine gate_callee (f := 98) rfl ?_); refine goesL_ (some 56) rfl rfl Tryz.func98 (by kernel_rfl) rfl #[.string t165] rfl zz4 ?_; (with_reducible refine (codicilref29_length.calls kj6 t165 t169 _ A15.out).mono ?_); rintro e w' ⟨rfl, ⟨nd, rfl⟩⟩; refine ⟨_, rfl, ?_⟩))
            go_ret3
            exact ⟨_, by first | rfl | (simp [errW_none, errW_some] <;> rfl) | (simp [*, errW_none, errW_some] <;> rfl), by first | exact Kd.R_nil _ _ _ _ _ | exact Kd.N_nil _ _ _ _ _ | exact Kd.V_nil _ _ _ _ _ | exact Kd.Q_nil _ _ _ _ _ | exact Kd.S_nil _ _ _ _ _, by repeat (first | (with_reducible first | exact HB.out | apply qL | apply qJ | apply qK) | exact HB.out)⟩
           ·rw [if_neg c18] at H
            have c18b0 : decide (t169 < 0) = false := decide_eq_false c18
            clear c18
            have H' := qH H
            clear H
            go_wp2_with (first | ((with_reducible refine gate_callee (f := 97) rfl ?_); refine goesL_ (some 45) rfl rfl Tryz.func97 (by kernel_rfl) rfl #[.string t162] rfl zz4 ?_; (with_reducible refine (codicilref29_small.calls t162 t168 _ A13.out).mono ?_); rintro e w20 ⟨rfl, hb⟩; refine ⟨_, rfl, ?_⟩; have n0_ := qH (Kd.R_below zz48 hb); have n1_ := qH (below_step zz2 hb); clear HO_5; clear HB; have HO_5 := n0_; have HB := n1_; clear n0_ n1_; (try clear hb); (try clear hb2); (try clear hk); (try clear hi)) | ((with_reducible refine gate_callee (f := 98) rfl ?_); refine goesL_ (some 56) rfl rfl Tryz.func98 (by kernel_rfl) rfl #[.string t165] rfl zz4 ?_; (with_reducible refine (codicilref29_length.calls kj6 t165 t169 _ A15.out).mono ?_); rintro e w' ⟨rfl, ⟨nd, rfl⟩⟩; refine ⟨_, rfl, ?_⟩))
            go_roundg kj6
            case measure => have := HK1.out; have := HJ6.out; omega
            case rel => exact ⟨(x5_1), (t169), (true), (wrap64 (x8_1 + 1)), zz3, zz3, zz3, H', ⟨by have := HK1.out; have := HJ6.out; omega⟩, ⟨by (with_reducible repeat (first | apply Kd.R_alloc | apply Kd.R_drewN | apply Kd.R_drew)); exact HO_5.out⟩, ⟨by repeat (first | (with_reducible first | exact HB.out | apply qL | apply qJ | apply qK) | exact HB.out)⟩⟩
         ·rw [if_neg c14] at H
          have c14b0 : (t168.toList == ([99, 111, 110, 116, 101, 110, 116, 45, 108, 101, 110, 103, 116, 104] : List UInt8)) = false := beq_eq_false_iff_ne.mpr c14
          have c14b1 : (t168.toList != ([99, 111, 110, 116, 101, 110, 116, 45, 108, 101, 110, 103, 116, 104] : List UInt8)) = true := bne_iff_ne.mpr c14
          by_cases c21 : t168.toList = ([116, 114, 97, 110, 115, 102, 101, 114, 45, 101, 110, 99, 111, 100, 105, 110, 103] : List UInt8)
          ·rw [if_pos c21] at H
           have c21b0 : (t168.toList == ([116, 114, 97, 110, 115, 102, 101, 114, 45, 101, 110, 99, 111, 100, 105, 110, 103] : List UInt8)) = true := beq_iff_eq.mpr c21
           have c21b1 : (t168.toList != ([116, 114, 97, 110, 115, 102, 101, 114, 45, 101, 110, 99, 111, 100, 105, 110, 103] : List UInt8)) = false := bne_eq_false_iff_eq.mpr c21
           clear c21
           simp only [Option.some.injEq, Prod.mk.injEq] at H
           obtain ⟨rfl, rfl, rfl⟩ := H
           go_wp2_with (first | ((with_reducible refine gate_callee (f := 97) rfl ?_); refine goesL_ (some 45) rfl rfl Tryz.func97 (by kernel_rfl) rfl #[.string t162] rfl zz4 ?_; (with_reducible refine (codicilref29_small.calls t162 t168 _ A13.out).mono ?_); rintro e w22 ⟨rfl, hb⟩; refine ⟨_, rfl, ?_⟩; have n0_ := qH (Kd.R_below zz48 hb); have n1_ := qH (below_step zz2 hb); clear HO_5; clear HB; have HO_5 := n0_; have HB := n1_; clear n0_ n1_; (try clear hb); (try clear hb2); (try clear hk); (try clear hi)))
           go_ret3
           exact ⟨_, by first | rfl | (simp [errW_none, errW_some] <;> rfl) | (simp [*, errW_none, errW_some] <;> rfl), by first | exact Kd.R_nil _ _ _ _ _ | exact Kd.N_nil _ _ _ _ _ | exact Kd.V_nil _ _ _ _ _ | exact Kd.Q_nil _ _ _ _ _ | exact Kd.S_nil _ _ _ _ _, by repeat (first | (with_reducible first | exact HB.out | apply qL | apply qJ | apply qK) | exact HB.out)⟩
          ·rw [if_neg c21] at H
           have c21b0 : (t168.toList == ([116, 114, 97, 110, 115, 102, 101, 114, 45, 101, 110, 99, 111, 100, 105, 110, 103] : List UInt8)) = false := beq_eq_false_iff_ne.mpr c21
           have c21b1 : (t168.toList != ([116, 114, 97, 110, 115, 102, 101, 114, 45, 101, 110, 99, 111, 100, 105, 110, 103] : List UInt8)) = true := bne_iff_ne.mpr c21
           replace H := Option.bind_eq_some_iff.mp H
           obtain ⟨t170, A230, H⟩ := H
           (try dsimp only at H)
           have A23 := qH A230
           clear A230
           by_cases c24 : x5_1.length < 4398046511104
           ·rw [if_pos c24] at H
            have LMc24 := qH c24
            clear c24
            obtain ⟨y171, hy171⟩ : ∃ y_ : List (S59), y_ = (x5_1 ++ [(⟨t170, t165⟩ : S59)]) := ⟨_, rfl⟩
            replace H : (codicilref29_headers.l0 kj6 l0 y171 x6_1 x7_1 (wrap64 (x8_1 + 1))) = some (r1, r2, r3) := by first | (rw [hy171]; with_reducible exact H) | (have H2_ := (Option.bind_some _ _).symm.trans H; rw [hy171]; with_reducible exact H2_) | (have H2_ := (Option.bind_some _ _).symm.trans H; with_reducible exact H2_) | with_reducible exact H | (rw [hy171]; exact H) | exact H
            have Ny171 := qH hy171
            clear hy171
            have H' := qH H
            clear H
            go_wp2_with (first | ((with_reducible refine gate_callee (f := 97) rfl ?_); refine goesL_ (some 45) rfl rfl Tryz.func97 (by kernel_rfl) rfl #[.string t162] rfl zz4 ?_; (with_reducible refine (codicilref29_small.calls t162 t168 _ A13.out).mono ?_); rintro e w25 ⟨rfl, hb⟩; refine ⟨_, rfl, ?_⟩; have n0_ := qH (Kd.R_below zz48 hb); have n1_ := qH (below_step zz2 hb); clear HO_5; clear HB; have HO_5 := n0_; have HB := n1_; clear n0_ n1_; (try clear hb); (try clear hb2); (try clear hk); (try clear hi)) | ((with_reducible refine gate_callee (f := 97) rfl ?_); refine goesL_ (some 48) rfl rfl Tryz.func97 (by kernel_rfl) rfl #[.string t162] rfl zz4 ?_; (with_reducible refine (codicilref29_small.calls t162 t170 _ A23.out).mono ?_); rintro e w26 ⟨rfl, hb⟩; refine ⟨_, rfl, ?_⟩; have n0_ := qH (Kd.R_below zz48 hb); have n1_ := qH (below_step zz2 hb); clear HO_5; clear HB; have HO_5 := n0_; have HB := n1_; clear n0_ n1_; (try clear hb); (try clear hb2); (try clear hk); (try clear hi)) | ((with_reducible refine gate_builtin (b := .append) (xs := #[.tmp 46, .tmp 51]) rfl ?_); at_builtin; refine Kd.R_append k59 (w0 := w) w.heap.size rfl (.tmp 46) (.tmp 51) 23 59 (.agg #[(.string ⟨#[]⟩), (.string ⟨#[]⟩)]) 32 rfl Tryz.underlying23 info59 rfl zz73 zz42 u5 x5_1 (⟨t170, t165⟩ : S59) [.string t170, .string t165] (fun _ => True) (fun _ => False) rfl rfl ?aP (fun _ hk => hk.elim) ?aF ?aO ?aB ?aS ?aL ?_; (case aP => exact k59_mkM _ _ _ (⟨t170, t165⟩ : S59)); (case aB => exact zz2); (case aF => exact (fun _ _ => trivial)); (case aO => exact zz48); (case aS => exact (below_size zz2)); (case aL => have := LMc24.out; omega); intro v172 w27 ho hb hg hat; rw [← Ny171.out] at ho; have n0_ := qH (hb); have n1_ := qH (ho); clear HB; clear HO_5; have HB := n0_; have HO173 := n1_; clear n0_ n1_; clear ho hb hg hat))
            go_roundg kj6
            case measure => have := HK1.out; have := HJ6.out; omega
            case rel => exact ⟨(y171), (x6_1), (x7_1), (wrap64 (x8_1 + 1)), zz3, zz3, zz3, H', ⟨by have := HK1.out; have := HJ6.out; omega⟩, ⟨by (with_reducible repeat (first | apply Kd.R_alloc | apply Kd.R_drewN | apply Kd.R_drew)); exact HO173.out⟩, ⟨by repeat (first | (with_reducible first | exact HB.out | apply qL | apply qJ | apply qK) | exact HB.out)⟩⟩
           ·rw [if_neg c24] at H
            exact absurd H zz65
     ·rw [if_neg c4] at H
      exact absurd H zz65
    ·rw [if_neg c3] at H
     have c3b0 : decide (x8_1 < (l0.length : Int)) = false := decide_eq_false c3
     clear c3
     simp only [Option.some.injEq, Prod.mk.injEq] at H
     obtain ⟨rfl, rfl, rfl⟩ := H
     go_wp2
     go_ret3
     exact ⟨_, by first | rfl | (simp [errW_none, errW_some] <;> rfl) | (simp [*, errW_none, errW_some] <;> rfl), by (with_reducible repeat (first | apply Kd.R_alloc | apply Kd.R_drewN | apply Kd.R_drew)); exact HO_5.out, by repeat (first | (with_reducible first | exact HB.out | apply qL | apply qJ | apply qK) | exact HB.out)⟩

/-! ### codicilref29_target: function 47 -/
def codicilref29_target.l0 : Nat → ByteArray → Int → Option (Bool)
 | 0, _, _ => none
 | k + 1, x0, x3 => if x3 < (x0.size : Int) then (if 0 ≤ x3 then (if (bt x0 x3) < 33 then (some false) else (if (bt x0 x3) > 126 then (some false) else (codicilref29_target.l0 k x0 (wrap64 (x3 + 1))))) else (none)) else (if x0.toList = ([] : List UInt8) then (some false) else (if 0 < (x0.size : Int) then (some ((bt x0 0) == 47)) else (none)))
def codicilref29_target.f (k : Nat) (a0 : ByteArray) : Option (Bool) := codicilref29_target.l0 k a0 0
theorem codicilref29_target.mono_l : ∀ k, (∀ y0 y1, LeO (codicilref29_target.l0 k y0 y1) (codicilref29_target.l0 (k + 1) y0 y1))
 | 0 => fun _ _ r h => by simp [codicilref29_target.l0] at h
 | k + 1 => by
  have ih0 := codicilref29_target.mono_l k
  ·intro y0 y1
   unfold codicilref29_target.l0
   repeat' first
   | (with_reducible exact ih0 _ _)
   | (with_reducible exact LeO.refl _)
   | (with_reducible exact LeO.none _)
   | (with_reducible refine LeO.ite ?_ ?_)
   | (with_reducible refine LeO.bind ?_ (fun _ => ?_))
   | exact ih0 _ _
   | exact LeO.none _
   | refine LeO.ite ?_ ?_
   | refine LeO.bind ?_ (fun _ => ?_)
theorem codicilref29_target.mono : ∀ a0 k, LeO (codicilref29_target.f k a0) (codicilref29_target.f (k + 1) a0) := by
 intro a0 k
 have ih0 := codicilref29_target.mono_l k
 unfold codicilref29_target.f
 repeat' first
   | (with_reducible exact ih0 _ _)
   | (with_reducible exact LeO.refl _)
   | (with_reducible exact LeO.none _)
   | (with_reducible refine LeO.ite ?_ ?_)
   | (with_reducible refine LeO.bind ?_ (fun _ => ?_))
   | exact ih0 _ _
   | exact LeO.none _
   | refine LeO.ite ?_ ?_
   | refine LeO.bind ?_ (fun _ => ?_)
set_option maxHeartbeats 8000000 in
set_option maxRecDepth 100000 in
theorem codicilref29_target.calls (k : Nat) (a0 : ByteArray) (r : Bool) (w : World) (h : codicilref29_target.f k a0 = some r) :
  Calls Tryz.prog 47 #[.string a0] w fun e w' => e = .returned (.bool r) ∧ Drawn0 w w' := by
 have H : (codicilref29_target.l0 k a0 0) = some r := h
 clear h
 have H' := qH H
 clear H
 go_enter Tryz.func47, Tryz.ntmps47
 go_wp2
 go_loopg [3] k (fun kq v3 w' => ∃ (x3_1 : Int), v3 = .int .i64 x3_1 ∧ Aside0 (codicilref29_target.l0 kq a0 x3_1 = some r) ∧ Aside0 (kq ≤ k) ∧ Drawn0 w w')
 case atStart => exact ⟨(0), zz3, H', ⟨Nat.le_refl _⟩, by repeat (first | exact Drawn0.refl _ | apply Drawn0.step)⟩
 case round =>
  clear H'
  obtain ⟨x3_1, rfl, HA, HK1, ⟨m1, rfl⟩⟩ := hrel
  cases gk with
  | zero => exact absurd HA.out (by simp [codicilref29_target.l0])
  | succ k1 =>
   have H := HA.out
   clear HA
   simp only [codicilref29_target.l0] at H
   by_cases c2 : x3_1 < (a0.size : Int)
   ·rw [if_pos c2] at H
    have c2b0 : decide (x3_1 < (a0.size : Int)) = true := decide_eq_true c2
    clear c2
    by_cases c3 : 0 ≤ x3_1
    ·rw [if_pos c3] at H
     have c3b0 : decide (0 ≤ x3_1) = true := decide_eq_true c3
     clear c3
     by_cases c5 : (bt a0 x3_1) < 33
     ·rw [if_pos c5] at H
      have c5b0 : decide ((bt a0 x3_1) < 33) = true := decide_eq_true c5
      clear c5
      obtain rfl := Option.some.inj H
      simp only [Option.some.injEq, Prod.mk.injEq] at H
      obtain ⟨rfl⟩ := H
      have p4 : 0 ≤ (x3_1 : Int) := of_decide_eq_true zz0
      have q4 : x3_1 < (a0.size : Int) := of_decide_eq_true zz0
      have hx4 := bt_at a0 x3_1
      replace p4 := eq_true p4
      replace q4 := eq_true q4
      go_wp2
      go_ret
      exact ⟨by first | rfl | (simp; done) | (simp; exact qEmp _) | (simp [*]; done), by repeat (first | exact Drawn0.refl _ | apply Drawn0.step)⟩
     ·rw [if_neg c5] at H
      have c5b0 : decide ((bt a0 x3_1) < 33) = false := decide_eq_false c5
      clear c5
      by_cases c7 : (bt a0 x3_1) > 126
      ·rw [if_pos c7] at H
       have c7b0 : decide (126 < (bt a0 x3_1)) = true := decide_eq_true c7
       clear c7
       obtain rfl := Option.some.inj H
       simp only [Option.some.injEq, Prod.mk.injEq] at H
       obtain ⟨rfl⟩ := H
       have p4 : 0 ≤ (x3_1 : Int) := of_decide_eq_true zz0
       have q4 : x3_1 < (a0.size : Int) := of_decide_eq_true zz0
       have hx4 := bt_at a0 x3_1
       replace p4 := eq_true p4
       replace q4 := eq_true q4
       have p6 : 0 ≤ (x3_1 : Int) := of_decide_eq_true zz0
       have q6 : x3_1 < (a0.size : Int) := of_decide_eq_true zz0
       have hx6 := bt_at a0 x3_1
       replace p6 := eq_true p6
       replace q6 := eq_true q6
       go_wp2
       go_ret
       exact ⟨by first | rfl | (simp; done) | (simp; exact qEmp _) | (simp [*]; done), by repeat (first | exact Drawn0.refl _ | apply Drawn0.step)⟩
      ·rw [if_neg c7] at H
       have c7b0 : decide (126 < (bt a0 x3_1)) = false := decide_eq_false c7
       clear c7
       have H' := qH H
       clear H
       have p4 : 0 ≤ (x3_1 : Int) := of_decide_eq_true zz0
       have q4 : x3_1 < (a0.size : Int) := of_decide_eq_true zz0
       have hx4 := bt_at a0 x3_1
       replace p4 := eq_true p4
       replace q4 := eq_true q4
       have p6 : 0 ≤ (x3_1 : Int) := of_decide_eq_true zz0
       have q6 : x3_1 < (a0.size : Int) := of_decide_eq_true zz0
       have hx6 := bt_at a0 x3_1
       replace p6 := eq_true p6
       replace q6 := eq_true q6
       go_wp2
       go_roundg k1
       case measure => have := HK1.out; omega
       case rel => exact ⟨(wrap64 (x3_1 + 1)), zz3, H', ⟨by have := HK1.out; omega⟩, by repeat (first | exact Drawn0.refl _ | apply Drawn0.step)⟩
    ·rw [if_neg c3] at H
     exact absurd H zz65
   ·rw [if_neg c2] at H
    have c2b0 : decide (x3_1 < (a0.size : Int)) = false := decide_eq_false c2
    clear c2
    by_cases c8 : a0.toList = ([] : List UInt8)
    ·rw [if_pos c8] at H
     have c8b0 : (a0.toList == ([] : List UInt8)) = true := beq_iff_eq.mpr c8
     have c8be : a0.toList.isEmpty = true := List.isEmpty_iff.mpr c8
     have c8b1 : (a0.toList != ([] : List UInt8)) = false := bne_eq_false_iff_eq.mpr c8
     clear c8
     obtain rfl := Option.some.inj H
     simp only [Option.some.injEq, Prod.mk.injEq] at H
     obtain ⟨rfl⟩ := H
     go_wp2
     go_ret
     exact ⟨by first | rfl | (simp; done) | (simp; exact qEmp _) | (simp [*]; done), by repeat (first | exact Drawn0.refl _ | apply Drawn0.step)⟩
    ·rw [if_neg c8] at H
     have c8b0 : (a0.toList == ([] : List UInt8)) = false := beq_eq_false_iff_ne.mpr c8
     have c8be : a0.toList.isEmpty = false := List.isEmpty_eq_false_iff.mpr c8
     have c8b1 : (a0.toList != ([] : List UInt8)) = true := bne_iff_ne.mpr c8
     by_cases c9 : 0 < (a0.size : Int)
     ·rw [if_pos c9] at H
      have c9b0 : decide (0 < (a0.size : Int)) = true := decide_eq_true c9
      have c9b1 : decide (0 < a0.size) = true := decide_eq_true zz42
      clear c9
      obtain rfl := Option.some.inj H
      simp only [Option.some.injEq, Prod.mk.injEq] at H
      obtain ⟨rfl⟩ := H
      have p10 : 0 ≤ (0 : Int) := zz42
      have q10 : 0 < a0.size := (by have : (0 : Int) < (a0.size : Int) := of_decide_eq_true zz0; omega)
      have hx10 : ∀ h : 0 < a0.size, ((a0[0]'h).toNat : Int) = bt a0 0 := bt_at a0 0
      clear p10
      have qi10 : (0 < (a0.size : Int)) = True := eq_true (of_decide_eq_true zz0)
      replace q10 := eq_true q10
      go_wp2
      go_ret
      exact ⟨by first | rfl | (simp; done) | (simp; exact qEmp _) | (simp [*]; done), by repeat (first | exact Drawn0.refl _ | apply Drawn0.step)⟩
     ·rw [if_neg c9] at H
      exact absurd H zz65

/-! ### codicilref29_request: function 35 -/
def codicilref29_request.f (k : Nat) (a0 : ByteArray) : Option (ByteArray × ByteArray × Bool) := (codicilref29_cut.f k a0 32).bind fun bt174 => ((codicilref29_cut.f k bt174.2.1 32).bind fun bt177 => (if bt174.2.2 = true then (if bt177.2.2 = true then ((codicilref29_token.f k bt174.1).bind fun t180 => (if t180 = true then ((codicilref29_target.f k bt177.1).bind fun t181 => (if t181 = true then (some (bt174.1, bt177.1, (bt177.2.1.toList == ([72, 84, 84, 80, 47, 49, 46, 49] : List UInt8)))) else (some (bt174.1, bt177.1, false)))) else (some (bt174.1, bt177.1, false)))) else (some (bt174.1, bt177.1, false))) else (some (bt174.1, bt177.1, false))))
theorem codicilref29_request.mono : ∀ a0 k, LeO (codicilref29_request.f k a0) (codicilref29_request.f (k + 1) a0) := by
 intro a0 k
 unfold codicilref29_request.f
 repeat' first
   | (with_reducible exact codicilref29_cut.mono _ _ _)
   | (with_reducible exact codicilref29_target.mono _ _)
   | (with_reducible exact codicilref29_token.mono _ _)
   | (with_reducible exact LeO.refl _)
   | (with_reducible exact LeO.none _)
   | (with_reducible refine LeO.ite ?_ ?_)
   | (with_reducible refine LeO.bind ?_ (fun _ => ?_))
   | exact codicilref29_cut.mono _ _ _
   | exact codicilref29_target.mono _ _
   | exact codicilref29_token.mono _ _
   | exact LeO.none _
   | refine LeO.ite ?_ ?_
   | refine LeO.bind ?_ (fun _ => ?_)
set_option maxHeartbeats 8000000 in
set_option maxRecDepth 100000 in
theorem codicilref29_request.calls (k : Nat) (a0 : ByteArray) (r1 : ByteArray) (r2 : ByteArray) (r3 : Bool) (w : World) (h : codicilref29_request.f k a0 = some (r1, r2, r3)) :
  Calls Tryz.prog 35 #[.string a0] w fun e w' => e = .returned (.tuple #[.string r1, .string r2, .bool r3]) ∧ Drawn0 w w' := by
 have H : ((codicilref29_cut.f k a0 32).bind fun bt174 => ((codicilref29_cut.f k bt174.2.1 32).bind fun bt177 => (if bt174.2.2 = true then (if bt177.2.2 = true then ((codicilref29_token.f k bt174.1).bind fun t180 => (if t180 = true then ((codicilref29_target.f k bt177.1).bind fun t181 => (if t181 = true then (some (bt174.1, bt177.1, (bt177.2.1.toList == ([72, 84, 84, 80, 47, 49, 46, 49] : List UInt8)))) else (some (bt174.1, bt177.1, false)))) else (some (bt174.1, bt177.1, false)))) else (some (bt174.1, bt177.1, false))) else (some (bt174.1, bt177.1, false))))) = some (r1, r2, r3) := h
 clear h
 replace H := Option.bind_eq_some_iff.mp H
 obtain ⟨⟨t174, t175, t176⟩, A20, H⟩ := H
 (try dsimp only at H)
 have A2 := qH A20
 clear A20
 replace H := Option.bind_eq_some_iff.mp H
 obtain ⟨⟨t177, t178, t179⟩, A30, H⟩ := H
 (try dsimp only at H)
 have A3 := qH A30
 clear A30
 by_cases c4 : t176 = true
 ·subst c4
  have H1 : (if t179 = true then ((codicilref29_token.f k t174).bind fun t180 => (if t180 = true then ((codicilref29_target.f k t177).bind fun t181 => (if t181 = true then (some (t174, t177, (t178.toList == ([72, 84, 84, 80, 47, 49, 46, 49] : List UInt8)))) else (some (t174, t177, false)))) else (some (t174, t177, false)))) else (some (t174, t177, false))) = some (r1, r2, r3) := by rw [if_pos rfl] at H; exact H
  clear H
  have H := H1
  clear H1
  by_cases c5 : t179 = true
  ·subst c5
   have H1 : ((codicilref29_token.f k t174).bind fun t180 => (if t180 = true then ((codicilref29_target.f k t177).bind fun t181 => (if t181 = true then (some (t174, t177, (t178.toList == ([72, 84, 84, 80, 47, 49, 46, 49] : List UInt8)))) else (some (t174, t177, false)))) else (some (t174, t177, false)))) = some (r1, r2, r3) := by rw [if_pos rfl] at H; exact H
   clear H
   have H := H1
   clear H1
   replace H := Option.bind_eq_some_iff.mp H
   obtain ⟨t180, A60, H⟩ := H
   (try dsimp only at H)
   have A6 := qH A60
   clear A60
   by_cases c7 : t180 = true
   ·subst c7
    have H1 : ((codicilref29_target.f k t177).bind fun t181 => (if t181 = true then (some (t174, t177, (t178.toList == ([72, 84, 84, 80, 47, 49, 46, 49] : List UInt8)))) else (some (t174, t177, false)))) = some (r1, r2, r3) := by rw [if_pos rfl] at H; exact H
    clear H
    have H := H1
    clear H1
    replace H := Option.bind_eq_some_iff.mp H
    obtain ⟨t181, A80, H⟩ := H
    (try dsimp only at H)
    have A8 := qH A80
    clear A80
    by_cases c9 : t181 = true
    ·subst c9
     have H1 : (some (t174, t177, (t178.toList == ([72, 84, 84, 80, 47, 49, 46, 49] : List UInt8)))) = some (r1, r2, r3) := by rw [if_pos rfl] at H; exact H
     clear H
     have H := H1
     clear H1
     simp only [Option.some.injEq, Prod.mk.injEq] at H
     obtain ⟨rfl, rfl, rfl⟩ := H
     go_enter Tryz.func35, Tryz.ntmps35
     go_wp2_with (first | ((with_reducible refine gate_callee (f := 48) rfl ?_); refine goesL_ (some 13) rfl rfl Tryz.func48 (by kernel_rfl) rfl #[.string a0, .int .u8 32] rfl zz4 ?_; (with_reducible refine (codicilref29_cut.calls k a0 32 t174 t175 true _ A2.out).mono ?_); rintro e w' ⟨rfl, ⟨nd, rfl⟩⟩; refine ⟨_, rfl, ?_⟩) | ((with_reducible refine gate_callee (f := 48) rfl ?_); refine goesL_ (some 19) rfl rfl Tryz.func48 (by kernel_rfl) rfl #[.string t175, .int .u8 32] rfl zz4 ?_; (with_reducible refine (codicilref29_cut.calls k t175 32 t177 t178 true _ A3.out).mono ?_); rintro e w' ⟨rfl, ⟨nd, rfl⟩⟩; refine ⟨_, rfl, ?_⟩) | (go_at_call 52; (with_reducible refine (codicilref29_token.calls k t174 true _ A6.out).mono ?_); rintro e w' ⟨rfl, ⟨nd, rfl⟩⟩) | (go_at_call 47; (with_reducible refine (codicilref29_target.calls k t177 true _ A8.out).mono ?_); rintro e w' ⟨rfl, ⟨nd, rfl⟩⟩))
     go_ret3
     exact ⟨by first | rfl | (simp; done) | (simp; exact qEmp _) | (simp [*]; done), by repeat (first | exact Drawn0.refl _ | apply Drawn0.step)⟩
    ·replace c9 := Bool.eq_false_iff.mpr c9
     subst c9
     have H1 : (some (t174, t177, false)) = some (r1, r2, r3) := by rw [if_neg (show ¬ (false = true) by decide)] at H; exact H
     clear H
     have H := H1
     clear H1
     simp only [Option.some.injEq, Prod.mk.injEq] at H
     obtain ⟨rfl, rfl, rfl⟩ := H
     go_enter Tryz.func35, Tryz.ntmps35
     go_wp2_with (first | ((with_reducible refine gate_callee (f := 48) rfl ?_); refine goesL_ (some 13) rfl rfl Tryz.func48 (by kernel_rfl) rfl #[.string a0, .int .u8 32] rfl zz4 ?_; (with_reducible refine (codicilref29_cut.calls k a0 32 t174 t175 true _ A2.out).mono ?_); rintro e w' ⟨rfl, ⟨nd, rfl⟩⟩; refine ⟨_, rfl, ?_⟩) | ((with_reducible refine gate_callee (f := 48) rfl ?_); refine goesL_ (some 19) rfl rfl Tryz.func48 (by kernel_rfl) rfl #[.string t175, .int .u8 32] rfl zz4 ?_; (with_reducible refine (codicilref29_cut.calls k t175 32 t177 t178 true _ A3.out).mono ?_); rintro e w' ⟨rfl, ⟨nd, rfl⟩⟩; refine ⟨_, rfl, ?_⟩) | (go_at_call 52; (with_reducible refine (codicilref29_token.calls k t174 true _ A6.out).mono ?_); rintro e w' ⟨rfl, ⟨nd, rfl⟩⟩) | (go_at_call 47; (with_reducible refine (codicilref29_target.calls k t177 false _ A8.out).mono ?_); rintro e w' ⟨rfl, ⟨nd, rfl⟩⟩))
     go_ret3
     exact ⟨by first | rfl | (simp; done) | (simp; exact qEmp _) | (simp [*]; done), by repeat (first | exact Drawn0.refl _ | apply Drawn0.step)⟩
   ·replace c7 := Bool.eq_false_iff.mpr c7
    subst c7
    have H1 : (some (t174, t177, false)) = some (r1, r2, r3) := by rw [if_neg (show ¬ (false = true) by decide)] at H; exact H
    clear H
    have H := H1
    clear H1
    simp only [Option.some.injEq, Prod.mk.injEq] at H
    obtain ⟨rfl, rfl, rfl⟩ := H
    go_enter Tryz.func35, Tryz.ntmps35
    go_wp2_with (first | ((with_reducible refine gate_callee (f := 48) rfl ?_); refine goesL_ (some 13) rfl rfl Tryz.func48 (by kernel_rfl) rfl #[.string a0, .int .u8 32] rfl zz4 ?_; (with_reducible refine (codicilref29_cut.calls k a0 32 t174 t175 true _ A2.out).mono ?_); rintro e w' ⟨rfl, ⟨nd, rfl⟩⟩; refine ⟨_, rfl, ?_⟩) | ((with_reducible refine gate_callee (f := 48) rfl ?_); refine goesL_ (some 19) rfl rfl Tryz.func48 (by kernel_rfl) rfl #[.string t175, .int .u8 32] rfl zz4 ?_; (with_reducible refine (codicilref29_cut.calls k t175 32 t177 t178 true _ A3.out).mono ?_); rintro e w' ⟨rfl, ⟨nd, rfl⟩⟩; refine ⟨_, rfl, ?_⟩) | (go_at_call 52; (with_reducible refine (codicilref29_token.calls k t174 false _ A6.out).mono ?_); rintro e w' ⟨rfl, ⟨nd, rfl⟩⟩))
    go_ret3
    exact ⟨by first | rfl | (simp; done) | (simp; exact qEmp _) | (simp [*]; done), by repeat (first | exact Drawn0.refl _ | apply Drawn0.step)⟩
  ·replace c5 := Bool.eq_false_iff.mpr c5
   subst c5
   have H1 : (some (t174, t177, false)) = some (r1, r2, r3) := by rw [if_neg (show ¬ (false = true) by decide)] at H; exact H
   clear H
   have H := H1
   clear H1
   simp only [Option.some.injEq, Prod.mk.injEq] at H
   obtain ⟨rfl, rfl, rfl⟩ := H
   go_enter Tryz.func35, Tryz.ntmps35
   go_wp2_with (first | ((with_reducible refine gate_callee (f := 48) rfl ?_); refine goesL_ (some 13) rfl rfl Tryz.func48 (by kernel_rfl) rfl #[.string a0, .int .u8 32] rfl zz4 ?_; (with_reducible refine (codicilref29_cut.calls k a0 32 t174 t175 true _ A2.out).mono ?_); rintro e w' ⟨rfl, ⟨nd, rfl⟩⟩; refine ⟨_, rfl, ?_⟩) | ((with_reducible refine gate_callee (f := 48) rfl ?_); refine goesL_ (some 19) rfl rfl Tryz.func48 (by kernel_rfl) rfl #[.string t175, .int .u8 32] rfl zz4 ?_; (with_reducible refine (codicilref29_cut.calls k t175 32 t177 t178 false _ A3.out).mono ?_); rintro e w' ⟨rfl, ⟨nd, rfl⟩⟩; refine ⟨_, rfl, ?_⟩))
   go_ret3
   exact ⟨by first | rfl | (simp; done) | (simp; exact qEmp _) | (simp [*]; done), by repeat (first | exact Drawn0.refl _ | apply Drawn0.step)⟩
 ·replace c4 := Bool.eq_false_iff.mpr c4
  subst c4
  have H1 : (some (t174, t177, false)) = some (r1, r2, r3) := by rw [if_neg (show ¬ (false = true) by decide)] at H; exact H
  clear H
  have H := H1
  clear H1
  simp only [Option.some.injEq, Prod.mk.injEq] at H
  obtain ⟨rfl, rfl, rfl⟩ := H
  go_enter Tryz.func35, Tryz.ntmps35
  go_wp2_with (first | ((with_reducible refine gate_callee (f := 48) rfl ?_); refine goesL_ (some 13) rfl rfl Tryz.func48 (by kernel_rfl) rfl #[.string a0, .int .u8 32] rfl zz4 ?_; (with_reducible refine (codicilref29_cut.calls k a0 32 t174 t175 false _ A2.out).mono ?_); rintro e w' ⟨rfl, ⟨nd, rfl⟩⟩; refine ⟨_, rfl, ?_⟩) | ((with_reducible refine gate_callee (f := 48) rfl ?_); refine goesL_ (some 19) rfl rfl Tryz.func48 (by kernel_rfl) rfl #[.string t175, .int .u8 32] rfl zz4 ?_; (with_reducible refine (codicilref29_cut.calls k t175 32 t177 t178 t179 _ A3.out).mono ?_); rintro e w' ⟨rfl, ⟨nd, rfl⟩⟩; refine ⟨_, rfl, ?_⟩))
  go_ret3
  exact ⟨by first | rfl | (simp; done) | (simp; exact qEmp _) | (simp [*]; done), by repeat (first | exact Drawn0.refl _ | apply Drawn0.step)⟩

end Go.Proofs.YtddjhmelniphgaaGreatDoor.Print
