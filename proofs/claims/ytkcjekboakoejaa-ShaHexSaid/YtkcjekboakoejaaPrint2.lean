-- Written by wip/tools/xprint.py of this session's repo (the kit's print, run with external functions). Lean checks it.
import Derived.Test.YtkcjekboakoejaaPrint0
import Derived.Test.YtkcjekboakoejaaPrint1
import Derived.Test.YtkcjekboakoejaaHAlive03
import Derived.Test.YtkcjekboakoejaaHS3
namespace Go.Proofs.Ytkcjekboakoejaa.Print
open Go.RowKit Go.Proofs.YtkcjekboakoejaaW.PrintWords Go.Proofs.YtkcjekboakoejaaW.PrintLast Go.Proofs.YtkcjekboakoejaaW.PrintMore
attribute [local go_sem] max2_int min2_int max_two min_two max_three min_three max_four min_four   -- for this text's walks alone
set_option linter.unusedVariables false
set_option linter.unusedSimpArgs false

/-! ### codicillaw03_ShaHex: function 8 -/
mutual
def codicillaw03_ShaHex.j0 : Nat → ByteArray → ByteArray → Bool → Option (Bool)
 | 0, _, _, _ => none
 | k + 1, x0, x1, x18 => if x18 = true then ((codicillaw03_alive.f).bind fun t120 => (some t120)) else ((sha_Bytes.f x1).bind fun bt121 => ((codicilref03_Bytes.f k x1).bind fun bt123 => (if bt121.1.toList = bt123.1.toList then (if (bt121.2 != bt123.2) = true then (codicillaw03_ShaHex.j1 k x0 true) else (if bt121.2 = true then ((sha_Hex.f bt121.1).bind fun t125 => (if t125.toList = x1.toList then ((sha_Hex.f x0).bind fun t126 => ((codicilref03_Hex.f k x0).bind fun t127 => (codicillaw03_ShaHex.j1 k x0 (t126.toList != t127.toList)))) else (codicillaw03_ShaHex.j1 k x0 true))) else ((sha_Hex.f x0).bind fun t128 => ((codicilref03_Hex.f k x0).bind fun t129 => (codicillaw03_ShaHex.j1 k x0 (t128.toList != t129.toList)))))) else (codicillaw03_ShaHex.j1 k x0 true))))
def codicillaw03_ShaHex.j1 : Nat → ByteArray → Bool → Option (Bool)
 | 0, _, _ => none
 | k + 1, x0, x53 => if x53 = true then (some false) else ((sha_Hex.f x0).bind fun t130 => ((sha_Bytes.f t130).bind fun bt131 => (if bt131.1.toList = x0.toList then (if bt131.2 = true then ((codicillaw03_alive.f).bind fun t133 => (some t133)) else (some false)) else (some false))))
end
def codicillaw03_ShaHex.f (k : Nat) (a0 : ByteArray) (a1 : ByteArray) : Option (Bool) := if (a0.size : Int) > 4096 then (codicillaw03_ShaHex.j0 k a0 a1 true) else (codicillaw03_ShaHex.j0 k a0 a1 (decide ((a1.size : Int) > 4096)))
theorem codicillaw03_ShaHex.mono_l : ∀ k, (∀ y0 y1 y2, LeO (codicillaw03_ShaHex.j0 k y0 y1 y2) (codicillaw03_ShaHex.j0 (k + 1) y0 y1 y2)) ∧ (∀ y0 y1, LeO (codicillaw03_ShaHex.j1 k y0 y1) (codicillaw03_ShaHex.j1 (k + 1) y0 y1))
 | 0 => ⟨fun _ _ _ r h => by simp [codicillaw03_ShaHex.j0] at h, fun _ _ r h => by simp [codicillaw03_ShaHex.j1] at h⟩
 | k + 1 => by
  obtain ⟨ih0, ih1⟩ := codicillaw03_ShaHex.mono_l k
  refine ⟨?_, ?_⟩
  ·intro y0 y1 y2
   unfold codicillaw03_ShaHex.j0
   repeat' first
   | (with_reducible exact ih0 _ _ _)
   | (with_reducible exact ih1 _ _)
   | (with_reducible exact codicilref03_Bytes.mono _ _)
   | (with_reducible exact codicilref03_Hex.mono _ _)
   | (with_reducible exact LeO.refl _)
   | (with_reducible exact LeO.none _)
   | (with_reducible refine LeO.ite ?_ ?_)
   | (with_reducible refine LeO.bind ?_ (fun _ => ?_))
   | exact ih0 _ _ _
   | exact ih1 _ _
   | exact codicilref03_Bytes.mono _ _
   | exact codicilref03_Hex.mono _ _
   | exact LeO.none _
   | refine LeO.ite ?_ ?_
   | refine LeO.bind ?_ (fun _ => ?_)
  ·intro y0 y1
   unfold codicillaw03_ShaHex.j1
   repeat' first
   | (with_reducible exact ih0 _ _ _)
   | (with_reducible exact ih1 _ _)
   | (with_reducible exact codicilref03_Bytes.mono _ _)
   | (with_reducible exact codicilref03_Hex.mono _ _)
   | (with_reducible exact LeO.refl _)
   | (with_reducible exact LeO.none _)
   | (with_reducible refine LeO.ite ?_ ?_)
   | (with_reducible refine LeO.bind ?_ (fun _ => ?_))
   | exact ih0 _ _ _
   | exact ih1 _ _
   | exact codicilref03_Bytes.mono _ _
   | exact codicilref03_Hex.mono _ _
   | exact LeO.none _
   | refine LeO.ite ?_ ?_
   | refine LeO.bind ?_ (fun _ => ?_)
theorem codicillaw03_ShaHex.mono : ∀ a0 a1 k, LeO (codicillaw03_ShaHex.f k a0 a1) (codicillaw03_ShaHex.f (k + 1) a0 a1) := by
 intro a0 a1 k
 obtain ⟨ih0, ih1⟩ := codicillaw03_ShaHex.mono_l k
 unfold codicillaw03_ShaHex.f
 repeat' first
   | (with_reducible exact ih0 _ _ _)
   | (with_reducible exact ih1 _ _)
   | (with_reducible exact codicilref03_Bytes.mono _ _)
   | (with_reducible exact codicilref03_Hex.mono _ _)
   | (with_reducible exact LeO.refl _)
   | (with_reducible exact LeO.none _)
   | (with_reducible refine LeO.ite ?_ ?_)
   | (with_reducible refine LeO.bind ?_ (fun _ => ?_))
   | exact ih0 _ _ _
   | exact ih1 _ _
   | exact codicilref03_Bytes.mono _ _
   | exact codicilref03_Hex.mono _ _
   | exact LeO.none _
   | refine LeO.ite ?_ ?_
   | refine LeO.bind ?_ (fun _ => ?_)
set_option maxHeartbeats 8000000 in
set_option maxRecDepth 100000 in
theorem codicillaw03_ShaHex.calls (k : Nat) (a0 : ByteArray) (a1 : ByteArray) (r : Bool) (w : World) (h : codicillaw03_ShaHex.f k a0 a1 = some r) :
  Calls Try.prog 8 #[.string a0, .string a1] w fun e w' => e = .returned (.bool r) ∧ Below w.heap.size w w' := by
 have HB := qH (Below.refl w.heap.size w)
 have H : (if (a0.size : Int) > 4096 then (codicillaw03_ShaHex.j0 k a0 a1 true) else (codicillaw03_ShaHex.j0 k a0 a1 (decide ((a1.size : Int) > 4096)))) = some r := h
 clear h
 have HC3 := qH H
 clear H
 go_enter Try.func8, Try.ntmps8
 go_upto_region 1 with (fail)
 go_cut [18] (fun v18 wc => ∃ (kq : Nat) (x18_2 : Bool), v18 = .bool x18_2 ∧ Aside0 (codicillaw03_ShaHex.j0 kq a0 a1 x18_2 = some r) ∧ Aside0 (kq ≤ k) ∧ Aside0 (Below w.heap.size w wc))
 case first =>
  have H := HC3.out
  clear HC3
  by_cases c4 : (a0.size : Int) > 4096
  ·rw [if_pos c4] at H
   have c4b0 : decide (4096 < (a0.size : Int)) = true := decide_eq_true c4
   have c4b1 : decide (4096 < a0.size) = true := decide_eq_true (by omega)
   clear c4
   (first | rw [c4b0] | (simp only [i64_w, i32_w]; rw [c4b0]) | skip)
   have H' := qH H
   clear H
   go_wp2
   go_meet
   case rel => exact ⟨_, (true), (by first | rfl | (simp; done) | (simp; exact qEmp _) | (simp [*]; done)), H', ⟨by first | omega | exact Nat.le_refl _⟩, ⟨by repeat (first | (with_reducible first | exact HB.out | apply qL | apply qJ | apply qK) | exact HB.out)⟩⟩
  ·rw [if_neg c4] at H
   have c4b0 : decide (4096 < (a0.size : Int)) = false := decide_eq_false c4
   have c4b1 : decide (4096 < a0.size) = false := decide_eq_false (by omega)
   clear c4
   (first | rw [c4b0] | (simp only [i64_w, i32_w]; rw [c4b0]) | skip)
   have H' := qH H
   clear H
   go_wp2
   go_meet
   case rel => exact ⟨_, (decide ((a1.size : Int) > 4096)), (by first | rfl | (simp; done) | (simp; exact qEmp _) | (simp [*]; done)), H', ⟨by first | omega | exact Nat.le_refl _⟩, ⟨by repeat (first | (with_reducible first | exact HB.out | apply qL | apply qJ | apply qK) | exact HB.out)⟩⟩
 case rest =>
  clear HC3
  try clear p2
  try clear c4
  try clear c4b0
  try clear c4b1
  obtain ⟨kq, x18_2, rfl, HA, HJ2, HB⟩ := hcut
  cases kq with
  | zero => exact absurd HA.out (by simp [codicillaw03_ShaHex.j0])
  | succ kj2 =>
   have H := HA.out
   clear HA
   simp only [codicillaw03_ShaHex.j0] at H
   by_cases c5 : x18_2 = true
   ·subst c5
    have H1 : ((codicillaw03_alive.f).bind fun t120 => (some t120)) = some r := by rw [if_pos rfl] at H; exact H
    clear H
    have H := H1
    clear H1
    replace H := Option.bind_eq_some_iff.mp H
    obtain ⟨t120, A60, H⟩ := H
    (try dsimp only at H)
    have A6 := qH A60
    clear A60
    obtain rfl := Option.some.inj H
    simp only [Option.some.injEq, Prod.mk.injEq] at H
    obtain ⟨rfl⟩ := H
    go_wp2_with (first | ((with_reducible refine gate_callee (f := 33) rfl ?_); refine goesL_ (some 19) rfl rfl Try.func33 (by kernel_rfl) rfl #[] rfl (by (try simp only [List.map_toArray, List.map_cons, List.map_nil]); first | done | rfl | (simp only [List.length_drop, List.length_take]; rfl)) ?_; (with_reducible refine (codicillaw03_alive.calls  t120 _ A6.out).mono ?_); rintro e w7 ⟨rfl, hb⟩; refine ⟨_, rfl, ?_⟩; have n0_ := qH (below_step (by repeat (first | (with_reducible first | exact HB.out | apply qL | apply qJ | apply qK) | exact HB.out)) hb); clear HB; have HB := n0_; clear n0_; (try clear hb); (try clear hb2); (try clear hk); (try clear hi)))
    go_ret
    exact ⟨by first | rfl | (simp [errW_none, errW_some] <;> rfl) | (simp [*, errW_none, errW_some] <;> rfl), by repeat (first | (with_reducible first | exact HB.out | apply qL | apply qJ | apply qK) | exact HB.out)⟩
   ·replace c5 := Bool.eq_false_iff.mpr c5
    subst c5
    have H1 : ((sha_Bytes.f a1).bind fun bt121 => ((codicilref03_Bytes.f kj2 a1).bind fun bt123 => (if bt121.1.toList = bt123.1.toList then (if (bt121.2 != bt123.2) = true then (codicillaw03_ShaHex.j1 kj2 a0 true) else (if bt121.2 = true then ((sha_Hex.f bt121.1).bind fun t125 => (if t125.toList = a1.toList then ((sha_Hex.f a0).bind fun t126 => ((codicilref03_Hex.f kj2 a0).bind fun t127 => (codicillaw03_ShaHex.j1 kj2 a0 (t126.toList != t127.toList)))) else (codicillaw03_ShaHex.j1 kj2 a0 true))) else ((sha_Hex.f a0).bind fun t128 => ((codicilref03_Hex.f kj2 a0).bind fun t129 => (codicillaw03_ShaHex.j1 kj2 a0 (t128.toList != t129.toList)))))) else (codicillaw03_ShaHex.j1 kj2 a0 true)))) = some r := by rw [if_neg (show ¬ (false = true) by decide)] at H; exact H
    clear H
    have H := H1
    clear H1
    replace H := Option.bind_eq_some_iff.mp H
    obtain ⟨⟨t121, t122⟩, A80, H⟩ := H
    (try dsimp only at H)
    have A8 := qH A80
    clear A80
    replace H := Option.bind_eq_some_iff.mp H
    obtain ⟨⟨t123, t124⟩, A90, H⟩ := H
    (try dsimp only at H)
    have A9 := qH A90
    clear A90
    have HC10 := qH H
    clear H
    go_upto_region 5 with (first | ((with_reducible refine gate_callee (f := 36) rfl ?_); refine goesL_ (some 22) rfl rfl Try.func36 (by kernel_rfl) rfl #[.string a1] rfl (by (try simp only [List.map_toArray, List.map_cons, List.map_nil]); first | done | rfl | (simp only [List.length_drop, List.length_take]; rfl)) ?_; (with_reducible refine (sha_Bytes.calls a1 t121 t122 _ A8.out).mono ?_); rintro e w11 ⟨rfl, hb⟩; refine ⟨_, rfl, ?_⟩; have n0_ := qH (below_step (by repeat (first | (with_reducible first | exact HB.out | apply qL | apply qJ | apply qK) | exact HB.out)) hb); clear HB; have HB := n0_; clear n0_; (try clear hb); (try clear hb2); (try clear hk); (try clear hi)) | ((with_reducible refine gate_callee (f := 37) rfl ?_); refine goesL_ (some 27) rfl rfl Try.func37 (by kernel_rfl) rfl #[.string a1] rfl (by (try simp only [List.map_toArray, List.map_cons, List.map_nil]); first | done | rfl | (simp only [List.length_drop, List.length_take]; rfl)) ?_; (with_reducible refine (codicilref03_Bytes.calls kj2 a1 t123 t124 _ A9.out).mono ?_); rintro e w12 ⟨rfl, hb⟩; refine ⟨_, rfl, ?_⟩; have n0_ := qH (below_step (by repeat (first | (with_reducible first | exact HB.out | apply qL | apply qJ | apply qK) | exact HB.out)) hb); clear HB; have HB := n0_; clear n0_; (try clear hb); (try clear hb2); (try clear hk); (try clear hi)))
    (try simp only [Act.put, List.setIfInBounds_toArray, List.set_cons_zero, List.set_cons_succ])
    go_cut [53] (fun v53 wc => ∃ (kq : Nat) (x53_9 : Bool), v53 = .bool x53_9 ∧ Aside0 (codicillaw03_ShaHex.j1 kq a0 x53_9 = some r) ∧ Aside0 (kq ≤ kj2) ∧ Aside0 (Below w.heap.size w wc))
    case first =>
     have H := HC10.out
     clear HC10
     by_cases c13 : t121.toList = t123.toList
     ·rw [if_pos c13] at H
      have c13b0 : (t121.toList == t123.toList) = true := beq_iff_eq.mpr c13
      have c13b1 : (t121.toList != t123.toList) = false := bne_eq_false_iff_eq.mpr c13
      clear c13
      (first | rw [c13b0] | (simp only [i64_w, i32_w]; rw [c13b0]) | skip)
      by_cases c14 : (t122 != t124) = true
      ·rw [if_pos c14] at H
       have c14b0 : (t122 != t124) = true := c14
       (try (have c14b1 : decide (t122 = t124) = false := by simpa using c14))
       (try (have c14b2 : (t122 == t124) = false := by simpa using c14))
       (try (have c14b3 : ¬ (t122 = t124) := by simpa using c14))
       clear c14
       have H' := qH H
       clear H
       go_wp2
       go_meet
       case rel => exact ⟨_, (true), (by first | rfl | (simp; done) | (simp; exact qEmp _) | (simp [*]; done)), H', ⟨by have := HJ2.out; first | omega | exact Nat.le_refl _⟩, ⟨by repeat (first | (with_reducible first | exact HB.out | apply qL | apply qJ | apply qK) | exact HB.out)⟩⟩
      ·rw [if_neg c14] at H
       have c14b0 : (t122 != t124) = false := by simpa using c14
       (try (have c14b1 : decide (t122 = t124) = true := by simpa using c14))
       (try (have c14b2 : (t122 == t124) = true := by simpa using c14))
       clear c14
       by_cases c15 : t122 = true
       ·subst c15
        have H1 : ((sha_Hex.f t121).bind fun t125 => (if t125.toList = a1.toList then ((sha_Hex.f a0).bind fun t126 => ((codicilref03_Hex.f kj2 a0).bind fun t127 => (codicillaw03_ShaHex.j1 kj2 a0 (t126.toList != t127.toList)))) else (codicillaw03_ShaHex.j1 kj2 a0 true))) = some r := by rw [if_pos rfl] at H; exact H
        clear H
        have H := H1
        clear H1
        replace H := Option.bind_eq_some_iff.mp H
        obtain ⟨t125, A160, H⟩ := H
        (try dsimp only at H)
        have A16 := qH A160
        clear A160
        by_cases c17 : t125.toList = a1.toList
        ·rw [if_pos c17] at H
         have c17b0 : (t125.toList == a1.toList) = true := beq_iff_eq.mpr c17
         have c17b1 : (t125.toList != a1.toList) = false := bne_eq_false_iff_eq.mpr c17
         clear c17
         replace H := Option.bind_eq_some_iff.mp H
         obtain ⟨t126, A180, H⟩ := H
         (try dsimp only at H)
         have A18 := qH A180
         clear A180
         replace H := Option.bind_eq_some_iff.mp H
         obtain ⟨t127, A190, H⟩ := H
         (try dsimp only at H)
         have A19 := qH A190
         clear A190
         have H' := qH H
         clear H
         go_wp2_with (first | (go_at_call 38; (with_reducible refine (sha_Hex.calls t121 t125 _ A16.out).mono ?_); rintro e w20 ⟨rfl, hb⟩; have n0_ := qH (below_step (by repeat (first | (with_reducible first | exact HB.out | apply qL | apply qJ | apply qK) | exact HB.out)) hb); clear HB; have HB := n0_; clear n0_; (try clear hb); (try clear hb2); (try clear hk); (try clear hi)) | (go_at_call 38; (with_reducible refine (sha_Hex.calls a0 t126 _ A18.out).mono ?_); rintro e w21 ⟨rfl, hb⟩; have n0_ := qH (below_step (by repeat (first | (with_reducible first | exact HB.out | apply qL | apply qJ | apply qK) | exact HB.out)) hb); clear HB; have HB := n0_; clear n0_; (try clear hb); (try clear hb2); (try clear hk); (try clear hi)) | (go_at_call 39; (with_reducible refine (codicilref03_Hex.calls kj2 a0 t127 _ A19.out).mono ?_); rintro e w22 ⟨rfl, hb⟩; have n0_ := qH (below_step (by repeat (first | (with_reducible first | exact HB.out | apply qL | apply qJ | apply qK) | exact HB.out)) hb); clear HB; have HB := n0_; clear n0_; (try clear hb); (try clear hb2); (try clear hk); (try clear hi)))
         go_meet
         case rel => exact ⟨_, ((t126.toList != t127.toList)), (by first | rfl | (simp; done) | (simp; exact qEmp _) | (simp [*]; done)), H', ⟨by have := HJ2.out; first | omega | exact Nat.le_refl _⟩, ⟨by repeat (first | (with_reducible first | exact HB.out | apply qL | apply qJ | apply qK) | exact HB.out)⟩⟩
        ·rw [if_neg c17] at H
         have c17b0 : (t125.toList == a1.toList) = false := beq_eq_false_iff_ne.mpr c17
         have c17b1 : (t125.toList != a1.toList) = true := bne_iff_ne.mpr c17
         have H' := qH H
         clear H
         go_wp2_with (first | (go_at_call 38; (with_reducible refine (sha_Hex.calls t121 t125 _ A16.out).mono ?_); rintro e w23 ⟨rfl, hb⟩; have n0_ := qH (below_step (by repeat (first | (with_reducible first | exact HB.out | apply qL | apply qJ | apply qK) | exact HB.out)) hb); clear HB; have HB := n0_; clear n0_; (try clear hb); (try clear hb2); (try clear hk); (try clear hi)))
         go_meet
         case rel => exact ⟨_, (true), (by first | rfl | (simp; done) | (simp; exact qEmp _) | (simp [*]; done)), H', ⟨by have := HJ2.out; first | omega | exact Nat.le_refl _⟩, ⟨by repeat (first | (with_reducible first | exact HB.out | apply qL | apply qJ | apply qK) | exact HB.out)⟩⟩
       ·replace c15 := Bool.eq_false_iff.mpr c15
        subst c15
        have H1 : ((sha_Hex.f a0).bind fun t128 => ((codicilref03_Hex.f kj2 a0).bind fun t129 => (codicillaw03_ShaHex.j1 kj2 a0 (t128.toList != t129.toList)))) = some r := by rw [if_neg (show ¬ (false = true) by decide)] at H; exact H
        clear H
        have H := H1
        clear H1
        replace H := Option.bind_eq_some_iff.mp H
        obtain ⟨t128, A240, H⟩ := H
        (try dsimp only at H)
        have A24 := qH A240
        clear A240
        replace H := Option.bind_eq_some_iff.mp H
        obtain ⟨t129, A250, H⟩ := H
        (try dsimp only at H)
        have A25 := qH A250
        clear A250
        have H' := qH H
        clear H
        go_wp2_with (first | (go_at_call 38; (with_reducible refine (sha_Hex.calls a0 t128 _ A24.out).mono ?_); rintro e w26 ⟨rfl, hb⟩; have n0_ := qH (below_step (by repeat (first | (with_reducible first | exact HB.out | apply qL | apply qJ | apply qK) | exact HB.out)) hb); clear HB; have HB := n0_; clear n0_; (try clear hb); (try clear hb2); (try clear hk); (try clear hi)) | (go_at_call 39; (with_reducible refine (codicilref03_Hex.calls kj2 a0 t129 _ A25.out).mono ?_); rintro e w27 ⟨rfl, hb⟩; have n0_ := qH (below_step (by repeat (first | (with_reducible first | exact HB.out | apply qL | apply qJ | apply qK) | exact HB.out)) hb); clear HB; have HB := n0_; clear n0_; (try clear hb); (try clear hb2); (try clear hk); (try clear hi)))
        go_meet
        case rel => exact ⟨_, ((t128.toList != t129.toList)), (by first | rfl | (simp; done) | (simp; exact qEmp _) | (simp [*]; done)), H', ⟨by have := HJ2.out; first | omega | exact Nat.le_refl _⟩, ⟨by repeat (first | (with_reducible first | exact HB.out | apply qL | apply qJ | apply qK) | exact HB.out)⟩⟩
     ·rw [if_neg c13] at H
      have c13b0 : (t121.toList == t123.toList) = false := beq_eq_false_iff_ne.mpr c13
      have c13b1 : (t121.toList != t123.toList) = true := bne_iff_ne.mpr c13
      (first | rw [c13b0] | (simp only [i64_w, i32_w]; rw [c13b0]) | skip)
      have H' := qH H
      clear H
      go_wp2
      go_meet
      case rel => exact ⟨_, (true), (by first | rfl | (simp; done) | (simp; exact qEmp _) | (simp [*]; done)), H', ⟨by have := HJ2.out; first | omega | exact Nat.le_refl _⟩, ⟨by repeat (first | (with_reducible first | exact HB.out | apply qL | apply qJ | apply qK) | exact HB.out)⟩⟩
    case rest =>
     clear HC10
     try clear c1
     try clear p2
     try clear c3
     try clear c4
     try clear c4b0
     try clear c4b1
     try clear c5
     try clear c8
     try clear c13
     try clear c13b0
     try clear c13b1
     try clear c14
     try clear c14b0
     try clear c14b1
     try clear c14b2
     try clear c15
     try clear c17
     try clear c17b0
     try clear c17b1
     try clear p2
     obtain ⟨kq, x53_9, rfl, HA, HJ9, HB⟩ := hcut
     cases kq with
     | zero => exact absurd HA.out (by simp [codicillaw03_ShaHex.j1])
     | succ kj9 =>
      have H := HA.out
      clear HA
      simp only [codicillaw03_ShaHex.j1] at H
      by_cases c28 : x53_9 = true
      ·subst c28
       have H1 : (some false) = some r := by rw [if_pos rfl] at H; exact H
       clear H
       have H := H1
       clear H1
       obtain rfl := Option.some.inj H
       simp only [Option.some.injEq, Prod.mk.injEq] at H
       obtain ⟨rfl⟩ := H
       go_wp2
       go_ret
       exact ⟨by first | rfl | (simp [errW_none, errW_some] <;> rfl) | (simp [*, errW_none, errW_some] <;> rfl), by repeat (first | (with_reducible first | exact HB.out | apply qL | apply qJ | apply qK) | exact HB.out)⟩
      ·replace c28 := Bool.eq_false_iff.mpr c28
       subst c28
       have H1 : ((sha_Hex.f a0).bind fun t130 => ((sha_Bytes.f t130).bind fun bt131 => (if bt131.1.toList = a0.toList then (if bt131.2 = true then ((codicillaw03_alive.f).bind fun t133 => (some t133)) else (some false)) else (some false)))) = some r := by rw [if_neg (show ¬ (false = true) by decide)] at H; exact H
       clear H
       have H := H1
       clear H1
       replace H := Option.bind_eq_some_iff.mp H
       obtain ⟨t130, A290, H⟩ := H
       (try dsimp only at H)
       have A29 := qH A290
       clear A290
       replace H := Option.bind_eq_some_iff.mp H
       obtain ⟨⟨t131, t132⟩, A300, H⟩ := H
       (try dsimp only at H)
       have A30 := qH A300
       clear A300
       by_cases c31 : t131.toList = a0.toList
       ·rw [if_pos c31] at H
        have c31b0 : (t131.toList == a0.toList) = true := beq_iff_eq.mpr c31
        have c31b1 : (t131.toList != a0.toList) = false := bne_eq_false_iff_eq.mpr c31
        clear c31
        by_cases c32 : t132 = true
        ·subst c32
         have H1 : ((codicillaw03_alive.f).bind fun t133 => (some t133)) = some r := by rw [if_pos rfl] at H; exact H
         clear H
         have H := H1
         clear H1
         replace H := Option.bind_eq_some_iff.mp H
         obtain ⟨t133, A330, H⟩ := H
         (try dsimp only at H)
         have A33 := qH A330
         clear A330
         obtain rfl := Option.some.inj H
         simp only [Option.some.injEq, Prod.mk.injEq] at H
         obtain ⟨rfl⟩ := H
         go_wp2_with (first | ((with_reducible refine gate_callee (f := 38) rfl ?_); refine goesL_ (some 56) rfl rfl Try.func38 (by kernel_rfl) rfl #[.string a0] rfl (by (try simp only [List.map_toArray, List.map_cons, List.map_nil]); first | done | rfl | (simp only [List.length_drop, List.length_take]; rfl)) ?_; (with_reducible refine (sha_Hex.calls a0 t130 _ A29.out).mono ?_); rintro e w34 ⟨rfl, hb⟩; refine ⟨_, rfl, ?_⟩; have n0_ := qH (below_step (by repeat (first | (with_reducible first | exact HB.out | apply qL | apply qJ | apply qK) | exact HB.out)) hb); clear HB; have HB := n0_; clear n0_; (try clear hb); (try clear hb2); (try clear hk); (try clear hi)) | ((with_reducible refine gate_callee (f := 36) rfl ?_); refine goesL_ (some 57) rfl rfl Try.func36 (by kernel_rfl) rfl #[.string t130] rfl (by (try simp only [List.map_toArray, List.map_cons, List.map_nil]); first | done | rfl | (simp only [List.length_drop, List.length_take]; rfl)) ?_; (with_reducible refine (sha_Bytes.calls t130 t131 true _ A30.out).mono ?_); rintro e w35 ⟨rfl, hb⟩; refine ⟨_, rfl, ?_⟩; have n0_ := qH (below_step (by repeat (first | (with_reducible first | exact HB.out | apply qL | apply qJ | apply qK) | exact HB.out)) hb); clear HB; have HB := n0_; clear n0_; (try clear hb); (try clear hb2); (try clear hk); (try clear hi)) | (go_at_call 33; (with_reducible refine (codicillaw03_alive.calls  t133 _ A33.out).mono ?_); rintro e w36 ⟨rfl, hb⟩; have n0_ := qH (below_step (by repeat (first | (with_reducible first | exact HB.out | apply qL | apply qJ | apply qK) | exact HB.out)) hb); clear HB; have HB := n0_; clear n0_; (try clear hb); (try clear hb2); (try clear hk); (try clear hi)))
         go_ret
         exact ⟨by first | rfl | (simp [errW_none, errW_some] <;> rfl) | (simp [*, errW_none, errW_some] <;> rfl), by repeat (first | (with_reducible first | exact HB.out | apply qL | apply qJ | apply qK) | exact HB.out)⟩
        ·replace c32 := Bool.eq_false_iff.mpr c32
         subst c32
         have H1 : (some false) = some r := by rw [if_neg (show ¬ (false = true) by decide)] at H; exact H
         clear H
         have H := H1
         clear H1
         obtain rfl := Option.some.inj H
         simp only [Option.some.injEq, Prod.mk.injEq] at H
         obtain ⟨rfl⟩ := H
         go_wp2_with (first | ((with_reducible refine gate_callee (f := 38) rfl ?_); refine goesL_ (some 56) rfl rfl Try.func38 (by kernel_rfl) rfl #[.string a0] rfl (by (try simp only [List.map_toArray, List.map_cons, List.map_nil]); first | done | rfl | (simp only [List.length_drop, List.length_take]; rfl)) ?_; (with_reducible refine (sha_Hex.calls a0 t130 _ A29.out).mono ?_); rintro e w37 ⟨rfl, hb⟩; refine ⟨_, rfl, ?_⟩; have n0_ := qH (below_step (by repeat (first | (with_reducible first | exact HB.out | apply qL | apply qJ | apply qK) | exact HB.out)) hb); clear HB; have HB := n0_; clear n0_; (try clear hb); (try clear hb2); (try clear hk); (try clear hi)) | ((with_reducible refine gate_callee (f := 36) rfl ?_); refine goesL_ (some 57) rfl rfl Try.func36 (by kernel_rfl) rfl #[.string t130] rfl (by (try simp only [List.map_toArray, List.map_cons, List.map_nil]); first | done | rfl | (simp only [List.length_drop, List.length_take]; rfl)) ?_; (with_reducible refine (sha_Bytes.calls t130 t131 false _ A30.out).mono ?_); rintro e w38 ⟨rfl, hb⟩; refine ⟨_, rfl, ?_⟩; have n0_ := qH (below_step (by repeat (first | (with_reducible first | exact HB.out | apply qL | apply qJ | apply qK) | exact HB.out)) hb); clear HB; have HB := n0_; clear n0_; (try clear hb); (try clear hb2); (try clear hk); (try clear hi)))
         go_ret
         exact ⟨by first | rfl | (simp [errW_none, errW_some] <;> rfl) | (simp [*, errW_none, errW_some] <;> rfl), by repeat (first | (with_reducible first | exact HB.out | apply qL | apply qJ | apply qK) | exact HB.out)⟩
       ·rw [if_neg c31] at H
        have c31b0 : (t131.toList == a0.toList) = false := beq_eq_false_iff_ne.mpr c31
        have c31b1 : (t131.toList != a0.toList) = true := bne_iff_ne.mpr c31
        obtain rfl := Option.some.inj H
        simp only [Option.some.injEq, Prod.mk.injEq] at H
        obtain ⟨rfl⟩ := H
        go_wp2_with (first | ((with_reducible refine gate_callee (f := 38) rfl ?_); refine goesL_ (some 56) rfl rfl Try.func38 (by kernel_rfl) rfl #[.string a0] rfl (by (try simp only [List.map_toArray, List.map_cons, List.map_nil]); first | done | rfl | (simp only [List.length_drop, List.length_take]; rfl)) ?_; (with_reducible refine (sha_Hex.calls a0 t130 _ A29.out).mono ?_); rintro e w39 ⟨rfl, hb⟩; refine ⟨_, rfl, ?_⟩; have n0_ := qH (below_step (by repeat (first | (with_reducible first | exact HB.out | apply qL | apply qJ | apply qK) | exact HB.out)) hb); clear HB; have HB := n0_; clear n0_; (try clear hb); (try clear hb2); (try clear hk); (try clear hi)) | ((with_reducible refine gate_callee (f := 36) rfl ?_); refine goesL_ (some 57) rfl rfl Try.func36 (by kernel_rfl) rfl #[.string t130] rfl (by (try simp only [List.map_toArray, List.map_cons, List.map_nil]); first | done | rfl | (simp only [List.length_drop, List.length_take]; rfl)) ?_; (with_reducible refine (sha_Bytes.calls t130 t131 t132 _ A30.out).mono ?_); rintro e w40 ⟨rfl, hb⟩; refine ⟨_, rfl, ?_⟩; have n0_ := qH (below_step (by repeat (first | (with_reducible first | exact HB.out | apply qL | apply qJ | apply qK) | exact HB.out)) hb); clear HB; have HB := n0_; clear n0_; (try clear hb); (try clear hb2); (try clear hk); (try clear hi)))
        go_ret
        exact ⟨by first | rfl | (simp [errW_none, errW_some] <;> rfl) | (simp [*, errW_none, errW_some] <;> rfl), by repeat (first | (with_reducible first | exact HB.out | apply qL | apply qJ | apply qK) | exact HB.out)⟩

/-- THE ONE PURE STATEMENT of codicillaw03_ShaHex: yours. -/
def codicillaw03_ShaHex.Pure : Prop := ∀ (a0 : ByteArray) (a1 : ByteArray), a0.size ≤ 140737488351232 → a1.size ≤ 140737488351232 → ∃ k, codicillaw03_ShaHex.f k a0 a1 = some true
theorem codicillaw03_ShaHex.walk (P : codicillaw03_ShaHex.Pure) (a0 : ByteArray) (a1 : ByteArray) (w : World) (w0 : a0.size ≤ 140737488351232) (w1 : a1.size ≤ 140737488351232) :
  Calls Try.prog 8 #[.string a0, .string a1] w fun e w' => e = .returned (.bool true) ∧ Below w.heap.size w w' := by
 obtain ⟨k, h⟩ := P a0 a1 w0 w1
 refine (codicillaw03_ShaHex.calls k a0 a1 true w h).mono ?_
 rintro e w' ⟨rfl, hd⟩
 exact ⟨rfl, hd⟩

end Go.Proofs.Ytkcjekboakoejaa.Print
