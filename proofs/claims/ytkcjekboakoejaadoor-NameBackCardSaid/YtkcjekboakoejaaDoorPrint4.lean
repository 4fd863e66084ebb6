-- Written by wip/tools/xprint.py of this session's repo (the kit's print, run with external functions). Lean checks it.
import Derived.Test.YtkcjekboakoejaaDoorPrint0
import Derived.Test.YtkcjekboakoejaaDoorPrint1
import Derived.Test.YtkcjekboakoejaaDoorHAlive11
import Derived.Test.YtkcjekboakoejaaDoorHNPrim
namespace Go.Proofs.YtkcjekboakoejaaDoor.Print
open Go.RowKit Go.Proofs.YtkcjekboakoejaaDoorW.PrintWords Go.Proofs.YtkcjekboakoejaaDoorW.PrintLast Go.Proofs.YtkcjekboakoejaaDoorW.PrintMore
attribute [local go_sem] max2_int min2_int max_two min_two max_three min_three max_four min_four   -- for this text's walks alone
set_option linter.unusedVariables false
set_option linter.unusedSimpArgs false

/-! ### codicillaw11_NameBack: function 4 -/
mutual
def codicillaw11_NameBack.j0 : Nat → ByteArray → ByteArray → Bool → Option (Bool)
 | 0, _, _, _ => none
 | k + 1, x0, x1, x22 => if x22 = true then ((codicillaw11_alive.f k).bind fun t142 => (some t142)) else ((name_Split.f k x0).bind fun bt143 => ((name_Join.f k bt143.1 bt143.2).bind fun bt145 => ((name_Full.f x0).bind fun t147 => (if t147 = true then ((name_Primitive.f x0).bind fun t148 => (if (bt145.2 == t148) = true then (codicillaw11_NameBack.j1 k x0 x1 true) else (if bt145.2 = true then (codicillaw11_NameBack.j1 k x0 x1 (bt145.1.toList != x0.toList)) else (codicillaw11_NameBack.j1 k x0 x1 false)))) else (codicillaw11_NameBack.j1 k x0 x1 false)))))
def codicillaw11_NameBack.j1 : Nat → ByteArray → ByteArray → Bool → Option (Bool)
 | 0, _, _, _ => none
 | k + 1, x0, x1, x50 => if x50 = true then (some false) else ((name_Join.f k x0 x1).bind fun bt149 => (if bt149.2 = true then ((name_Split.f k bt149.1).bind fun bt151 => ((name_Split.f k x1).bind fun bt153 => ((name_Full.f bt149.1).bind fun t155 => (if t155 = true then ((name_Simple.f bt151.2).bind fun t156 => (if t156 = true then (if bt151.2.toList = bt153.2.toList then ((codicillaw11_alive.f k).bind fun t157 => (some t157)) else (some false)) else (some false))) else (some false))))) else ((codicillaw11_alive.f k).bind fun t158 => (some t158))))
end
def codicillaw11_NameBack.f (k : Nat) (a0 : ByteArray) (a1 : ByteArray) : Option (Bool) := if (a0.size : Int) > 4096 then (codicillaw11_NameBack.j0 k a0 a1 true) else (codicillaw11_NameBack.j0 k a0 a1 (decide ((a1.size : Int) > 4096)))
theorem codicillaw11_NameBack.mono_l : ∀ k, (∀ y0 y1 y2, LeO (codicillaw11_NameBack.j0 k y0 y1 y2) (codicillaw11_NameBack.j0 (k + 1) y0 y1 y2)) ∧ (∀ y0 y1 y2, LeO (codicillaw11_NameBack.j1 k y0 y1 y2) (codicillaw11_NameBack.j1 (k + 1) y0 y1 y2))
 | 0 => ⟨fun _ _ _ r h => by simp [codicillaw11_NameBack.j0] at h, fun _ _ _ r h => by simp [codicillaw11_NameBack.j1] at h⟩
 | k + 1 => by
  obtain ⟨ih0, ih1⟩ := codicillaw11_NameBack.mono_l k
  refine ⟨?_, ?_⟩
  ·intro y0 y1 y2
   unfold codicillaw11_NameBack.j0
   repeat' first
   | (with_reducible exact ih0 _ _ _)
   | (with_reducible exact ih1 _ _ _)
   | (with_reducible exact codicillaw11_alive.mono _)
   | (with_reducible exact name_Join.mono _ _ _)
   | (with_reducible exact name_Split.mono _ _)
   | (with_reducible exact LeO.refl _)
   | (with_reducible exact LeO.none _)
   | (with_reducible refine LeO.ite ?_ ?_)
   | (with_reducible refine LeO.bind ?_ (fun _ => ?_))
   | exact ih0 _ _ _
   | exact ih1 _ _ _
   | exact codicillaw11_alive.mono _
   | exact name_Join.mono _ _ _
   | exact name_Split.mono _ _
   | exact LeO.none _
   | refine LeO.ite ?_ ?_
   | refine LeO.bind ?_ (fun _ => ?_)
  ·intro y0 y1 y2
   unfold codicillaw11_NameBack.j1
   repeat' first
   | (with_reducible exact ih0 _ _ _)
   | (with_reducible exact ih1 _ _ _)
   | (with_reducible exact codicillaw11_alive.mono _)
   | (with_reducible exact name_Join.mono _ _ _)
   | (with_reducible exact name_Split.mono _ _)
   | (with_reducible exact LeO.refl _)
   | (with_reducible exact LeO.none _)
   | (with_reducible refine LeO.ite ?_ ?_)
   | (with_reducible refine LeO.bind ?_ (fun _ => ?_))
   | exact ih0 _ _ _
   | exact ih1 _ _ _
   | exact codicillaw11_alive.mono _
   | exact name_Join.mono _ _ _
   | exact name_Split.mono _ _
   | exact LeO.none _
   | refine LeO.ite ?_ ?_
   | refine LeO.bind ?_ (fun _ => ?_)
theorem codicillaw11_NameBack.mono : ∀ a0 a1 k, LeO (codicillaw11_NameBack.f k a0 a1) (codicillaw11_NameBack.f (k + 1) a0 a1) := by
 intro a0 a1 k
 obtain ⟨ih0, ih1⟩ := codicillaw11_NameBack.mono_l k
 unfold codicillaw11_NameBack.f
 repeat' first
   | (with_reducible exact ih0 _ _ _)
   | (with_reducible exact ih1 _ _ _)
   | (with_reducible exact codicillaw11_alive.mono _)
   | (with_reducible exact name_Join.mono _ _ _)
   | (with_reducible exact name_Split.mono _ _)
   | (with_reducible exact LeO.refl _)
   | (with_reducible exact LeO.none _)
   | (with_reducible refine LeO.ite ?_ ?_)
   | (with_reducible refine LeO.bind ?_ (fun _ => ?_))
   | exact ih0 _ _ _
   | exact ih1 _ _ _
   | exact codicillaw11_alive.mono _
   | exact name_Join.mono _ _ _
   | exact name_Split.mono _ _
   | exact LeO.none _
   | refine LeO.ite ?_ ?_
   | refine LeO.bind ?_ (fun _ => ?_)
set_option maxHeartbeats 8000000 in
set_option maxRecDepth 100000 in
theorem codicillaw11_NameBack.calls (k : Nat) (a0 : ByteArray) (a1 : ByteArray) (r : Bool) (w : World) (h : codicillaw11_NameBack.f k a0 a1 = some r) :
  Calls Tryd.prog 4 #[.string a0, .string a1] w fun e w' => e = .returned (.bool r) ∧ Below w.heap.size w w' := by
 have HB := qH (Below.refl w.heap.size w)
 have H : (if (a0.size : Int) > 4096 then (codicillaw11_NameBack.j0 k a0 a1 true) else (codicillaw11_NameBack.j0 k a0 a1 (decide ((a1.size : Int) > 4096)))) = some r := h
 clear h
 have HC3 := qH H
 clear H
 go_enter Tryd.func4, Tryd.ntmps4
 go_upto_region 1 with (fail)
 go_cut [22] (fun v22 wc => ∃ (kq : Nat) (x22_2 : Bool), v22 = .bool x22_2 ∧ Aside0 (codicillaw11_NameBack.j0 kq a0 a1 x22_2 = some r) ∧ Aside0 (kq ≤ k) ∧ Aside0 (Below w.heap.size w wc))
 case first =>
  have H := HC3.out
  clear HC3
  by_cases c4 : (a0.size : Int) > 4096
  ·rw [if_pos c4] at H
   have c4b0 : decide (4096 < (a0.size : Int)) = true := decide_eq_true c4
   have c4b1 : decide (4096 < a0.size) = true := decide_eq_true (by omega)
   clear c4
   (first | rw [c4b0] | (simp only [i64_w, i32_w]; rw [c4b0]) | skip)
   have H' := qH H
   clear H
   go_wp2
   go_meet
   case rel => exact ⟨_, (true), (by first | rfl | (simp; done) | (simp; exact qEmp _) | (simp [*]; done)), H', ⟨by first | omega | exact Nat.le_refl _⟩, ⟨by repeat (first | (with_reducible first | exact HB.out | apply qL | apply qJ | apply qK) | exact HB.out)⟩⟩
  ·rw [if_neg c4] at H
   have c4b0 : decide (4096 < (a0.size : Int)) = false := decide_eq_false c4
   have c4b1 : decide (4096 < a0.size) = false := decide_eq_false (by omega)
   clear c4
   (first | rw [c4b0] | (simp only [i64_w, i32_w]; rw [c4b0]) | skip)
   have H' := qH H
   clear H
   go_wp2
   go_meet
   case rel => exact ⟨_, (decide ((a1.size : Int) > 4096)), (by first | rfl | (simp; done) | (simp; exact qEmp _) | (simp [*]; done)), H', ⟨by first | omega | exact Nat.le_refl _⟩, ⟨by repeat (first | (with_reducible first | exact HB.out | apply qL | apply qJ | apply qK) | exact HB.out)⟩⟩
 case rest =>
  clear HC3
  try clear p2
  try clear c4
  try clear c4b0
  try clear c4b1
  obtain ⟨kq, x22_2, rfl, HA, HJ2, HB⟩ := hcut
  cases kq with
  | zero => exact absurd HA.out (by simp [codicillaw11_NameBack.j0])
  | succ kj2 =>
   have H := HA.out
   clear HA
   simp only [codicillaw11_NameBack.j0] at H
   by_cases c5 : x22_2 = true
   ·subst c5
    have H1 : ((codicillaw11_alive.f kj2).bind fun t142 => (some t142)) = some r := by rw [if_pos rfl] at H; exact H
    clear H
    have H := H1
    clear H1
    replace H := Option.bind_eq_some_iff.mp H
    obtain ⟨t142, A60, H⟩ := H
    (try dsimp only at H)
    have A6 := qH A60
    clear A60
    obtain rfl := Option.some.inj H
    simp only [Option.some.injEq, Prod.mk.injEq] at H
    obtain ⟨rfl⟩ := H
    go_wp2_with (first | ((with_reducible refine gate_callee (f := 9) rfl ?_); refine goesL_ (some 23) rfl rfl Tryd.func9 (by kernel_rfl) rfl #[] rfl (by (try simp only [List.map_toArray, List.map_cons, List.map_nil]); first | done | rfl | (simp only [List.length_drop, List.length_take]; rfl)) ?_; (with_reducible refine (codicillaw11_alive.calls kj2  t142 _ A6.out).mono ?_); rintro e w7 ⟨rfl, hb⟩; refine ⟨_, rfl, ?_⟩; have n0_ := qH (below_step (by repeat (first | (with_reducible first | exact HB.out | apply qL | apply qJ | apply qK) | exact HB.out)) hb); clear HB; have HB := n0_; clear n0_; (try clear hb); (try clear hb2); (try clear hk); (try clear hi)))
    go_ret
    exact ⟨by first | rfl | (simp [errW_none, errW_some] <;> rfl) | (simp [*, errW_none, errW_some] <;> rfl), by repeat (first | (with_reducible first | exact HB.out | apply qL | apply qJ | apply qK) | exact HB.out)⟩
   ·replace c5 := Bool.eq_false_iff.mpr c5
    subst c5
    have H1 : ((name_Split.f kj2 a0).bind fun bt143 => ((name_Join.f kj2 bt143.1 bt143.2).bind fun bt145 => ((name_Full.f a0).bind fun t147 => (if t147 = true then ((name_Primitive.f a0).bind fun t148 => (if (bt145.2 == t148) = true then (codicillaw11_NameBack.j1 kj2 a0 a1 true) else (if bt145.2 = true then (codicillaw11_NameBack.j1 kj2 a0 a1 (bt145.1.toList != a0.toList)) else (codicillaw11_NameBack.j1 kj2 a0 a1 false)))) else (codicillaw11_NameBack.j1 kj2 a0 a1 false))))) = some r := by rw [if_neg (show ¬ (false = true) by decide)] at H; exact H
    clear H
    have H := H1
    clear H1
    replace H := Option.bind_eq_some_iff.mp H
    obtain ⟨⟨t143, t144⟩, A80, H⟩ := H
    (try dsimp only at H)
    have A8 := qH A80
    clear A80
    replace H := Option.bind_eq_some_iff.mp H
    obtain ⟨⟨t145, t146⟩, A90, H⟩ := H
    (try dsimp only at H)
    have A9 := qH A90
    clear A90
    have HC10 := qH H
    clear H
    go_upto_region 5 with (first | ((with_reducible refine gate_callee (f := 10) rfl ?_); refine goesL_ (some 26) rfl rfl Tryd.func10 (by kernel_rfl) rfl #[.string a0] rfl (by (try simp only [List.map_toArray, List.map_cons, List.map_nil]); first | done | rfl | (simp only [List.length_drop, List.length_take]; rfl)) ?_; (with_reducible refine (name_Split.calls kj2 a0 t143 t144 _ A8.out).mono ?_); rintro e w' ⟨rfl, ⟨nd, rfl⟩⟩; refine ⟨_, rfl, ?_⟩) | ((with_reducible refine gate_callee (f := 12) rfl ?_); refine goesL_ (some 32) rfl rfl Tryd.func12 (by kernel_rfl) rfl #[.string t143, .string t144] rfl (by (try simp only [List.map_toArray, List.map_cons, List.map_nil]); first | done | rfl | (simp only [List.length_drop, List.length_take]; rfl)) ?_; (with_reducible refine (name_Join.calls kj2 t143 t144 t145 t146 _ A9.out).mono ?_); rintro e w11 ⟨rfl, hb⟩; refine ⟨_, rfl, ?_⟩; have n0_ := qH (below_step (by repeat (first | (with_reducible first | exact HB.out | apply qL | apply qJ | apply qK) | exact HB.out)) hb); clear HB; have HB := n0_; clear n0_; (try clear hb); (try clear hb2); (try clear hk); (try clear hi)))
    (try simp only [Act.put, List.setIfInBounds_toArray, List.set_cons_zero, List.set_cons_succ])
    go_cut [50] (fun v50 wc => ∃ (kq : Nat) (x50_9 : Bool), v50 = .bool x50_9 ∧ Aside0 (codicillaw11_NameBack.j1 kq a0 a1 x50_9 = some r) ∧ Aside0 (kq ≤ kj2) ∧ Aside0 (Below w.heap.size w wc))
    case first =>
     have H := HC10.out
     clear HC10
     replace H := Option.bind_eq_some_iff.mp H
     obtain ⟨t147, A120, H⟩ := H
     (try dsimp only at H)
     have A12 := qH A120
     clear A120
     by_cases c13 : t147 = true
     ·subst c13
      have H1 : ((name_Primitive.f a0).bind fun t148 => (if (t146 == t148) = true then (codicillaw11_NameBack.j1 kj2 a0 a1 true) else (if t146 = true then (codicillaw11_NameBack.j1 kj2 a0 a1 (t145.toList != a0.toList)) else (codicillaw11_NameBack.j1 kj2 a0 a1 false)))) = some r := by rw [if_pos rfl] at H; exact H
      clear H
      have H := H1
      clear H1
      replace H := Option.bind_eq_some_iff.mp H
      obtain ⟨t148, A140, H⟩ := H
      (try dsimp only at H)
      have A14 := qH A140
      clear A140
      by_cases c15 : (t146 == t148) = true
      ·rw [if_pos c15] at H
       have c15b0 : (t146 == t148) = true := c15
       (try (have c15b1 : decide (t146 = t148) = true := by simpa using c15))
       (try (have c15b2 : (t146 == t148) = true := by simpa using c15))
       clear c15
       (first | rw [c15b0] | (simp only [i64_w, i32_w]; rw [c15b0]) | skip)
       have H' := qH H
       clear H
       go_wp2_with (first | ((with_reducible refine gate_callee (f := 16) rfl ?_); refine goesL_ (some 36) rfl rfl Tryd.func16 (by kernel_rfl) rfl #[.string a0] rfl (by (try simp only [List.map_toArray, List.map_cons, List.map_nil]); first | done | rfl | (simp only [List.length_drop, List.length_take]; rfl)) ?_; (with_reducible refine (name_Full.calls a0 true _ A12.out).mono ?_); rintro e w16 ⟨rfl, hb⟩; refine ⟨_, rfl, ?_⟩; have n0_ := qH (below_step (by repeat (first | (with_reducible first | exact HB.out | apply qL | apply qJ | apply qK) | exact HB.out)) hb); clear HB; have HB := n0_; clear n0_; (try clear hb); (try clear hb2); (try clear hk); (try clear hi)) | (go_at_call 18; (with_reducible refine (name_Primitive.calls a0 t148 _ A14.out).mono ?_); rintro e w17 ⟨rfl, hb⟩; have n0_ := qH (below_step (by repeat (first | (with_reducible first | exact HB.out | apply qL | apply qJ | apply qK) | exact HB.out)) hb); clear HB; have HB := n0_; clear n0_; (try clear hb); (try clear hb2); (try clear hk); (try clear hi)))
       go_meet
       case rel => exact ⟨_, (true), (by first | rfl | (simp; done) | (simp; exact qEmp _) | (simp [*]; done)), H', ⟨by have := HJ2.out; first | omega | exact Nat.le_refl _⟩, ⟨by repeat (first | (with_reducible first | exact HB.out | apply qL | apply qJ | apply qK) | exact HB.out)⟩⟩
      ·rw [if_neg c15] at H
       have c15b0 : (t146 == t148) = false := by simpa using c15
       (try (have c15b1 : decide (t146 = t148) = false := by simpa using c15))
       (try (have c15b2 : (t146 == t148) = false := by simpa using c15))
       (try (have c15b3 : ¬ (t146 = t148) := by simpa using c15))
       clear c15
       (first | rw [c15b0] | (simp only [i64_w, i32_w]; rw [c15b0]) | skip)
       by_cases c18 : t146 = true
       ·subst c18
        have H1 : (codicillaw11_NameBack.j1 kj2 a0 a1 (t145.toList != a0.toList)) = some r := by rw [if_pos rfl] at H; exact H
        clear H
        have H := H1
        clear H1
        have H' := qH H
        clear H
        go_wp2_with (first | ((with_reducible refine gate_callee (f := 16) rfl ?_); refine goesL_ (some 36) rfl rfl Tryd.func16 (by kernel_rfl) rfl #[.string a0] rfl (by (try simp only [List.map_toArray, List.map_cons, List.map_nil]); first | done | rfl | (simp only [List.length_drop, List.length_take]; rfl)) ?_; (with_reducible refine (name_Full.calls a0 true _ A12.out).mono ?_); rintro e w19 ⟨rfl, hb⟩; refine ⟨_, rfl, ?_⟩; have n0_ := qH (below_step (by repeat (first | (with_reducible first | exact HB.out | apply qL | apply qJ | apply qK) | exact HB.out)) hb); clear HB; have HB := n0_; clear n0_; (try clear hb); (try clear hb2); (try clear hk); (try clear hi)) | (go_at_call 18; (with_reducible refine (name_Primitive.calls a0 t148 _ A14.out).mono ?_); rintro e w20 ⟨rfl, hb⟩; have n0_ := qH (below_step (by repeat (first | (with_reducible first | exact HB.out | apply qL | apply qJ | apply qK) | exact HB.out)) hb); clear HB; have HB := n0_; clear n0_; (try clear hb); (try clear hb2); (try clear hk); (try clear hi)))
        go_meet
        case rel => exact ⟨_, ((t145.toList != a0.toList)), (by first | rfl | (simp; done) | (simp; exact qEmp _) | (simp [*]; done)), H', ⟨by have := HJ2.out; first | omega | exact Nat.le_refl _⟩, ⟨by repeat (first | (with_reducible first | exact HB.out | apply qL | apply qJ | apply qK) | exact HB.out)⟩⟩
       ·replace c18 := Bool.eq_false_iff.mpr c18
        subst c18
        have H1 : (codicillaw11_NameBack.j1 kj2 a0 a1 false) = some r := by rw [if_neg (show ¬ (false = true) by decide)] at H; exact H
        clear H
        have H := H1
        clear H1
        have H' := qH H
        clear H
        go_wp2_with (first | ((with_reducible refine gate_callee (f := 16) rfl ?_); refine goesL_ (some 36) rfl rfl Tryd.func16 (by kernel_rfl) rfl #[.string a0] rfl (by (try simp only [List.map_toArray, List.map_cons, List.map_nil]); first | done | rfl | (simp only [List.length_drop, List.length_take]; rfl)) ?_; (with_reducible refine (name_Full.calls a0 true _ A12.out).mono ?_); rintro e w21 ⟨rfl, hb⟩; refine ⟨_, rfl, ?_⟩; have n0_ := qH (below_step (by repeat (first | (with_reducible first | exact HB.out | apply qL | apply qJ | apply qK) | exact HB.out)) hb); clear HB; have HB := n0_; clear n0_; (try clear hb); (try clear hb2); (try clear hk); (try clear hi)) | (go_at_call 18; (with_reducible refine (name_Primitive.calls a0 t148 _ A14.out).mono ?_); rintro e w22 ⟨rfl, hb⟩; have n0_ := qH (below_step (by repeat (first | (with_reducible first | exact HB.out | apply qL | apply qJ | apply qK) | exact HB.out)) hb); clear HB; have HB := n0_; clear n0_; (try clear hb); (try clear hb2); (try clear hk); (try clear hi)))
        go_meet
        case rel => exact ⟨_, (false), (by first | rfl | (simp; done) | (simp; exact qEmp _) | (simp [*]; done)), H', ⟨by have := HJ2.out; first | omega | exact Nat.le_refl _⟩, ⟨by repeat (first | (with_reducible first | exact HB.out | apply qL | apply qJ | apply qK) | exact HB.out)⟩⟩
     ·replace c13 := Bool.eq_false_iff.mpr c13
      subst c13
      have H1 : (codicillaw11_NameBack.j1 kj2 a0 a1 false) = some r := by rw [if_neg (show ¬ (false = true) by decide)] at H; exact H
      clear H
      have H := H1
      clear H1
      have H' := qH H
      clear H
      go_wp2_with (first | ((with_reducible refine gate_callee (f := 16) rfl ?_); refine goesL_ (some 36) rfl rfl Tryd.func16 (by kernel_rfl) rfl #[.string a0] rfl (by (try simp only [List.map_toArray, List.map_cons, List.map_nil]); first | done | rfl | (simp only [List.length_drop, List.length_take]; rfl)) ?_; (with_reducible refine (name_Full.calls a0 false _ A12.out).mono ?_); rintro e w23 ⟨rfl, hb⟩; refine ⟨_, rfl, ?_⟩; have n0_ := qH (below_step (by repeat (first | (with_reducible first | exact HB.out | apply qL | apply qJ | apply qK) | exact HB.out)) hb); clear HB; have HB := n0_; clear n0_; (try clear hb); (try clear hb2); (try clear hk); (try clear hi)))
      go_meet
      case rel => exact ⟨_, (false), (by first | rfl | (simp; done) | (simp; exact qEmp _) | (simp [*]; done)), H', ⟨by have := HJ2.out; first | omega | exact Nat.le_refl _⟩, ⟨by repeat (first | (with_reducible first | exact HB.out | apply qL | apply qJ | apply qK) | exact HB.out)⟩⟩
    case rest =>
     clear HC10
     try clear c1
     try clear p2
     try clear c4
     try clear c4b0
     try clear c4b1
     try clear c5
     try clear c9
     try clear c10
     try clear c12
     try clear c13
     try clear c15
     try clear c15b0
     try clear c15b1
     try clear c15b2
     try clear c16
     try clear c18
     try clear p2
     obtain ⟨kq, x50_9, rfl, HA, HJ9, HB⟩ := hcut
     cases kq with
     | zero => exact absurd HA.out (by simp [codicillaw11_NameBack.j1])
     | succ kj9 =>
      have H := HA.out
      clear HA
      simp only [codicillaw11_NameBack.j1] at H
      by_cases c24 : x50_9 = true
      ·subst c24
       have H1 : (some false) = some r := by rw [if_pos rfl] at H; exact H
       clear H
       have H := H1
       clear H1
       obtain rfl := Option.some.inj H
       simp only [Option.some.injEq, Prod.mk.injEq] at H
       obtain ⟨rfl⟩ := H
       go_wp2
       go_ret
       exact ⟨by first | rfl | (simp [errW_none, errW_some] <;> rfl) | (simp [*, errW_none, errW_some] <;> rfl), by repeat (first | (with_reducible first | exact HB.out | apply qL | apply qJ | apply qK) | exact HB.out)⟩
      ·replace c24 := Bool.eq_false_iff.mpr c24
       subst c24
       have H1 : ((name_Join.f kj9 a0 a1).bind fun bt149 => (if bt149.2 = true then ((name_Split.f kj9 bt149.1).bind fun bt151 => ((name_Split.f kj9 a1).bind fun bt153 => ((name_Full.f bt149.1).bind fun t155 => (if t155 = true then ((name_Simple.f bt151.2).bind fun t156 => (if t156 = true then (if bt151.2.toList = bt153.2.toList then ((codicillaw11_alive.f kj9).bind fun t157 => (some t157)) else (some false)) else (some false))) else (some false))))) else ((codicillaw11_alive.f kj9).bind fun t158 => (some t158)))) = some r := by rw [if_neg (show ¬ (false = true) by decide)] at H; exact H
       clear H
       have H := H1
       clear H1
       replace H := Option.bind_eq_some_iff.mp H
       obtain ⟨⟨t149, t150⟩, A250, H⟩ := H
       (try dsimp only at H)
       have A25 := qH A250
       clear A250
       by_cases c26 : t150 = true
       ·subst c26
        have H1 : ((name_Split.f kj9 t149).bind fun bt151 => ((name_Split.f kj9 a1).bind fun bt153 => ((name_Full.f t149).bind fun t155 => (if t155 = true then ((name_Simple.f bt151.2).bind fun t156 => (if t156 = true then (if bt151.2.toList = bt153.2.toList then ((codicillaw11_alive.f kj9).bind fun t157 => (some t157)) else (some false)) else (some false))) else (some false))))) = some r := by rw [if_pos rfl] at H; exact H
        clear H
        have H := H1
        clear H1
        replace H := Option.bind_eq_some_iff.mp H
        obtain ⟨⟨t151, t152⟩, A270, H⟩ := H
        (try dsimp only at H)
        have A27 := qH A270
        clear A270
        replace H := Option.bind_eq_some_iff.mp H
        obtain ⟨⟨t153, t154⟩, A280, H⟩ := H
        (try dsimp only at H)
        have A28 := qH A280
        clear A280
        replace H := Option.bind_eq_some_iff.mp H
        obtain ⟨t155, A290, H⟩ := H
        (try dsimp only at H)
        have A29 := qH A290
        clear A290
        by_cases c30 : t155 = true
        ·subst c30
         have H1 : ((name_Simple.f t152).bind fun t156 => (if t156 = true then (if t152.toList = t154.toList then ((codicillaw11_alive.f kj9).bind fun t157 => (some t157)) else (some false)) else (some false))) = some r := by rw [if_pos rfl] at H; exact H
         clear H
         have H := H1
         clear H1
         replace H := Option.bind_eq_some_iff.mp H
         obtain ⟨t156, A310, H⟩ := H
         (try dsimp only at H)
         have A31 := qH A310
         clear A310
         by_cases c32 : t156 = true
         ·subst c32
          have H1 : (if t152.toList = t154.toList then ((codicillaw11_alive.f kj9).bind fun t157 => (some t157)) else (some false)) = some r := by rw [if_pos rfl] at H; exact H
          clear H
          have H := H1
          clear H1
          by_cases c33 : t152.toList = t154.toList
          ·rw [if_pos c33] at H
           have c33b0 : (t152.toList == t154.toList) = true := beq_iff_eq.mpr c33
           have c33b1 : (t152.toList != t154.toList) = false := bne_eq_false_iff_eq.mpr c33
           clear c33
           replace H := Option.bind_eq_some_iff.mp H
           obtain ⟨t157, A340, H⟩ := H
           (try dsimp only at H)
           have A34 := qH A340
           clear A340
           obtain rfl := Option.some.inj H
           simp only [Option.some.injEq, Prod.mk.injEq] at H
           obtain ⟨rfl⟩ := H
           go_wp2_with (first | ((with_reducible refine gate_callee (f := 12) rfl ?_); refine goesL_ (some 54) rfl rfl Tryd.func12 (by kernel_rfl) rfl #[.string a0, .string a1] rfl (by (try simp only [List.map_toArray, List.map_cons, List.map_nil]); first | done | rfl | (simp only [List.length_drop, List.length_take]; rfl)) ?_; (with_reducible refine (name_Join.calls kj9 a0 a1 t149 true _ A25.out).mono ?_); rintro e w35 ⟨rfl, hb⟩; refine ⟨_, rfl, ?_⟩; have n0_ := qH (below_step (by repeat (first | (with_reducible first | exact HB.out | apply qL | apply qJ | apply qK) | exact HB.out)) hb); clear HB; have HB := n0_; clear n0_; (try clear hb); (try clear hb2); (try clear hk); (try clear hi)) | ((with_reducible refine gate_callee (f := 10) rfl ?_); refine goesL_ (some 60) rfl rfl Tryd.func10 (by kernel_rfl) rfl #[.string t149] rfl (by (try simp only [List.map_toArray, List.map_cons, List.map_nil]); first | done | rfl | (simp only [List.length_drop, List.length_take]; rfl)) ?_; (with_reducible refine (name_Split.calls kj9 t149 t151 t152 _ A27.out).mono ?_); rintro e w' ⟨rfl, ⟨nd, rfl⟩⟩; refine ⟨_, rfl, ?_⟩) | ((with_reducible refine gate_callee (f := 10) rfl ?_); refine goesL_ (some 65) rfl rfl Tryd.func10 (by kernel_rfl) rfl #[.string a1] rfl (by (try simp only [List.map_toArray, List.map_cons, List.map_nil]); first | done | rfl | (simp only [List.length_drop, List.length_take]; rfl)) ?_; (with_reducible refine (name_Split.calls kj9 a1 t153 t154 _ A28.out).mono ?_); rintro e w' ⟨rfl, ⟨nd, rfl⟩⟩; refine ⟨_, rfl, ?_⟩) | ((with_reducible refine gate_callee (f := 16) rfl ?_); refine goesL_ (some 69) rfl rfl Tryd.func16 (by kernel_rfl) rfl #[.string t149] rfl (by (try simp only [List.map_toArray, List.map_cons, List.map_nil]); first | done | rfl | (simp only [List.length_drop, List.length_take]; rfl)) ?_; (with_reducible refine (name_Full.calls t149 true _ A29.out).mono ?_); rintro e w36 ⟨rfl, hb⟩; refine ⟨_, rfl, ?_⟩; have n0_ := qH (below_step (by repeat (first | (with_reducible first | exact HB.out | apply qL | apply qJ | apply qK) | exact HB.out)) hb); clear HB; have HB := n0_; clear n0_; (try clear hb); (try clear hb2); (try clear hk); (try clear hi)) | (go_at_call 14; (with_reducible refine (name_Simple.calls t152 true _ A31.out).mono ?_); rintro e w37 ⟨rfl, hb⟩; have n0_ := qH (below_step (by repeat (first | (with_reducible first | exact HB.out | apply qL | apply qJ | apply qK) | exact HB.out)) hb); clear HB; have HB := n0_; clear n0_; (try clear hb); (try clear hb2); (try clear hk); (try clear hi)) | ((with_reducible refine gate_callee (f := 9) rfl ?_); refine goesL_ (some 81) rfl rfl Tryd.func9 (by kernel_rfl) rfl #[] rfl (by (try simp only [List.map_toArray, List.map_cons, List.map_nil]); first | done | rfl | (simp only [List.length_drop, List.length_take]; rfl)) ?_; (with_reducible refine (codicillaw11_alive.calls kj9  t157 _ A34.out).mono ?_); rintro e w38 ⟨rfl, hb⟩; refine ⟨_, rfl, ?_⟩; have n0_ := qH (below_step (by repeat (first | (with_reducible first | exact HB.out | apply qL | apply qJ | apply qK) | exact HB.out)) hb); clear HB; have HB := n0_; clear n0_; (try clear hb); (try clear hb2); (try clear hk); (try clear hi)))
           go_ret
           exact ⟨by first | rfl | (simp [errW_none, errW_some] <;> rfl) | (simp [*, errW_none, errW_some] <;> rfl), by repeat (first | (with_reducible first | exact HB.out | apply qL | apply qJ | apply qK) | exact HB.out)⟩
          ·rw [if_neg c33] at H
           have c33b0 : (t152.toList == t154.toList) = false := beq_eq_false_iff_ne.mpr c33
           have c33b1 : (t152.toList != t154.toList) = true := bne_iff_ne.mpr c33
           obtain rfl := Option.some.inj H
           simp only [Option.some.injEq, Prod.mk.injEq] at H
           obtain ⟨rfl⟩ := H
           go_wp2_with (first | ((with_reducible refine gate_callee (f := 12) rfl ?_); refine goesL_ (some 54) rfl rfl Tryd.func12 (by kernel_rfl) rfl #[.string a0, .string a1] rfl (by (try simp only [List.map_toArray, List.map_cons, List.map_nil]); first | done | rfl | (simp only [List.length_drop, List.length_take]; rfl)) ?_; (with_reducible refine (name_Join.calls kj9 a0 a1 t149 true _ A25.out).mono ?_); rintro e w39 ⟨rfl, hb⟩; refine ⟨_, rfl, ?_⟩; have n0_ := qH (below_step (by repeat (first | (with_reducible first | exact HB.out | apply qL | apply qJ | apply qK) | exact HB.out)) hb); clear HB; have HB := n0_; clear n0_; (try clear hb); (try clear hb2); (try clear hk); (try clear hi)) | ((with_reducible refine gate_callee (f := 10) rfl ?_); refine goesL_ (some 60) rfl rfl Tryd.func10 (by kernel_rfl) rfl #[.string t149] rfl (by (try simp only [List.map_toArray, List.map_cons, List.map_nil]); first | done | rfl | (simp only [List.length_drop, List.length_take]; rfl)) ?_; (with_reducible refine (name_Split.calls kj9 t149 t151 t152 _ A27.out).mono ?_); rintro e w' ⟨rfl, ⟨nd, rfl⟩⟩; refine ⟨_, rfl, ?_⟩) | ((with_reducible refine gate_callee (f := 10) rfl ?_); refine goesL_ (some 65) rfl rfl Tryd.func10 (by kernel_rfl) rfl #[.string a1] rfl (by (try simp only [List.map_toArray, List.map_cons, List.map_nil]); first | done | rfl | (simp only [List.length_drop, List.length_take]; rfl)) ?_; (with_reducible refine (name_Split.calls kj9 a1 t153 t154 _ A28.out).mono ?_); rintro e w' ⟨rfl, ⟨nd, rfl⟩⟩; refine ⟨_, rfl, ?_⟩) | ((with_reducible refine gate_callee (f := 16) rfl ?_); refine goesL_ (some 69) rfl rfl Tryd.func16 (by kernel_rfl) rfl #[.string t149] rfl (by (try simp only [List.map_toArray, List.map_cons, List.map_nil]); first | done | rfl | (simp only [List.length_drop, List.length_take]; rfl)) ?_; (with_reducible refine (name_Full.calls t149 true _ A29.out).mono ?_); rintro e w40 ⟨rfl, hb⟩; refine ⟨_, rfl, ?_⟩; have n0_ := qH (below_step (by repeat (first | (with_reducible first | exact HB.out | apply qL | apply qJ | apply qK) | exact HB.out)) hb); clear HB; have HB := n0_; clear n0_; (try clear hb); (try clear hb2); (try clear hk); (try clear hi)) | (go_at_call 14; (with_reducible refine (name_Simple.calls t152 true _ A31.out).mono ?_); rintro e w41 ⟨rfl, hb⟩; have n0_ := qH (below_step (by repeat (first | (with_reducible first | exact HB.out | apply qL | apply qJ | apply qK) | exact HB.out)) hb); clear HB; have HB := n0_; clear n0_; (try clear hb); (try clear hb2); (try clear hk); (try clear hi)))
           go_ret
           exact ⟨by first | rfl | (simp [errW_none, errW_some] <;> rfl) | (simp [*, errW_none, errW_some] <;> rfl), by repeat (first | (with_reducible first | exact HB.out | apply qL | apply qJ | apply qK) | exact HB.out)⟩
         ·replace c32 := Bool.eq_false_iff.mpr c32
          subst c32
          have H1 : (some false) = some r := by rw [if_neg (show ¬ (false = true) by decide)] at H; exact H
          clear H
          have H := H1
          clear H1
          obtain rfl := Option.some.inj H
          simp only [Option.some.injEq, Prod.mk.injEq] at H
          obtain ⟨rfl⟩ := H
          go_wp2_with (first | ((with_reducible refine gate_callee (f := 12) rfl ?_); refine goesL_ (some 54) rfl rfl Tryd.func12 (by kernel_rfl) rfl #[.string a0, .string a1] rfl (by (try simp only [List.map_toArray, List.map_cons, List.map_nil]); first | done | rfl | (simp only [List.length_drop, List.length_take]; rfl)) ?_; (with_reducible refine (name_Join.calls kj9 a0 a1 t149 true _ A25.out).mono ?_); rintro e w42 ⟨rfl, hb⟩; refine ⟨_, rfl, ?_⟩; have n0_ := qH (below_step (by repeat (first | (with_reducible first | exact HB.out | apply qL | apply qJ | apply qK) | exact HB.out)) hb); clear HB; have HB := n0_; clear n0_; (try clear hb); (try clear hb2); (try clear hk); (try clear hi)) | ((with_reducible refine gate_callee (f := 10) rfl ?_); refine goesL_ (some 60) rfl rfl Tryd.func10 (by kernel_rfl) rfl #[.string t149] rfl (by (try simp only [List.map_toArray, List.map_cons, List.map_nil]); first | done | rfl | (simp only [List.length_drop, List.length_take]; rfl)) ?_; (with_reducible refine (name_Split.calls kj9 t149 t151 t152 _ A27.out).mono ?_); rintro e w' ⟨rfl, ⟨nd, rfl⟩⟩; refine ⟨_, rfl, ?_⟩) | ((with_reducible refine gate_callee (f := 10) rfl ?_); refine goesL_ (some 65) rfl rfl Tryd.func10 (by kernel_rfl) rfl #[.string a1] rfl (by (try simp only [List.map_toArray, List.map_cons, List.map_nil]); first | done | rfl | (simp only [List.length_drop, List.length_take]; rfl)) ?_; (with_reducible refine (name_Split.calls kj9 a1 t153 t154 _ A28.out).mono ?_); rintro e w' ⟨rfl, ⟨nd, rfl⟩⟩; refine ⟨_, rfl, ?_⟩) | ((with_reducible refine gate_callee (f := 16) rfl ?_); refine goesL_ (some 69) rfl rfl Tryd.func16 (by kernel_rfl) rfl #[.string t149] rfl (by (try simp only [List.map_toArray, List.map_cons, List.map_nil]); first | done | rfl | (simp only [List.length_drop, List.length_take]; rfl)) ?_; (with_reducible refine (name_Full.calls t149 true _ A29.out).mono ?_); rintro e w43 ⟨rfl, hb⟩; refine ⟨_, rfl, ?_⟩; have n0_ := qH (below_step (by repeat (first | (with_reducible first | exact HB.out | apply qL | apply qJ | apply qK) | exact HB.out)) hb); clear HB; have HB := n0_; clear n0_; (try clear hb); (try clear hb2); (try clear hk); (try clear hi)) | (go_at_call 14; (with_reducible refine (name_Simple.calls t152 false _ A31.out).mono ?_); rintro e w44 ⟨rfl, hb⟩; have n0_ := qH (below_step (by repeat (first | (with_reducible first | exact HB.out | apply qL | apply qJ | apply qK) | exact HB.out)) hb); clear HB; have HB := n0_; clear n0_; (try clear hb); (try clear hb2); (try clear hk); (try clear hi)))
          go_ret
          exact ⟨by first | rfl | (simp [errW_none, errW_some] <;> rfl) | (simp [*, errW_none, errW_some] <;> rfl), by repeat (first | (with_reducible first | exact HB.out | apply qL | apply qJ | apply qK) | exact HB.out)⟩
        ·replace c30 := Bool.eq_false_iff.mpr c30
         subst c30
         have H1 : (some false) = some r := by rw [if_neg (show ¬ (false = true) by decide)] at H; exact H
         clear H
         have H := H1
         clear H1
         obtain rfl := Option.some.inj H
         simp only [Option.some.injEq, Prod.mk.injEq] at H
         obtain ⟨rfl⟩ := H
         go_wp2_with (first | ((with_reducible refine gate_callee (f := 12) rfl ?_); refine goesL_ (some 54) rfl rfl Tryd.func12 (by kernel_rfl) rfl #[.string a0, .string a1] rfl (by (try simp only [List.map_toArray, List.map_cons, List.map_nil]); first | done | rfl | (simp only [List.length_drop, List.length_take]; rfl)) ?_; (with_reducible refine (name_Join.calls kj9 a0 a1 t149 true _ A25.out).mono ?_); rintro e w45 ⟨rfl, hb⟩; refine ⟨_, rfl, ?_⟩; have n0_ := qH (below_step (by repeat (first | (with_reducible first | exact HB.out | apply qL | apply qJ | apply qK) | exact HB.out)) hb); clear HB; have HB := n0_; clear n0_; (try clear hb); (try clear hb2); (try clear hk); (try clear hi)) | ((with_reducible refine gate_callee (f := 10) rfl ?_); refine goesL_ (some 60) rfl rfl Tryd.func10 (by kernel_rfl) rfl #[.string t149] rfl (by (try simp only [List.map_toArray, List.map_cons, List.map_nil]); first | done | rfl | (simp only [List.length_drop, List.length_take]; rfl)) ?_; (with_reducible refine (name_Split.calls kj9 t149 t151 t152 _ A27.out).mono ?_); rintro e w' ⟨rfl, ⟨nd, rfl⟩⟩; refine ⟨_, rfl, ?_⟩) | ((with_reducible refine gate_callee (f := 10) rfl ?_); refine goesL_ (some 65) rfl rfl Tryd.func10 (by kernel_rfl) rfl #[.string a1] rfl (by (try simp only [List.map_toArray, List.map_cons, List.map_nil]); first | done | rfl | (simp only [List.length_drop, List.length_take]; rfl)) ?_; (with_reducible refine (name_Split.calls kj9 a1 t153 t154 _ A28.out).mono ?_); rintro e w' ⟨rfl, ⟨nd, rfl⟩⟩; refine ⟨_, rfl, ?_⟩) | ((with_reducible refine gate_callee (f := 16) rfl ?_); refine goesL_ (some 69) rfl rfl Tryd.func16 (by kernel_rfl) rfl #[.string t149] rfl (by (try simp only [List.map_toArray, List.map_cons, List.map_nil]); first | done | rfl | (simp only [List.length_drop, List.length_take]; rfl)) ?_; (with_reducible refine (name_Full.calls t149 false _ A29.out).mono ?_); rintro e w46 ⟨rfl, hb⟩; refine ⟨_, rfl, ?_⟩; have n0_ := qH (below_step (by repeat (first | (with_reducible first | exact HB.out | apply qL | apply qJ | apply qK) | exact HB.out)) hb); clear HB; have HB := n0_; clear n0_; (try clear hb); (try clear hb2); (try clear hk); (try clear hi)))
         go_ret
         exact ⟨by first | rfl | (simp [errW_none, errW_some] <;> rfl) | (simp [*, errW_none, errW_some] <;> rfl), by repeat (first | (with_reducible first | exact HB.out | apply qL | apply qJ | apply qK) | exact HB.out)⟩
       ·replace c26 := Bool.eq_false_iff.mpr c26
        subst c26
        have H1 : ((codicillaw11_alive.f kj9).bind fun t158 => (some t158)) = some r := by rw [if_neg (show ¬ (false = true) by decide)] at H; exact H
        clear H
        have H := H1
        clear H1
        replace H := Option.bind_eq_some_iff.mp H
        obtain ⟨t158, A470, H⟩ := H
        (try dsimp only at H)
        have A47 := qH A470
        clear A470
        obtain rfl := Option.some.inj H
        simp only [Option.some.injEq, Prod.mk.injEq] at H
        obtain ⟨rfl⟩ := H
        go_wp2_with (first | ((with_reducible refine gate_callee (f := 12) rfl ?_); refine goesL_ (some 54) rfl rfl Tryd.func12 (by kernel_rfl) rfl #[.string a0, .string a1] rfl (by (try simp only [List.map_toArray, List.map_cons, List.map_nil]); first | done | rfl | (simp only [List.length_drop, List.length_take]; rfl)) ?_; (with_reducible refine (name_Join.calls kj9 a0 a1 t149 false _ A25.out).mono ?_); rintro e w48 ⟨rfl, hb⟩; refine ⟨_, rfl, ?_⟩; have n0_ := qH (below_step (by repeat (first | (with_reducible first | exact HB.out | apply qL | apply qJ | apply qK) | exact HB.out)) hb); clear HB; have HB := n0_; clear n0_; (try clear hb); (try clear hb2); (try clear hk); (try clear hi)) | ((with_reducible refine gate_callee (f := 9) rfl ?_); refine goesL_ (some 81) rfl rfl Tryd.func9 (by kernel_rfl) rfl #[] rfl (by (try simp only [List.map_toArray, List.map_cons, List.map_nil]); first | done | rfl | (simp only [List.length_drop, List.length_take]; rfl)) ?_; (with_reducible refine (codicillaw11_alive.calls kj9  t158 _ A47.out).mono ?_); rintro e w49 ⟨rfl, hb⟩; refine ⟨_, rfl, ?_⟩; have n0_ := qH (below_step (by repeat (first | (with_reducible first | exact HB.out | apply qL | apply qJ | apply qK) | exact HB.out)) hb); clear HB; have HB := n0_; clear n0_; (try clear hb); (try clear hb2); (try clear hk); (try clear hi)))
        go_ret
        exact ⟨by first | rfl | (simp [errW_none, errW_some] <;> rfl) | (simp [*, errW_none, errW_some] <;> rfl), by repeat (first | (with_reducible first | exact HB.out | apply qL | apply qJ | apply qK) | exact HB.out)⟩

/-- THE ONE PURE STATEMENT of codicillaw11_NameBack: yours. -/
def codicillaw11_NameBack.Pure : Prop := ∀ (a0 : ByteArray) (a1 : ByteArray), a0.size ≤ 140737488351232 → a1.size ≤ 140737488351232 → ∃ k, codicillaw11_NameBack.f k a0 a1 = some true
theorem codicillaw11_NameBack.walk (P : codicillaw11_NameBack.Pure) (a0 : ByteArray) (a1 : ByteArray) (w : World) (w0 : a0.size ≤ 140737488351232) (w1 : a1.size ≤ 140737488351232) :
  Calls Tryd.prog 4 #[.string a0, .string a1] w fun e w' => e = .returned (.bool true) ∧ Below w.heap.size w w' := by
 obtain ⟨k, h⟩ := P a0 a1 w0 w1
 refine (codicillaw11_NameBack.calls k a0 a1 true w h).mono ?_
 rintro e w' ⟨rfl, hd⟩
 exact ⟨rfl, hd⟩

end Go.Proofs.YtkcjekboakoejaaDoor.Print
