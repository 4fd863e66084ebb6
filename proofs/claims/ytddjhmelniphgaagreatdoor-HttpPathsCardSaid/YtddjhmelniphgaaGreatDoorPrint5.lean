-- Written by wip/tools/xprint.py of this session's repo (the kit's print, run with external functions). Lean checks it.
import Derived.Test.YtddjhmelniphgaaGreatDoorHAm
import Derived.Test.YtddjhmelniphgaaGreatDoorPrint0
import Derived.Test.YtddjhmelniphgaaGreatDoorPrint1
import Derived.Test.YtddjhmelniphgaaGreatDoorPrint2
import Derived.Test.YtddjhmelniphgaaGreatDoorPrint3
import Derived.Test.YtddjhmelniphgaaGreatDoorPrint4
import Derived.Test.YtddjhmelniphgaaGreatDoorHAlive29
import Derived.Test.YtddjhmelniphgaaGreatDoorHTPath
namespace Go.Proofs.YtddjhmelniphgaaGreatDoor.Print
open Go.RowKit Go.Proofs.YtddjhmelniphgaaGreatDoorW.PrintWords Go.Proofs.YtddjhmelniphgaaGreatDoorW.PrintLast Go.Proofs.YtddjhmelniphgaaGreatDoorW.PrintMore
attribute [local go_sem] max2_int min2_int max_two min_two max_three min_three max_four min_four   -- for this text's walks alone
set_option linter.unusedVariables false
set_option linter.unusedSimpArgs false

attribute [local go_sem high] eqA59
/-! ### codicilref29_Path: function 17 -/
mutual
def codicilref29_Path.l0 : Nat → ByteArray → List ByteArray → List ByteArray → Int → Option (List ByteArray × (List (S59)) × Int)
 | 0, _, _, _, _ => none
 | k + 1, x6, x8, x10, x11 => if x11 < (x10.length : Int) then (if 0 ≤ x11 then ((codicilref29_decoded.f k (rdOf ByteArray.empty x10 x11)).bind fun bt175 => (if bt175.2 = true then (if x8.length < 8796093022208 then (codicilref29_Path.l0 k x6 (x8 ++ [bt175.1]) x10 (wrap64 (x11 + 1))) else (none)) else (some (([] : List ByteArray), ([] : List (S59)), 291)))) else (none)) else (if x6.toList = ([] : List UInt8) then (some (x8, ([] : List (S59)), 0)) else ((codicilref29_split.f k x6 38).bind fun t180 => (codicilref29_Path.l1 k x8 ([] : List (S59)) t180 0)))
def codicilref29_Path.l1 : Nat → List ByteArray → List (S59) → List ByteArray → Int → Option (List ByteArray × (List (S59)) × Int)
 | 0, _, _, _, _ => none
 | k + 1, x8, x9, x10, x14 => if x14 < (x10.length : Int) then (if 0 ≤ x14 then ((codicilref29_cut.f k (rdOf ByteArray.empty x10 x14) 61).bind fun bt184 => ((codicilref29_decoded.f k bt184.1).bind fun bt187 => ((codicilref29_decoded.f k bt184.2.1).bind fun bt189 => (if bt187.2 = true then (if bt189.2 = true then (if x9.length < 4398046511104 then (codicilref29_Path.l1 k x8 (x9 ++ [(⟨bt187.1, bt189.1⟩ : S59)]) x10 (wrap64 (x14 + 1))) else (none)) else (some (([] : List ByteArray), ([] : List (S59)), 291))) else (some (([] : List ByteArray), ([] : List (S59)), 291)))))) else (none)) else (some (x8, x9, 0))
end
def codicilref29_Path.f (k : Nat) (a0 : ByteArray) : Option (List ByteArray × (List (S59)) × Int) := (codicilref29_target.f k a0).bind fun t167 => (if t167 = true then ((codicilref29_cut.f k a0 63).bind fun bt168 => (if 1 ≤ (bt168.1.size : Int) then ((codicilref29_split.f k (bt168.1.extract 1 bt168.1.size) 47).bind fun t171 => (codicilref29_Path.l0 k bt168.2.1 ([] : List ByteArray) t171 0)) else (none))) else (some (([] : List ByteArray), ([] : List (S59)), 291)))
theorem codicilref29_Path.mono_l : ∀ k, (∀ y0 y1 y2 y3, LeO (codicilref29_Path.l0 k y0 y1 y2 y3) (codicilref29_Path.l0 (k + 1) y0 y1 y2 y3)) ∧ (∀ y0 y1 y2 y3, LeO (codicilref29_Path.l1 k y0 y1 y2 y3) (codicilref29_Path.l1 (k + 1) y0 y1 y2 y3))
 | 0 => ⟨fun _ _ _ _ r h => by simp [codicilref29_Path.l0] at h, fun _ _ _ _ r h => by simp [codicilref29_Path.l1] at h⟩
 | k + 1 => by
  obtain ⟨ih0, ih1⟩ := codicilref29_Path.mono_l k
  refine ⟨?_, ?_⟩
  ·intro y0 y1 y2 y3
   unfold codicilref29_Path.l0
   repeat' first
   | (with_reducible exact ih0 _ _ _ _)
   | (with_reducible exact ih1 _ _ _ _)
   | (with_reducible exact codicilref29_cut.mono _ _ _)
   | (with_reducible exact codicilref29_decoded.mono _ _)
   | (with_reducible exact codicilref29_split.mono _ _ _)
   | (with_reducible exact codicilref29_target.mono _ _)
   | (with_reducible exact LeO.refl _)
   | (with_reducible exact LeO.none _)
   | (with_reducible refine LeO.ite ?_ ?_)
   | (with_reducible refine LeO.bind ?_ (fun _ => ?_))
   | exact ih0 _ _ _ _
   | exact ih1 _ _ _ _
   | exact codicilref29_cut.mono _ _ _
   | exact codicilref29_decoded.mono _ _
   | exact codicilref29_split.mono _ _ _
   | exact codicilref29_target.mono _ _
   | exact LeO.none _
   | refine LeO.ite ?_ ?_
   | refine LeO.bind ?_ (fun _ => ?_)
  ·intro y0 y1 y2 y3
   unfold codicilref29_Path.l1
   repeat' first
   | (with_reducible exact ih0 _ _ _ _)
   | (with_reducible exact ih1 _ _ _ _)
   | (with_reducible exact codicilref29_cut.mono _ _ _)
   | (with_reducible exact codicilref29_decoded.mono _ _)
   | (with_reducible exact codicilref29_split.mono _ _ _)
   | (with_reducible exact codicilref29_target.mono _ _)
   | (with_reducible exact LeO.refl _)
   | (with_reducible exact LeO.none _)
   | (with_reducible refine LeO.ite ?_ ?_)
   | (with_reducible refine LeO.bind ?_ (fun _ => ?_))
   | exact ih0 _ _ _ _
   | exact ih1 _ _ _ _
   | exact codicilref29_cut.mono _ _ _
   | exact codicilref29_decoded.mono _ _
   | exact codicilref29_split.mono _ _ _
   | exact codicilref29_target.mono _ _
   | exact LeO.none _
   | refine LeO.ite ?_ ?_
   | refine LeO.bind ?_ (fun _ => ?_)
theorem codicilref29_Path.mono : ∀ a0 k, LeO (codicilref29_Path.f k a0) (codicilref29_Path.f (k + 1) a0) := by
 intro a0 k
 obtain ⟨ih0, ih1⟩ := codicilref29_Path.mono_l k
 unfold codicilref29_Path.f
 repeat' first
   | (with_reducible exact ih0 _ _ _ _)
   | (with_reducible exact ih1 _ _ _ _)
   | (with_reducible exact codicilref29_cut.mono _ _ _)
   | (with_reducible exact codicilref29_decoded.mono _ _)
   | (with_reducible exact codicilref29_split.mono _ _ _)
   | (with_reducible exact codicilref29_target.mono _ _)
   | (with_reducible exact LeO.refl _)
   | (with_reducible exact LeO.none _)
   | (with_reducible refine LeO.ite ?_ ?_)
   | (with_reducible refine LeO.bind ?_ (fun _ => ?_))
   | exact ih0 _ _ _ _
   | exact ih1 _ _ _ _
   | exact codicilref29_cut.mono _ _ _
   | exact codicilref29_decoded.mono _ _
   | exact codicilref29_split.mono _ _ _
   | exact codicilref29_target.mono _ _
   | exact LeO.none _
   | refine LeO.ite ?_ ?_
   | refine LeO.bind ?_ (fun _ => ?_)
set_option maxHeartbeats 8000000 in
set_option maxRecDepth 100000 in
theorem codicilref29_Path.calls (k : Nat) (a0 : ByteArray) (r1 : List ByteArray) (r2 : List (S59)) (r3 : Int) (w : World) (h : codicilref29_Path.f k a0 = some (r1, r2, r3)) :
  Calls Tryz.prog 17 #[.string a0] w fun e w' => ∃ v0_ v1_ : Value, e = .returned (.tuple #[v0_, v1_, .int .i64 r3]) ∧ Kd.R Kd.string 9 w' w.heap.size (fun _ => True) v0_ r1 ∧ Kd.R k59 59 w' w.heap.size (fun _ => True) v1_ r2 ∧ Below w.heap.size w w' := by
 have hu59 := Tryz.underlying59
 have HB := qH (Below.refl w.heap.size w)
 have H : ((codicilref29_target.f k a0).bind fun t167 => (if t167 = true then ((codicilref29_cut.f k a0 63).bind fun bt168 => (if 1 ≤ (bt168.1.size : Int) then ((codicilref29_split.f k (bt168.1.extract 1 bt168.1.size) 47).bind fun t171 => (codicilref29_Path.l0 k bt168.2.1 ([] : List ByteArray) t171 0)) else (none))) else (some (([] : List ByteArray), ([] : List (S59)), 291)))) = some (r1, r2, r3) := h
 clear h
 replace H := Option.bind_eq_some_iff.mp H
 obtain ⟨t167, A20, H⟩ := H
 (try dsimp only at H)
 have A2 := qH A20
 clear A20
 by_cases c3 : t167 = true
 ·subst c3
  have H1 : ((codicilref29_cut.f k a0 63).bind fun bt168 => (if 1 ≤ (bt168.1.size : Int) then ((codicilref29_split.f k (bt168.1.extract 1 bt168.1.size) 47).bind fun t171 => (codicilref29_Path.l0 k bt168.2.1 ([] : List ByteArray) t171 0)) else (none))) = some (r1, r2, r3) := by rw [if_pos rfl] at H; exact H
  clear H
  have H := H1
  clear H1
  replace H := Option.bind_eq_some_iff.mp H
  obtain ⟨⟨t168, t169, t170⟩, A40, H⟩ := H
  (try dsimp only at H)
  have A4 := qH A40
  clear A40
  by_cases c5 : 1 ≤ (t168.size : Int)
  ·rw [if_pos c5] at H
   have c5b0 := eq_true c5
   have c5b1 : decide (1 ≤ (t168.size : Int)) = true := decide_eq_true c5
   clear c5
   replace H := Option.bind_eq_some_iff.mp H
   obtain ⟨t171, A60, H⟩ := H
   (try dsimp only at H)
   have A6 := qH A60
   clear A60
   have H' := qH H
   clear H
   go_enter Tryz.func17, Tryz.ntmps17
   go_wp2_with (first | ((with_reducible refine gate_callee (f := 47) rfl ?_); refine goesL_ (some 23) rfl rfl Tryz.func47 (by kernel_rfl) rfl #[.string a0] rfl zz1 ?_; (with_reducible refine (codicilref29_target.calls k a0 true _ A2.out).mono ?_); rintro e w' ⟨rfl, ⟨nd, rfl⟩⟩; refine ⟨_, rfl, ?_⟩) | ((with_reducible refine gate_callee (f := 48) rfl ?_); refine goesL_ (some 27) rfl rfl Tryz.func48 (by kernel_rfl) rfl #[.string a0, .int .u8 63] rfl zz1 ?_; (with_reducible refine (codicilref29_cut.calls k a0 63 t168 t169 t170 _ A4.out).mono ?_); rintro e w' ⟨rfl, ⟨nd, rfl⟩⟩; refine ⟨_, rfl, ?_⟩) | ((with_reducible refine gate_callee (f := 49) rfl ?_); refine goesL_ (some 33) rfl rfl Tryz.func49 (by kernel_rfl) rfl #[.string (t168.extract 1 t168.size), .int .u8 47] rfl zz1 ?_; (with_reducible refine (codicilref29_split.calls k (t168.extract 1 t168.size) 47 t171 _ A6.out).mono ?_); rintro e w7 ⟨v172, rfl, ho0, hb⟩; refine ⟨_, rfl, ?_⟩; have n0_ := qH (Kd.R_lower ho0 (below_size zz0)); have n1_ := qH (below_step zz0 hb); clear HB; have HO173 := n0_; have HB := n1_; clear n0_ n1_; (try clear hb); (try clear hb2); (try clear hk); (try clear hi); (try clear ho0)))
   go_loopg [8, 11] k (fun kq v8 v11 w' => ∃ (x8_1 : List ByteArray) (x11_1 : Int), v11 = .int .i64 x11_1 ∧ Aside0 (codicilref29_Path.l0 kq t169 x8_1 t171 x11_1 = some (r1, r2, r3)) ∧ Aside0 (kq ≤ k) ∧ Aside0 (Kd.R Kd.string 9 w' w.heap.size (fun k_ => some k_ ≠ (v172 : Value).ownBlock) v8 x8_1) ∧ Aside0 (Kd.R Kd.string 9 w' w.heap.size (fun k_ => some k_ ≠ (v8 : Value).ownBlock) v172 t171) ∧ Aside0 (Below w.heap.size w w'))
   case atStart => exact ⟨(([] : List ByteArray)), (0), zz3, H', ⟨Nat.le_refl _⟩, ⟨by first | exact Kd.R_nil _ _ _ _ _ | exact Kd.N_nil _ _ _ _ _ | exact Kd.V_nil _ _ _ _ _ | exact Kd.Q_nil _ _ _ _ _ | exact Kd.S_nil _ _ _ _ _⟩, ⟨by (with_reducible repeat (first | apply Kd.R_alloc | apply Kd.R_drewN | apply Kd.R_drew)); exact Kd.R_mono HO173.out (fun _ hk => (by simp [Value.ownBlock]))⟩, ⟨by repeat (first | (with_reducible first | exact HB.out | apply qL | apply qJ | apply qK) | exact HB.out)⟩⟩
   case round =>
    clear H'
    try clear c1
    try clear p2
    try clear c3
    try clear c4
    try clear c5
    try clear c5b0
    try clear c5b1
    obtain ⟨x8_1, x11_1, rfl, HA, HK1, HO_8, HO_10, HB⟩ := hrel
    cases gk with
    | zero => exact absurd HA.out (by simp [codicilref29_Path.l0])
    | succ k1 =>
     have H := HA.out
     clear HA
     simp only [codicilref29_Path.l0] at H
     by_cases c8 : x11_1 < (t171.length : Int)
     ·rw [if_pos c8] at H
      have c8b0 : decide (x11_1 < (t171.length : Int)) = true := decide_eq_true c8
      clear c8
      by_cases c9 : 0 ≤ x11_1
      ·rw [if_pos c9] at H
       have c9b0 : decide (0 ≤ x11_1) = true := decide_eq_true c9
       clear c9
       replace H := Option.bind_eq_some_iff.mp H
       obtain ⟨⟨t175, t176⟩, A100, H⟩ := H
       (try dsimp only at H)
       have A10 := qH A100
       clear A100
       by_cases c11 : t176 = true
       ·subst c11
        have H1 : (if x8_1.length < 8796093022208 then (codicilref29_Path.l0 k1 t169 (x8_1 ++ [t175]) t171 (wrap64 (x11_1 + 1))) else (none)) = some (r1, r2, r3) := by rw [if_pos rfl] at H; exact H
        clear H
        have H := H1
        clear H1
        by_cases c12 : x8_1.length < 8796093022208
        ·rw [if_pos c12] at H
         have LMc12 := qH c12
         clear c12
         obtain ⟨y177, hy177⟩ : ∃ y_ : List ByteArray, y_ = (x8_1 ++ [t175]) := ⟨_, rfl⟩
         replace H : (codicilref29_Path.l0 k1 t169 y177 t171 (wrap64 (x11_1 + 1))) = some (r1, r2, r3) := by first | (rw [hy177]; with_reducible exact H) | (have H2_ := (Option.bind_some _ _).symm.trans H; rw [hy177]; with_reducible exact H2_) | (have H2_ := (Option.bind_some _ _).symm.trans H; with_reducible exact H2_) | with_reducible exact H | (rw [hy177]; exact H) | exact H
         have Ny177 := qH hy177
         clear hy177
         have H' := qH H
         clear H
         obtain ⟨Ao13, co13, eo13⟩ := Kd.R_slice HO_10.out
         subst eo13
         have p174 : 0 ≤ (x11_1 : Int) := of_decide_eq_true zz2
         have q174 : x11_1 < (t171.length : Int) := of_decide_eq_true zz2
         obtain ⟨ad174, e174, hx174_0⟩ := Kd.at_string (Kd.R_reads' HO_10.out).2.2 x11_1 p174 q174
         cases e174
         replace p174 := eq_true p174
         replace q174 := eq_true q174
         go_wp2_with (first | ((with_reducible refine gate_callee (f := 50) rfl ?_); refine goesL_ (some 45) rfl rfl Tryz.func50 (by kernel_rfl) rfl #[.string (rdOf ByteArray.empty t171 x11_1)] rfl zz1 ?_; (with_reducible refine (codicilref29_decoded.calls k1 (rdOf ByteArray.empty t171 x11_1) t175 true _ A10.out).mono ?_); rintro e w14 ⟨rfl, hb⟩; refine ⟨_, rfl, ?_⟩; have n0_ := qH (Kd.R_below zz7 hb); have n1_ := qH (Kd.R_below zz6 hb); have n2_ := qH (below_step zz0 hb); clear HO_8; clear HO_10; clear HB; have HO_8 := n0_; have HO_10 := n1_; have HB := n2_; clear n0_ n1_ n2_; (try clear hb); (try clear hb2); (try clear hk); (try clear hi)) | ((with_reducible refine gate_builtin (b := .append) (xs := #[.tmp 50, .tmp 52]) rfl ?_); at_builtin; refine Kd.R_append Kd.string (w0 := w) w.heap.size rfl (.tmp 50) (.tmp 52) 40 9 (.string ⟨#[]⟩) 16 rfl Tryz.underlying40 info9 rfl (by decide) (by omega) u8 x8_1 t175 [.string t175] (fun k_ => some k_ ≠ (.slice (some ad174) t171.length co13 : Value).ownBlock) (fun _ => False) rfl rfl ?aP (fun _ hk => hk.elim) ?aF ?aO ?aB ?aS ?aL ?_; (case aP => exact rfl); (case aB => exact zz0); (case aF => exact (fun k_ hk => Kd.fresh' (Kd.R_lt zz6) k_ hk)); (case aO => exact zz7); (case aS => exact (below_size zz0)); (case aL => have := LMc12.out; omega); intro v178 w15 ho hb hg hat; rw [← Ny177.out] at ho; have n0_ := qH (Kd.R_after (ok := (fun _ => True)) (by (with_reducible repeat (first | apply Kd.R_alloc | apply Kd.R_drewN | apply Kd.R_drew)); exact Kd.R_mono HO_10.out (fun _ hk => ⟨trivial, hk⟩)) hg hat); have n1_ := qH (hb); have n2_ := qH (ho); clear HO_10; clear HB; clear HO_8; have HO_10 := n0_; have HB := n1_; have HO179 := n2_; clear n0_ n1_ n2_; clear ho hb hg hat))
         go_roundg k1
         case measure => have := HK1.out; omega
         case rel => exact ⟨(y177), (wrap64 (x11_1 + 1)), zz3, H', ⟨by have := HK1.out; omega⟩, ⟨by (with_reducible repeat (first | apply Kd.R_alloc | apply Kd.R_drewN | apply Kd.R_drew)); exact HO179.out⟩, ⟨by (with_reducible repeat (first | apply Kd.R_alloc | apply Kd.R_drewN | apply Kd.R_drew)); exact Kd.R_mono HO_10.out (fun _ hk => hk.2)⟩, ⟨by repeat (first | (with_reducible first | exact HB.out | apply qL | apply qJ | apply qK) | exact HB.out)⟩⟩
        ·rw [if_neg c12] at H
         exact absurd H (by simp)
       ·replace c11 := Bool.eq_false_iff.mpr c11
        subst c11
        have H1 : (some (([] : List ByteArray), ([] : List (S59)), 291)) = some (r1, r2, r3) := by rw [if_neg (show ¬ (false = true) by decide)] at H; exact H
        clear H
        have H := H1
        clear H1
        simp only [Option.some.injEq, Prod.mk.injEq] at H
        obtain ⟨rfl, rfl, rfl⟩ := H
        obtain ⟨Ao16, co16, eo16⟩ := Kd.R_slice HO_10.out
        subst eo16
        have p174 : 0 ≤ (x11_1 : Int) := of_decide_eq_true zz2
        have q174 : x11_1 < (t171.length : Int) := of_decide_eq_true zz2
        obtain ⟨ad174, e174, hx174_0⟩ := Kd.at_string (Kd.R_reads' HO_10.out).2.2 x11_1 p174 q174
        cases e174
        replace p174 := eq_true p174
        replace q174 := eq_true q174
        go_wp2_with (first | ((with_reducible refine gate_callee (f := 50) rfl ?_); refine goesL_ (some 45) rfl rfl Tryz.func50 (by kernel_rfl) rfl #[.string (rdOf ByteArray.empty t171 x11_1)] rfl zz1 ?_; (with_reducible refine (codicilref29_decoded.calls k1 (rdOf ByteArray.empty t171 x11_1) t175 false _ A10.out).mono ?_); rintro e w17 ⟨rfl, hb⟩; refine ⟨_, rfl, ?_⟩; have n0_ := qH (Kd.R_below zz7 hb); have n1_ := qH (Kd.R_below zz6 hb); have n2_ := qH (below_step zz0 hb); clear HO_8; clear HO_10; clear HB; have HO_8 := n0_; have HO_10 := n1_; have HB := n2_; clear n0_ n1_ n2_; (try clear hb); (try clear hb2); (try clear hk); (try clear hi)))
        go_ret3
        exact ⟨_, _, by first | rfl | (simp [errW_none, errW_some] <;> rfl) | (simp [*, errW_none, errW_some] <;> rfl), by first | exact Kd.R_nil _ _ _ _ _ | exact Kd.N_nil _ _ _ _ _ | exact Kd.V_nil _ _ _ _ _ | exact Kd.Q_nil _ _ _ _ _ | exact Kd.S_nil _ _ _ _ _, by first | exact Kd.R_nil _ _ _ _ _ | exact Kd.N_nil _ _ _ _ _ | exact Kd.V_nil _ _ _ _ _ | exact Kd.Q_nil _ _ _ _ _ | exact Kd.S_nil _ _ _ _ _, by repeat (first | (with_reducible first | exact HB.out | apply qL | apply qJ | apply qK) | exact HB.out)⟩
      ·rw [if_neg c9] at H
       exact absurd H (by simp)
     ·rw [if_neg c8] at H
      have c8b0 : decide (x11_1 < (t171.length : Int)) = false := decide_eq_false c8
      clear c8
      by_cases c18 : t169.toList = ([] : List UInt8)
      ·rw [if_pos c18] at H
       have c18b0 : (t169.toList == ([] : List UInt8)) = true := beq_iff_eq.mpr c18
       have c18b1 : (t169.toList != ([] : List UInt8)) = false := bne_eq_false_iff_eq.mpr c18
       clear c18
       simp only [Option.some.injEq, Prod.mk.injEq] at H
       obtain ⟨rfl, rfl, rfl⟩ := H
       obtain ⟨Ao19, co19, eo19⟩ := Kd.R_slice HO_10.out
       subst eo19
       go_wp2
       go_ret3
       exact ⟨_, _, by first | rfl | (simp [errW_none, errW_some] <;> rfl) | (simp [*, errW_none, errW_some] <;> rfl), by (with_reducible repeat (first | apply Kd.R_alloc | apply Kd.R_drewN | apply Kd.R_drew)); exact Kd.R_mono HO_8.out (fun _ hk => trivial), by first | exact Kd.R_nil _ _ _ _ _ | exact Kd.N_nil _ _ _ _ _ | exact Kd.V_nil _ _ _ _ _ | exact Kd.Q_nil _ _ _ _ _ | exact Kd.S_nil _ _ _ _ _, by repeat (first | (with_reducible first | exact HB.out | apply qL | apply qJ | apply qK) | exact HB.out)⟩
      ·rw [if_neg c18] at H
       have c18b0 : (t169.toList == ([] : List UInt8)) = false := beq_eq_false_iff_ne.mpr c18
       have c18b1 : (t169.toList != ([] : List UInt8)) = true := bne_iff_ne.mpr c18
       replace H := Option.bind_eq_some_iff.mp H
       obtain ⟨t180, A200, H⟩ := H
       (try dsimp only at H)
       have A20 := qH A200
       clear A200
       have H' := qH H
       clear H
       obtain ⟨Ao21, co21, eo21⟩ := Kd.R_slice HO_10.out
       subst eo21
       go_wp2_with (first | ((with_reducible refine gate_callee (f := 49) rfl ?_); refine goesL_ (some 58) rfl rfl Tryz.func49 (by kernel_rfl) rfl #[.string t169, .int .u8 38] rfl zz1 ?_; (with_reducible refine (codicilref29_split.calls k1 t169 38 t180 _ A20.out).mono ?_); rintro e w22 ⟨v181, rfl, ho0, hb⟩; refine ⟨_, rfl, ?_⟩; have n0_ := qH (Kd.R_elder' zz7 (Kd.R_base ho0) hb); have n1_ := qH (Kd.R_elder' zz6 (Kd.R_base ho0) hb); have n2_ := qH (Kd.R_lower (Kd.R_new' (Kd.R_new' ho0 (Kd.R_lt zz7)) (Kd.R_lt zz6)) (below_size zz0)); have n3_ := qH (below_step zz0 hb); clear HO_8; clear HO_10; clear HB; have HO_8 := n0_; have HO_10 := n1_; have HO182 := n2_; have HB := n3_; clear n0_ n1_ n2_ n3_; (try clear hb); (try clear hb2); (try clear hk); (try clear hi); (try clear ho0)))
       go_loopg [9, 14] k1 (fun kq v9 v14 w' => ∃ (x9_2 : List (S59)) (x14_2 : Int), v14 = .int .i64 x14_2 ∧ Aside0 (codicilref29_Path.l1 kq x8_1 x9_2 t180 x14_2 = some (r1, r2, r3)) ∧ Aside0 (kq ≤ k1) ∧ Aside0 (Kd.R Kd.string 9 w' w.heap.size (fun k_ => some k_ ≠ (v181 : Value).ownBlock) u8 x8_1) ∧ Aside0 (Kd.R k59 59 w' w.heap.size (fun _ => True) v9 x9_2) ∧ Aside0 (Kd.R Kd.string 9 w' w.heap.size (fun k_ => some k_ ≠ (u8 : Value).ownBlock) v181 t180) ∧ Aside0 (Below w.heap.size w w'))
       case atStart => exact ⟨(([] : List (S59))), (0), zz3, H', ⟨Nat.le_refl _⟩, ⟨by (with_reducible repeat (first | apply Kd.R_alloc | apply Kd.R_drewN | apply Kd.R_drew)); exact Kd.R_mono HO_8.out (fun _ hk => hk.2)⟩, ⟨by first | exact Kd.R_nil _ _ _ _ _ | exact Kd.N_nil _ _ _ _ _ | exact Kd.V_nil _ _ _ _ _ | exact Kd.Q_nil _ _ _ _ _ | exact Kd.S_nil _ _ _ _ _⟩, ⟨by (with_reducible repeat (first | apply Kd.R_alloc | apply Kd.R_drewN | apply Kd.R_drew)); exact Kd.R_mono HO182.out (fun _ hk => hk.1.2)⟩, ⟨by repeat (first | (with_reducible first | exact HB.out | apply qL | apply qJ | apply qK) | exact HB.out)⟩⟩
       case round =>
        clear H'
        try clear c1
        try clear p1
        try clear q1
        try clear hx1
        try clear p2
        try clear c3
        try clear c4
        try clear c5
        try clear c5b0
        try clear c5b1
        try clear p6
        try clear c8
        try clear c8b0
        try clear c9
        try clear c9b0
        try clear c11
        try clear c12
        try clear c17
        try clear p17
        try clear q17
        try clear hx17
        try clear c18
        try clear c18b0
        try clear c18b1
        try clear hx174_0
        try clear p174
        try clear p2
        try clear q174
        obtain ⟨x9_2, x14_2, rfl, HA, HK2, HO_8, HO_9, HO_10, HB⟩ := hrel
        cases gk with
        | zero => exact absurd HA.out (by simp [codicilref29_Path.l1])
        | succ k2 =>
         have H := HA.out
         clear HA
         simp only [codicilref29_Path.l1] at H
         by_cases c23 : x14_2 < (t180.length : Int)
         ·rw [if_pos c23] at H
          have c23b0 : decide (x14_2 < (t180.length : Int)) = true := decide_eq_true c23
          clear c23
          by_cases c24 : 0 ≤ x14_2
          ·rw [if_pos c24] at H
           have c24b0 : decide (0 ≤ x14_2) = true := decide_eq_true c24
           clear c24
           replace H := Option.bind_eq_some_iff.mp H
           obtain ⟨⟨t184, t185, t186⟩, A250, H⟩ := H
           (try dsimp only at H)
           have A25 := qH A250
           clear A250
           replace H := Option.bind_eq_some_iff.mp H
           obtain ⟨⟨t187, t188⟩, A260, H⟩ := H
           (try dsimp only at H)
           have A26 := qH A260
           clear A260
           replace H := Option.bind_eq_some_iff.mp H
           obtain ⟨⟨t189, t190⟩, A270, H⟩ := H
           (try dsimp only at H)
           have A27 := qH A270
           clear A270
           by_cases c28 : t188 = true
           ·subst c28
            have H1 : (if t190 = true then (if x9_2.length < 4398046511104 then (codicilref29_Path.l1 k2 x8_1 (x9_2 ++ [(⟨t187, t189⟩ : S59)]) t180 (wrap64 (x14_2 + 1))) else (none)) else (some (([] : List ByteArray), ([] : List (S59)), 291))) = some (r1, r2, r3) := by rw [if_pos rfl] at H; exact H
            clear H
            have H := H1
            clear H1
            by_cases c29 : t190 = true
            ·subst c29
             have H1 : (if x9_2.length < 4398046511104 then (codicilref29_Path.l1 k2 x8_1 (x9_2 ++ [(⟨t187, t189⟩ : S59)]) t180 (wrap64 (x14_2 + 1))) else (none)) = some (r1, r2, r3) := by rw [if_pos rfl] at H; exact H
             clear H
             have H := H1
             clear H1
             by_cases c30 : x9_2.length < 4398046511104
             ·rw [if_pos c30] at H
              have LMc30 := qH c30
              clear c30
              obtain ⟨y191, hy191⟩ : ∃ y_ : List (S59), y_ = (x9_2 ++ [(⟨t187, t189⟩ : S59)]) := ⟨_, rfl⟩
              replace H : (codicilref29_Path.l1 k2 x8_1 y191 t180 (wrap64 (x14_2 + 1))) = some (r1, r2, r3) := by first | (rw [hy191]; with_reducible exact H) | (have H2_ := (Option.bind_some _ _).symm.trans H; rw [hy191]; with_reducible exact H2_) | (have H2_ := (Option.bind_some _ _).symm.trans H; with_reducible exact H2_) | with_reducible exact H | (rw [hy191]; exact H) | exact H
              have Ny191 := qH hy191
              clear hy191
              have H' := qH H
              clear H
              obtain ⟨Ao31, co31, eo31⟩ := Kd.R_slice HO_10.out
              subst eo31
              have p183 : 0 ≤ (x14_2 : Int) := of_decide_eq_true zz2
              have q183 : x14_2 < (t180.length : Int) := of_decide_eq_true zz2
              obtain ⟨ad183, e183, hx183_0⟩ := Kd.at_string (Kd.R_reads' HO_10.out).2.2 x14_2 p183 q183
              cases e183
              replace p183 := eq_true p183
              replace q183 := eq_true q183
              go_wp2_with (first | ((with_reducible refine gate_callee (f := 48) rfl ?_); refine goesL_ (some 70) rfl rfl Tryz.func48 (by kernel_rfl) rfl #[.string (rdOf ByteArray.empty t180 x14_2), .int .u8 61] rfl zz1 ?_; (with_reducible refine (codicilref29_cut.calls k2 (rdOf ByteArray.empty t180 x14_2) 61 t184 t185 t186 _ A25.out).mono ?_); rintro e w' ⟨rfl, ⟨nd, rfl⟩⟩; refine ⟨_, rfl, ?_⟩) | ((with_reducible refine gate_callee (f := 50) rfl ?_); refine goesL_ (some 76) rfl rfl Tryz.func50 (by kernel_rfl) rfl #[.string t184] rfl zz1 ?_; (with_reducible refine (codicilref29_decoded.calls k2 t184 t187 true _ A26.out).mono ?_); rintro e w32 ⟨rfl, hb⟩; refine ⟨_, rfl, ?_⟩; have n0_ := qH (Kd.R_below zz7 hb); have n1_ := qH (Kd.R_below zz8 hb); have n2_ := qH (Kd.R_below zz6 hb); have n3_ := qH (below_step zz0 hb); clear HO_8; clear HO_9; clear HO_10; clear HB; have HO_8 := n0_; have HO_9 := n1_; have HO_10 := n2_; have HB := n3_; clear n0_ n1_ n2_ n3_; (try clear hb); (try clear hb2); (try clear hk); (try clear hi)) | ((with_reducible refine gate_callee (f := 50) rfl ?_); refine goesL_ (some 81) rfl rfl Tryz.func50 (by kernel_rfl) rfl #[.string t185] rfl zz1 ?_; (with_reducible refine (codicilref29_decoded.calls k2 t185 t189 true _ A27.out).mono ?_); rintro e w33 ⟨rfl, hb⟩; refine ⟨_, rfl, ?_⟩; have n0_ := qH (Kd.R_below zz7 hb); have n1_ := qH (Kd.R_below zz8 hb); have n2_ := qH (Kd.R_below zz6 hb); have n3_ := qH (below_step zz0 hb); clear HO_8; clear HO_9; clear HO_10; clear HB; have HO_8 := n0_; have HO_9 := n1_; have HO_10 := n2_; have HB := n3_; clear n0_ n1_ n2_ n3_; (try clear hb); (try clear hb2); (try clear hk); (try clear hi)) | ((with_reducible refine gate_builtin (b := .append) (xs := #[.tmp 90, .tmp 94]) rfl ?_); at_builtin; refine Kd.R_append k59 (w0 := w) w.heap.size rfl (.tmp 90) (.tmp 94) 23 59 (.agg #[(.string ⟨#[]⟩), (.string ⟨#[]⟩)]) 32 rfl Tryz.underlying23 info59 rfl (by decide) (by omega) u9 x9_2 (⟨t187, t189⟩ : S59) [.string t187, .string t189] (fun _ => True) (fun _ => False) rfl rfl ?aP (fun _ hk => hk.elim) ?aF ?aO ?aB ?aS ?aL ?_; (case aP => exact k59_mkM _ _ _ (⟨t187, t189⟩ : S59)); (case aB => exact zz0); (case aF => exact (fun _ _ => trivial)); (case aO => exact zz8); (case aS => exact (below_size zz0)); (case aL => have := LMc30.out; omega); intro v192 w34 ho hb hg hat; rw [← Ny191.out] at ho; have n0_ := qH (Kd.R_over' zz7 (Kd.R_typed zz8) (by decide) hg); have n1_ := qH (Kd.R_over' zz6 (Kd.R_typed zz8) (by decide) hg); have n2_ := qH (hb); have n3_ := qH (ho); clear HO_8; clear HO_10; clear HB; clear HO_9; have HO_8 := n0_; have HO_10 := n1_; have HB := n2_; have HO193 := n3_; clear n0_ n1_ n2_ n3_; clear ho hb hg hat))
              go_roundg k2
              case measure => have := HK1.out; have := HK2.out; omega
              case rel => exact ⟨(y191), (wrap64 (x14_2 + 1)), zz3, H', ⟨by have := HK1.out; have := HK2.out; omega⟩, ⟨by (with_reducible repeat (first | apply Kd.R_alloc | apply Kd.R_drewN | apply Kd.R_drew)); exact HO_8.out⟩, ⟨by (with_reducible repeat (first | apply Kd.R_alloc | apply Kd.R_drewN | apply Kd.R_drew)); exact HO193.out⟩, ⟨by (with_reducible repeat (first | apply Kd.R_alloc | apply Kd.R_drewN | apply Kd.R_drew)); exact HO_10.out⟩, ⟨by repeat (first | (with_reducible first | exact HB.out | apply qL | apply qJ | apply qK) | exact HB.out)⟩⟩
             ·rw [if_neg c30] at H
              exact absurd H (by simp)
            ·replace c29 := Bool.eq_false_iff.mpr c29
             subst c29
             have H1 : (some (([] : List ByteArray), ([] : List (S59)), 291)) = some (r1, r2, r3) := by rw [if_neg (show ¬ (false = true) by decide)] at H; exact H
             clear H
             have H := H1
             clear H1
             simp only [Option.some.injEq, Prod.mk.injEq] at H
             obtain ⟨rfl, rfl, rfl⟩ := H
             obtain ⟨Ao35, co35, eo35⟩ := Kd.R_slice HO_10.out
             subst eo35
             have p183 : 0 ≤ (x14_2 : Int) := of_decide_eq_true zz2
             have q183 : x14_2 < (t180.length : Int) := of_decide_eq_true zz2
             obtain ⟨ad183, e183, hx183_0⟩ := Kd.at_string (Kd.R_reads' HO_10.out).2.2 x14_2 p183 q183
             cases e183
             replace p183 := eq_true p183
             replace q183 := eq_true q183
             go_wp2_with (first | ((with_reducible refine gate_callee (f := 48) rfl ?_); refine goesL_ (some 70) rfl rfl Tryz.func48 (by kernel_rfl) rfl #[.string (rdOf ByteArray.empty t180 x14_2), .int .u8 61] rfl zz1 ?_; (with_reducible refine (codicilref29_cut.calls k2 (rdOf ByteArray.empty t180 x14_2) 61 t184 t185 t186 _ A25.out).mono ?_); rintro e w' ⟨rfl, ⟨nd, rfl⟩⟩; refine ⟨_, rfl, ?_⟩) | ((with_reducible refine gate_callee (f := 50) rfl ?_); refine goesL_ (some 76) rfl rfl Tryz.func50 (by kernel_rfl) rfl #[.string t184] rfl zz1 ?_; (with_reducible refine (codicilref29_decoded.calls k2 t184 t187 true _ A26.out).mono ?_); rintro e w36 ⟨rfl, hb⟩; refine ⟨_, rfl, ?_⟩; have n0_ := qH (Kd.R_below zz7 hb); have n1_ := qH (Kd.R_below zz8 hb); have n2_ := qH (Kd.R_below zz6 hb); have n3_ := qH (below_step zz0 hb); clear HO_8; clear HO_9; clear HO_10; clear HB; have HO_8 := n0_; have HO_9 := n1_; have HO_10 := n2_; have HB := n3_; clear n0_ n1_ n2_ n3_; (try clear hb); (try clear hb2); (try clear hk); (try clear hi)) | ((with_reducible refine gate_callee (f := 50) rfl ?_); refine goesL_ (some 81) rfl rfl Tryz.func50 (by kernel_rfl) rfl #[.string t185] rfl zz1 ?_; (with_reducible refine (codicilref29_decoded.calls k2 t185 t189 false _ A27.out).mono ?_); rintro e w37 ⟨rfl, hb⟩; refine ⟨_, rfl, ?_⟩; have n0_ := qH (Kd.R_below zz7 hb); have n1_ := qH (Kd.R_below zz8 hb); have n2_ := qH (Kd.R_below zz6 hb); have n3_ := qH (below_step zz0 hb); clear HO_8; clear HO_9; clear HO_10; clear HB; have HO_8 := n0_; have HO_9 := n1_; have HO_10 := n2_; have HB := n3_; clear n0_ n1_ n2_ n3_; (try clear hb); (try clear hb2); (try clear hk); (try clear hi)))
             go_ret3
             exact ⟨_, _, by first | rfl | (simp [errW_none, errW_some] <;> rfl) | (simp [*, errW_none, errW_some] <;> rfl), by first | exact Kd.R_nil _ _ _ _ _ | exact Kd.N_nil _ _ _ _ _ | exact Kd.V_nil _ _ _ _ _ | exact Kd.Q_nil _ _ _ _ _ | exact Kd.S_nil _ _ _ _ _, by first | exact Kd.R_nil _ _ _ _ _ | exact Kd.N_nil _ _ _ _ _ | exact Kd.V_nil _ _ _ _ _ | exact Kd.Q_nil _ _ _ _ _ | exact Kd.S_nil _ _ _ _ _, by repeat (first | (with_reducible first | exact HB.out | apply qL | apply qJ | apply qK) | exact HB.out)⟩
           ·replace c28 := Bool.eq_false_iff.mpr c28
            subst c28
            have H1 : (some (([] : List ByteArray), ([] : List (S59)), 291)) = some (r1, r2, r3) := by rw [if_neg (show ¬ (false = true) by decide)] at H; exact H
            clear H
            have H := H1
            clear H1
            simp only [Option.some.injEq, Prod.mk.injEq] at H
            obtain ⟨rfl, rfl, rfl⟩ := H
            obtain ⟨Ao38, co38, eo38⟩ := Kd.R_slice HO_10.out
            subst eo38
            have p183 : 0 ≤ (x14_2 : Int) := of_decide_eq_true zz2
            have q183 : x14_2 < (t180.length : Int) := of_decide_eq_true zz2
            obtain ⟨ad183, e183, hx183_0⟩ := Kd.at_string (Kd.R_reads' HO_10.out).2.2 x14_2 p183 q183
            cases e183
            replace p183 := eq_true p183
            replace q183 := eq_true q183
            go_wp2_with (first | ((with_reducible refine gate_callee (f := 48) rfl ?_); refine goesL_ (some 70) rfl rfl Tryz.func48 (by kernel_rfl) rfl #[.string (rdOf ByteArray.empty t180 x14_2), .int .u8 61] rfl zz1 ?_; (with_reducible refine (codicilref29_cut.calls k2 (rdOf ByteArray.empty t180 x14_2) 61 t184 t185 t186 _ A25.out).mono ?_); rintro e w' ⟨rfl, ⟨nd, rfl⟩⟩; refine ⟨_, rfl, ?_⟩) | ((with_reducible refine gate_callee (f := 50) rfl ?_); refine goesL_ (some 76) rfl rfl Tryz.func50 (by kernel_rfl) rfl #[.string t184] rfl zz1 ?_; (with_reducible refine (codicilref29_decoded.calls k2 t184 t187 false _ A26.out).mono ?_); rintro e w39 ⟨rfl, hb⟩; refine ⟨_, rfl, ?_⟩; have n0_ := qH (Kd.R_below zz7 hb); have n1_ := qH (Kd.R_below zz8 hb); have n2_ := qH (Kd.R_below zz6 hb); have n3_ := qH (below_step zz0 hb); clear HO_8; clear HO_9; clear HO_10; clear HB; have HO_8 := n0_; have HO_9 := n1_; have HO_10 := n2_; have HB := n3_; clear n0_ n1_ n2_ n3_; (try clear hb); (try clear hb2); (try clear hk); (try clear hi)) | ((with_reducible refine gate_callee (f := 50) rfl ?_); refine goesL_ (some 81) rfl rfl Tryz.func50 (by kernel_rfl) rfl #[.string t185] rfl zz1 ?_; (with_reducible refine (codicilref29_decoded.calls k2 t185 t189 t190 _ A27.out).mono ?_); rintro e w40 ⟨rfl, hb⟩; refine ⟨_, rfl, ?_⟩; have n0_ := qH (Kd.R_below zz7 hb); have n1_ := qH (Kd.R_below zz8 hb); have n2_ := qH (Kd.R_below zz6 hb); have n3_ := qH (below_step zz0 hb); clear HO_8; clear HO_9; clear HO_10; clear HB; have HO_8 := n0_; have HO_9 := n1_; have HO_10 := n2_; have HB := n3_; clear n0_ n1_ n2_ n3_; (try clear hb); (try clear hb2); (try clear hk); (try clear hi)))
            go_ret3
            exact ⟨_, _, by first | rfl | (simp [errW_none, errW_some] <;> rfl) | (simp [*, errW_none, errW_some] <;> rfl), by first | exact Kd.R_nil _ _ _ _ _ | exact Kd.N_nil _ _ _ _ _ | exact Kd.V_nil _ _ _ _ _ | exact Kd.Q_nil _ _ _ _ _ | exact Kd.S_nil _ _ _ _ _, by first | exact Kd.R_nil _ _ _ _ _ | exact Kd.N_nil _ _ _ _ _ | exact Kd.V_nil _ _ _ _ _ | exact Kd.Q_nil _ _ _ _ _ | exact Kd.S_nil _ _ _ _ _, by repeat (first | (with_reducible first | exact HB.out | apply qL | apply qJ | apply qK) | exact HB.out)⟩
          ·rw [if_neg c24] at H
           exact absurd H (by simp)
         ·rw [if_neg c23] at H
          have c23b0 : decide (x14_2 < (t180.length : Int)) = false := decide_eq_false c23
          clear c23
          simp only [Option.some.injEq, Prod.mk.injEq] at H
          obtain ⟨rfl, rfl, rfl⟩ := H
          obtain ⟨Ao41, co41, eo41⟩ := Kd.R_slice HO_10.out
          subst eo41
          go_wp2
          go_ret3
          exact ⟨_, _, by first | rfl | (simp [errW_none, errW_some] <;> rfl) | (simp [*, errW_none, errW_some] <;> rfl), by (with_reducible repeat (first | apply Kd.R_alloc | apply Kd.R_drewN | apply Kd.R_drew)); exact Kd.R_mono HO_8.out (fun _ hk => trivial), by (with_reducible repeat (first | apply Kd.R_alloc | apply Kd.R_drewN | apply Kd.R_drew)); exact HO_9.out, by repeat (first | (with_reducible first | exact HB.out | apply qL | apply qJ | apply qK) | exact HB.out)⟩
  ·rw [if_neg c5] at H
   exact absurd H (by simp)
 ·replace c3 := Bool.eq_false_iff.mpr c3
  subst c3
  have H1 : (some (([] : List ByteArray), ([] : List (S59)), 291)) = some (r1, r2, r3) := by rw [if_neg (show ¬ (false = true) by decide)] at H; exact H
  clear H
  have H := H1
  clear H1
  simp only [Option.some.injEq, Prod.mk.injEq] at H
  obtain ⟨rfl, rfl, rfl⟩ := H
  go_enter Tryz.func17, Tryz.ntmps17
  go_wp2_with (first | ((with_reducible refine gate_callee (f := 47) rfl ?_); refine goesL_ (some 23) rfl rfl Tryz.func47 (by kernel_rfl) rfl #[.string a0] rfl zz1 ?_; (with_reducible refine (codicilref29_target.calls k a0 false _ A2.out).mono ?_); rintro e w' ⟨rfl, ⟨nd, rfl⟩⟩; refine ⟨_, rfl, ?_⟩))
  go_ret3
  exact ⟨_, _, by first | rfl | (simp [errW_none, errW_some] <;> rfl) | (simp [*, errW_none, errW_some] <;> rfl), by first | exact Kd.R_nil _ _ _ _ _ | exact Kd.N_nil _ _ _ _ _ | exact Kd.V_nil _ _ _ _ _ | exact Kd.Q_nil _ _ _ _ _ | exact Kd.S_nil _ _ _ _ _, by first | exact Kd.R_nil _ _ _ _ _ | exact Kd.N_nil _ _ _ _ _ | exact Kd.V_nil _ _ _ _ _ | exact Kd.Q_nil _ _ _ _ _ | exact Kd.S_nil _ _ _ _ _, by repeat (first | (with_reducible first | exact HB.out | apply qL | apply qJ | apply qK) | exact HB.out)⟩

/-! ### codicillaw29_heads: function 18 -/
def codicillaw29_heads.l0 : Nat → List (S59) → List (S59) → Int → Option (Bool)
 | 0, _, _, _ => none
 | k + 1, x0, x1, x5 => if x5 < (x0.length : Int) then (if 0 ≤ x5 then (if x5 < (x1.length : Int) then (if (!((((rd_T59 x0 x5).f0).toList) == (((rd_T59 x1 x5).f0).toList)) || (!((((rd_T59 x0 x5).f1).toList) == (((rd_T59 x1 x5).f1).toList)))) = true then (some false) else (codicillaw29_heads.l0 k x0 x1 (wrap64 (x5 + 1)))) else (none)) else (none)) else (some true)
def codicillaw29_heads.f (k : Nat) (l0 : List (S59)) (l1 : List (S59)) : Option (Bool) := if (l0.length : Int) = (l1.length : Int) then (codicillaw29_heads.l0 k l0 l1 0) else (some false)
theorem codicillaw29_heads.mono_l : ∀ k, (∀ y0 y1 y2, LeO (codicillaw29_heads.l0 k y0 y1 y2) (codicillaw29_heads.l0 (k + 1) y0 y1 y2))
 | 0 => fun _ _ _ r h => by simp [codicillaw29_heads.l0] at h
 | k + 1 => by
  have ih0 := codicillaw29_heads.mono_l k
  ·intro y0 y1 y2
   unfold codicillaw29_heads.l0
   repeat' first
   | (with_reducible exact ih0 _ _ _)
   | (with_reducible exact LeO.refl _)
   | (with_reducible exact LeO.none _)
   | (with_reducible refine LeO.ite ?_ ?_)
   | (with_reducible refine LeO.bind ?_ (fun _ => ?_))
   | exact ih0 _ _ _
   | exact LeO.none _
   | refine LeO.ite ?_ ?_
   | refine LeO.bind ?_ (fun _ => ?_)
theorem codicillaw29_heads.mono : ∀ a0 a1 k, LeO (codicillaw29_heads.f k a0 a1) (codicillaw29_heads.f (k + 1) a0 a1) := by
 intro a0 a1 k
 have ih0 := codicillaw29_heads.mono_l k
 unfold codicillaw29_heads.f
 repeat' first
   | (with_reducible exact ih0 _ _ _)
   | (with_reducible exact LeO.refl _)
   | (with_reducible exact LeO.none _)
   | (with_reducible refine LeO.ite ?_ ?_)
   | (with_reducible refine LeO.bind ?_ (fun _ => ?_))
   | exact ih0 _ _ _
   | exact LeO.none _
   | refine LeO.ite ?_ ?_
   | refine LeO.bind ?_ (fun _ => ?_)
set_option maxHeartbeats 8000000 in
set_option maxRecDepth 100000 in
theorem codicillaw29_heads.calls (k : Nat) (A0 : Option Addr) (c0 : Nat) (l0 : List (S59)) (A1 : Option Addr) (c1 : Nat) (l1 : List (S59)) (r : Bool) (w : World) (hr0 : Kd.C k59 w A0 l0.length l0) (hc0 : l0.length ≤ c0) (hr1 : Kd.C k59 w A1 l1.length l1) (hc1 : l1.length ≤ c1) (h : codicillaw29_heads.f k l0 l1 = some r) :
  Calls Tryz.prog 18 #[.slice A0 l0.length c0, .slice A1 l1.length c1] w fun e w' => e = .returned (.bool r) ∧ Drawn0 w w' := by
 have hu59 := Tryz.underlying59
 have HR0 := qH hr0
 have HC0 := qH hc0
 clear hr0 hc0
 have HR1 := qH hr1
 have HC1 := qH hc1
 clear hr1 hc1
 have H : (if (l0.length : Int) = (l1.length : Int) then (codicillaw29_heads.l0 k l0 l1 0) else (some false)) = some r := h
 clear h
 by_cases c3 : (l0.length : Int) = (l1.length : Int)
 ·rw [if_pos c3] at H
  have c3b0 : ((l0.length : Int) == (l1.length : Int)) = true := beq_iff_eq.mpr c3
  have c3b1 : ((l0.length : Int) != (l1.length : Int)) = false := bne_eq_false_iff_eq.mpr c3
  have c3b2 : (l0.length == l1.length) = true := by first | simpa using c3 | (simp at c3 ⊢; omega)
  clear c3
  have H' := qH H
  clear H
  go_enter Tryz.func18, Tryz.ntmps18
  go_wp2
  repeat (go_quiet (fail); try go_wp2)
  go_loopg [5] k (fun kq v5 w' => ∃ (x5_1 : Int), v5 = .int .i64 x5_1 ∧ Aside0 (codicillaw29_heads.l0 kq l0 l1 x5_1 = some r) ∧ Aside0 (kq ≤ k) ∧ Drawn0 w w')
  case atStart => exact ⟨(0), zz3, H', ⟨Nat.le_refl _⟩, by repeat (first | exact Drawn0.refl _ | apply Drawn0.step)⟩
  case round =>
   clear H'
   try clear c1
   try clear p2
   try clear c3
   try clear c3b0
   try clear c3b1
   try clear c3b2
   obtain ⟨x5_1, rfl, HA, HK1, ⟨m1, rfl⟩⟩ := hrel
   cases gk with
   | zero => exact absurd HA.out (by simp [codicillaw29_heads.l0])
   | succ k1 =>
    have H := HA.out
    clear HA
    simp only [codicillaw29_heads.l0] at H
    by_cases c4 : x5_1 < (l0.length : Int)
    ·rw [if_pos c4] at H
     have c4b0 : decide (x5_1 < (l0.length : Int)) = true := decide_eq_true c4
     clear c4
     by_cases c5 : 0 ≤ x5_1
     ·rw [if_pos c5] at H
      have c5b0 : decide (0 ≤ x5_1) = true := decide_eq_true c5
      clear c5
      by_cases c6 : x5_1 < (l1.length : Int)
      ·rw [if_pos c6] at H
       have c6b0 : decide (x5_1 < (l1.length : Int)) = true := decide_eq_true c6
       clear c6
       by_cases c7 : (!((((rd_T59 l0 x5_1).f0).toList) == (((rd_T59 l1 x5_1).f0).toList)) || (!((((rd_T59 l0 x5_1).f1).toList) == (((rd_T59 l1 x5_1).f1).toList)))) = true
       ·rw [if_pos c7] at H
        have c7b0 : (!((((rd_T59 l0 x5_1).f0).toList) == (((rd_T59 l1 x5_1).f0).toList)) || (!((((rd_T59 l0 x5_1).f1).toList) == (((rd_T59 l1 x5_1).f1).toList)))) = true := c7
        clear c7
        obtain rfl := Option.some.inj H
        simp only [Option.some.injEq, Prod.mk.injEq] at H
        obtain ⟨rfl⟩ := H
        have p194 : 0 ≤ (x5_1 : Int) := of_decide_eq_true zz2
        have q194 : x5_1 < (l0.length : Int) := of_decide_eq_true zz2
        obtain ⟨ad194, e194, hx194_0, hx194_1⟩ := at_T59 HR0.out x5_1 p194 q194
        cases e194
        replace p194 := eq_true p194
        replace q194 := eq_true q194
        have p195 : 0 ≤ (x5_1 : Int) := of_decide_eq_true zz2
        have q195 : x5_1 < (l1.length : Int) := of_decide_eq_true zz2
        obtain ⟨ad195, e195, hx195_0, hx195_1⟩ := at_T59 HR1.out x5_1 p195 q195
        cases e195
        replace p195 := eq_true p195
        replace q195 := eq_true q195
        go_wp2
        repeat (go_quiet (fail); try go_wp2)
        go_ret
        exact ⟨by first | rfl | (simp; done) | (simp; exact qEmp _) | (simp [*]; done), by repeat (first | exact Drawn0.refl _ | apply Drawn0.step)⟩
       ·rw [if_neg c7] at H
        have c7b0 : (!((((rd_T59 l0 x5_1).f0).toList) == (((rd_T59 l1 x5_1).f0).toList)) || (!((((rd_T59 l0 x5_1).f1).toList) == (((rd_T59 l1 x5_1).f1).toList)))) = false := by simpa using c7
        clear c7
        have H' := qH H
        clear H
        have p194 : 0 ≤ (x5_1 : Int) := of_decide_eq_true zz2
        have q194 : x5_1 < (l0.length : Int) := of_decide_eq_true zz2
        obtain ⟨ad194, e194, hx194_0, hx194_1⟩ := at_T59 HR0.out x5_1 p194 q194
        cases e194
        replace p194 := eq_true p194
        replace q194 := eq_true q194
        have p195 : 0 ≤ (x5_1 : Int) := of_decide_eq_true zz2
        have q195 : x5_1 < (l1.length : Int) := of_decide_eq_true zz2
        obtain ⟨ad195, e195, hx195_0, hx195_1⟩ := at_T59 HR1.out x5_1 p195 q195
        cases e195
        replace p195 := eq_true p195
        replace q195 := eq_true q195
        go_wp2
        repeat (go_quiet (fail); try go_wp2)
        go_roundg k1
        case measure => have := HK1.out; omega
        case rel => exact ⟨(wrap64 (x5_1 + 1)), zz3, H', ⟨by have := HK1.out; omega⟩, by repeat (first | exact Drawn0.refl _ | apply Drawn0.step)⟩
      ·rw [if_neg c6] at H
       exact absurd H (by simp)
     ·rw [if_neg c5] at H
      exact absurd H (by simp)
    ·rw [if_neg c4] at H
     have c4b0 : decide (x5_1 < (l0.length : Int)) = false := decide_eq_false c4
     clear c4
     obtain rfl := Option.some.inj H
     simp only [Option.some.injEq, Prod.mk.injEq] at H
     obtain ⟨rfl⟩ := H
     go_wp2
     repeat (go_quiet (fail); try go_wp2)
     go_ret
     exact ⟨by first | rfl | (simp; done) | (simp; exact qEmp _) | (simp [*]; done), by repeat (first | exact Drawn0.refl _ | apply Drawn0.step)⟩
 ·rw [if_neg c3] at H
  have c3b0 : ((l0.length : Int) == (l1.length : Int)) = false := beq_eq_false_iff_ne.mpr c3
  have c3b1 : ((l0.length : Int) != (l1.length : Int)) = true := bne_iff_ne.mpr c3
  have c3b2 : (l0.length == l1.length) = false := by first | simpa using c3 | (simp at c3 ⊢; omega)
  obtain rfl := Option.some.inj H
  simp only [Option.some.injEq, Prod.mk.injEq] at H
  obtain ⟨rfl⟩ := H
  go_enter Tryz.func18, Tryz.ntmps18
  go_wp2
  repeat (go_quiet (fail); try go_wp2)
  go_ret
  exact ⟨by first | rfl | (simp; done) | (simp; exact qEmp _) | (simp [*]; done), by repeat (first | exact Drawn0.refl _ | apply Drawn0.step)⟩

/-! ### codicillaw29_HttpPaths: function 4 -/
mutual
def codicillaw29_HttpPaths.j0 : Nat → List ByteArray → List ByteArray → Bool → Option (Bool)
 | 0, _, _, _ => none
 | k + 1, x3, x6, x41 => if x41 = true then (some false) else (codicillaw29_HttpPaths.l0 k x3 x6 0)
def codicillaw29_HttpPaths.l0 : Nat → List ByteArray → List ByteArray → Int → Option (Bool)
 | 0, _, _, _ => none
 | k + 1, x3, x6, x9 => if x9 < (x3.length : Int) then (if 0 ≤ x9 then (if x9 < (x6.length : Int) then (if (rdOf ByteArray.empty x3 x9).toList = (rdOf ByteArray.empty x6 x9).toList then (codicillaw29_HttpPaths.l0 k x3 x6 (wrap64 (x9 + 1))) else (some false)) else (none)) else (none)) else ((codicillaw29_alive.f k).bind fun t214 => (some t214))
end
def codicillaw29_HttpPaths.f (k : Nat) (a0 : ByteArray) : Option (Bool) := if (a0.size : Int) > 4096 then ((codicillaw29_alive.f k).bind fun t196 => (some t196)) else ((http_Path.f a0).bind fun bt197 => ((codicilref29_Path.f k a0).bind fun bt204 => (if (bt197.1.length : Int) = (bt204.1.length : Int) then (if bt197.2.2 = bt204.2.2 then ((codicillaw29_heads.f k bt197.2.1 bt204.2.1).bind fun t211 => (codicillaw29_HttpPaths.j0 k bt197.1 bt204.1 (!t211))) else (codicillaw29_HttpPaths.j0 k bt197.1 bt204.1 true)) else (codicillaw29_HttpPaths.j0 k bt197.1 bt204.1 true))))
theorem codicillaw29_HttpPaths.mono_l : ∀ k, (∀ y0 y1 y2, LeO (codicillaw29_HttpPaths.j0 k y0 y1 y2) (codicillaw29_HttpPaths.j0 (k + 1) y0 y1 y2)) ∧ (∀ y0 y1 y2, LeO (codicillaw29_HttpPaths.l0 k y0 y1 y2) (codicillaw29_HttpPaths.l0 (k + 1) y0 y1 y2))
 | 0 => ⟨fun _ _ _ r h => by simp [codicillaw29_HttpPaths.j0] at h, fun _ _ _ r h => by simp [codicillaw29_HttpPaths.l0] at h⟩
 | k + 1 => by
  obtain ⟨ih0, ih1⟩ := codicillaw29_HttpPaths.mono_l k
  refine ⟨?_, ?_⟩
  ·intro y0 y1 y2
   unfold codicillaw29_HttpPaths.j0
   repeat' first
   | (with_reducible exact ih0 _ _ _)
   | (with_reducible exact ih1 _ _ _)
   | (with_reducible exact codicillaw29_alive.mono _)
   | (with_reducible exact codicillaw29_heads.mono _ _ _)
   | (with_reducible exact codicilref29_Path.mono _ _)
   | (with_reducible exact LeO.refl _)
   | (with_reducible exact LeO.none _)
   | (with_reducible refine LeO.ite ?_ ?_)
   | (with_reducible refine LeO.bind ?_ (fun _ => ?_))
   | exact ih0 _ _ _
   | exact ih1 _ _ _
   | exact codicillaw29_alive.mono _
   | exact codicillaw29_heads.mono _ _ _
   | exact codicilref29_Path.mono _ _
   | exact LeO.none _
   | refine LeO.ite ?_ ?_
   | refine LeO.bind ?_ (fun _ => ?_)
  ·intro y0 y1 y2
   unfold codicillaw29_HttpPaths.l0
   repeat' first
   | (with_reducible exact ih0 _ _ _)
   | (with_reducible exact ih1 _ _ _)
   | (with_reducible exact codicillaw29_alive.mono _)
   | (with_reducible exact codicillaw29_heads.mono _ _ _)
   | (with_reducible exact codicilref29_Path.mono _ _)
   | (with_reducible exact LeO.refl _)
   | (with_reducible exact LeO.none _)
   | (with_reducible refine LeO.ite ?_ ?_)
   | (with_reducible refine LeO.bind ?_ (fun _ => ?_))
   | exact ih0 _ _ _
   | exact ih1 _ _ _
   | exact codicillaw29_alive.mono _
   | exact codicillaw29_heads.mono _ _ _
   | exact codicilref29_Path.mono _ _
   | exact LeO.none _
   | refine LeO.ite ?_ ?_
   | refine LeO.bind ?_ (fun _ => ?_)
theorem codicillaw29_HttpPaths.mono : ∀ a0 k, LeO (codicillaw29_HttpPaths.f k a0) (codicillaw29_HttpPaths.f (k + 1) a0) := by
 intro a0 k
 obtain ⟨ih0, ih1⟩ := codicillaw29_HttpPaths.mono_l k
 unfold codicillaw29_HttpPaths.f
 repeat' first
   | (with_reducible exact ih0 _ _ _)
   | (with_reducible exact ih1 _ _ _)
   | (with_reducible exact codicillaw29_alive.mono _)
   | (with_reducible exact codicillaw29_heads.mono _ _ _)
   | (with_reducible exact codicilref29_Path.mono _ _)
   | (with_reducible exact LeO.refl _)
   | (with_reducible exact LeO.none _)
   | (with_reducible refine LeO.ite ?_ ?_)
   | (with_reducible refine LeO.bind ?_ (fun _ => ?_))
   | exact ih0 _ _ _
   | exact ih1 _ _ _
   | exact codicillaw29_alive.mono _
   | exact codicillaw29_heads.mono _ _ _
   | exact codicilref29_Path.mono _ _
   | exact LeO.none _
   | refine LeO.ite ?_ ?_
   | refine LeO.bind ?_ (fun _ => ?_)
set_option maxHeartbeats 8000000 in
set_option maxRecDepth 100000 in
theorem codicillaw29_HttpPaths.calls1 (k : Nat) (a0 : ByteArray) (r : Bool) (w : World) (h : codicillaw29_HttpPaths.f k a0 = some r) (hTrue : Aside0 (r = true)) (HL : Laid0 w) :
  Calls Tryz.prog 4 #[.string a0] w fun e w' => e = .returned (.bool r) ∧ Below w.heap.size w w' := by
 have HB := qH (Below.refl w.heap.size w)
 have H : (if (a0.size : Int) > 4096 then ((codicillaw29_alive.f k).bind fun t196 => (some t196)) else ((http_Path.f a0).bind fun bt197 => ((codicilref29_Path.f k a0).bind fun bt204 => (if (bt197.1.length : Int) = (bt204.1.length : Int) then (if bt197.2.2 = bt204.2.2 then ((codicillaw29_heads.f k bt197.2.1 bt204.2.1).bind fun t211 => (codicillaw29_HttpPaths.j0 k bt197.1 bt204.1 (!t211))) else (codicillaw29_HttpPaths.j0 k bt197.1 bt204.1 true)) else (codicillaw29_HttpPaths.j0 k bt197.1 bt204.1 true))))) = some r := h
 clear h
 by_cases c2 : (a0.size : Int) > 4096
 ·rw [if_pos c2] at H
  have c2b0 : decide (4096 < (a0.size : Int)) = true := decide_eq_true c2
  have c2b1 : decide (4096 < a0.size) = true := decide_eq_true (by omega)
  clear c2
  replace H := Option.bind_eq_some_iff.mp H
  obtain ⟨t196, A30, H⟩ := H
  (try dsimp only at H)
  have A3 := qH A30
  clear A30
  obtain rfl := Option.some.inj H
  simp only [Option.some.injEq, Prod.mk.injEq] at H
  obtain ⟨rfl⟩ := H
  go_enter Tryz.func4, Tryz.ntmps4
  go_wp2_with (first | (go_at_call 9; (with_reducible refine (codicillaw29_alive.calls k  t196 _ A3.out (HL.later zz0)).mono ?_); rintro e w4 ⟨rfl, hb⟩; have n0_ := qH (below_step zz0 hb); clear HB; have HB := n0_; clear n0_; (try clear hb); (try clear hb2); (try clear hk); (try clear hi)))
  repeat (go_quiet (first | (go_at_call 9; (with_reducible refine (codicillaw29_alive.calls k  t196 _ A3.out (HL.later zz0)).mono ?_); rintro e w4 ⟨rfl, hb⟩; have n0_ := qH (below_step zz0 hb); clear HB; have HB := n0_; clear n0_; (try clear hb); (try clear hb2); (try clear hk); (try clear hi))); try go_wp2_with (first | (go_at_call 9; (with_reducible refine (codicillaw29_alive.calls k  t196 _ A3.out (HL.later zz0)).mono ?_); rintro e w4 ⟨rfl, hb⟩; have n0_ := qH (below_step zz0 hb); clear HB; have HB := n0_; clear n0_; (try clear hb); (try clear hb2); (try clear hk); (try clear hi))))
  go_ret
  exact ⟨by first | rfl | (simp [errW_none, errW_some] <;> rfl) | (simp [*, errW_none, errW_some] <;> rfl), by repeat (first | (with_reducible first | exact HB.out | apply qL | apply qJ | apply qK) | exact HB.out)⟩
 ·rw [if_neg c2] at H
  have c2b0 : decide (4096 < (a0.size : Int)) = false := decide_eq_false c2
  have c2b1 : decide (4096 < a0.size) = false := decide_eq_false (by omega)
  clear c2
  replace H := Option.bind_eq_some_iff.mp H
  obtain ⟨⟨t197, t198, t199⟩, A50, H⟩ := H
  (try dsimp only at H)
  have A5 := qH A50
  clear A50
  replace H := Option.bind_eq_some_iff.mp H
  obtain ⟨⟨t204, t205, t206⟩, A60, H⟩ := H
  (try dsimp only at H)
  have A6 := qH A60
  clear A60
  have HC7 := qH H
  clear H
  go_enter Tryz.func4, Tryz.ntmps4
  go_upto_region 5 with (first | (go_at_call 16; (with_reducible refine (http_Path.calls a0 t197 t198 t199 _ A5.out (HL.later zz0)).mono ?_); rintro e w8 ⟨v200, v202, rfl, ho0, ho1, hb⟩; have n0_ := qH (Kd.R_lower ho0 (below_size zz0)); have n1_ := qH (Kd.R_lower ho1 (below_size zz0)); have n2_ := qH (below_step zz0 hb); clear HB; have HO201 := n0_; have HO203 := n1_; have HB := n2_; clear n0_ n1_ n2_; (try clear hb); (try clear hb2); (try clear hk); (try clear hi); (try clear ho0); (try clear ho1)) | (go_at_call 17; (with_reducible refine (codicilref29_Path.calls k a0 t204 t205 t206 _ A6.out).mono ?_); rintro e w9 ⟨v207, v209, rfl, ho0, ho1, hb⟩; have n0_ := qH (Kd.R_elder' zz13 (Kd.R_base ho0) hb); have n1_ := qH (Kd.R_elder' zz14 (Kd.R_base ho1) hb); have n2_ := qH (Kd.R_lower (Kd.R_new' ho0 (Kd.R_lt zz13)) (below_size zz0)); have n3_ := qH (Kd.R_lower (Kd.R_new' ho1 (Kd.R_lt zz14)) (below_size zz0)); have n4_ := qH (below_step zz0 hb); clear HO201; clear HO203; clear HB; have HO201 := n0_; have HO203 := n1_; have HO208 := n2_; have HO210 := n3_; have HB := n4_; clear n0_ n1_ n2_ n3_ n4_; (try clear hb); (try clear hb2); (try clear hk); (try clear hi); (try clear ho0); (try clear ho1)))
  repeat (go_quiet (first | (go_at_call 16; (with_reducible refine (http_Path.calls a0 t197 t198 t199 _ A5.out (HL.later zz0)).mono ?_); rintro e w8 ⟨v200, v202, rfl, ho0, ho1, hb⟩; have n0_ := qH (Kd.R_lower ho0 (below_size zz0)); have n1_ := qH (Kd.R_lower ho1 (below_size zz0)); have n2_ := qH (below_step zz0 hb); clear HB; have HO201 := n0_; have HO203 := n1_; have HB := n2_; clear n0_ n1_ n2_; (try clear hb); (try clear hb2); (try clear hk); (try clear hi); (try clear ho0); (try clear ho1)) | (go_at_call 17; (with_reducible refine (codicilref29_Path.calls k a0 t204 t205 t206 _ A6.out).mono ?_); rintro e w9 ⟨v207, v209, rfl, ho0, ho1, hb⟩; have n0_ := qH (Kd.R_elder' zz13 (Kd.R_base ho0) hb); have n1_ := qH (Kd.R_elder' zz14 (Kd.R_base ho1) hb); have n2_ := qH (Kd.R_lower (Kd.R_new' ho0 (Kd.R_lt zz13)) (below_size zz0)); have n3_ := qH (Kd.R_lower (Kd.R_new' ho1 (Kd.R_lt zz14)) (below_size zz0)); have n4_ := qH (below_step zz0 hb); clear HO201; clear HO203; clear HB; have HO201 := n0_; have HO203 := n1_; have HO208 := n2_; have HO210 := n3_; have HB := n4_; clear n0_ n1_ n2_ n3_ n4_; (try clear hb); (try clear hb2); (try clear hk); (try clear hi); (try clear ho0); (try clear ho1))); go_upto_region 5 with (first | (go_at_call 16; (with_reducible refine (http_Path.calls a0 t197 t198 t199 _ A5.out (HL.later zz0)).mono ?_); rintro e w8 ⟨v200, v202, rfl, ho0, ho1, hb⟩; have n0_ := qH (Kd.R_lower ho0 (below_size zz0)); have n1_ := qH (Kd.R_lower ho1 (below_size zz0)); have n2_ := qH (below_step zz0 hb); clear HB; have HO201 := n0_; have HO203 := n1_; have HB := n2_; clear n0_ n1_ n2_; (try clear hb); (try clear hb2); (try clear hk); (try clear hi); (try clear ho0); (try clear ho1)) | (go_at_call 17; (with_reducible refine (codicilref29_Path.calls k a0 t204 t205 t206 _ A6.out).mono ?_); rintro e w9 ⟨v207, v209, rfl, ho0, ho1, hb⟩; have n0_ := qH (Kd.R_elder' zz13 (Kd.R_base ho0) hb); have n1_ := qH (Kd.R_elder' zz14 (Kd.R_base ho1) hb); have n2_ := qH (Kd.R_lower (Kd.R_new' ho0 (Kd.R_lt zz13)) (below_size zz0)); have n3_ := qH (Kd.R_lower (Kd.R_new' ho1 (Kd.R_lt zz14)) (below_size zz0)); have n4_ := qH (below_step zz0 hb); clear HO201; clear HO203; clear HB; have HO201 := n0_; have HO203 := n1_; have HO208 := n2_; have HO210 := n3_; have HB := n4_; clear n0_ n1_ n2_ n3_ n4_; (try clear hb); (try clear hb2); (try clear hk); (try clear hi); (try clear ho0); (try clear ho1))))
  (try simp only [Act.put, List.setIfInBounds_toArray, List.set_cons_zero, List.set_cons_succ])
  go_cut [41] (fun v41 wc => ∃ (kq : Nat) (x41_6 : Bool), v41 = .bool x41_6 ∧ Aside0 (codicillaw29_HttpPaths.j0 kq t197 t204 x41_6 = some r) ∧ Aside0 (kq ≤ k) ∧ Aside0 (Kd.R Kd.string 9 wc w.heap.size (fun k_ => some k_ ≠ (v207 : Value).ownBlock) v200 t197) ∧ Aside0 (Kd.R Kd.string 9 wc w.heap.size (fun k_ => some k_ ≠ (v200 : Value).ownBlock) v207 t204) ∧ Aside0 (Below w.heap.size w wc))
  case first =>
   have H := HC7.out
   clear HC7
   by_cases c10 : (t197.length : Int) = (t204.length : Int)
   ·rw [if_pos c10] at H
    have c10b0 : ((t197.length : Int) == (t204.length : Int)) = true := beq_iff_eq.mpr c10
    have c10b1 : ((t197.length : Int) != (t204.length : Int)) = false := bne_eq_false_iff_eq.mpr c10
    have c10b2 : (t197.length == t204.length) = true := by first | simpa using c10 | (simp at c10 ⊢; omega)
    clear c10
    (first | rw [c10b0] | (simp only [i64_w, i32_w]; rw [c10b0]) | skip)
    by_cases c11 : t199 = t206
    ·rw [if_pos c11] at H
     have c11b0 : (t199 == t206) = true := beq_iff_eq.mpr c11
     have c11b1 : (t199 != t206) = false := bne_eq_false_iff_eq.mpr c11
     clear c11
     replace H := Option.bind_eq_some_iff.mp H
     obtain ⟨t211, A120, H⟩ := H
     (try dsimp only at H)
     have A12 := qH A120
     clear A120
     have H' := qH H
     clear H
     obtain ⟨Ao13, co13, eo13⟩ := Kd.R_slice HO201.out
     subst eo13
     obtain ⟨Ao14, co14, eo14⟩ := Kd.R_slice HO208.out
     subst eo14
     obtain ⟨Ao15, co15, eo15⟩ := Kd.R_slice HO203.out
     subst eo15
     obtain ⟨Ao16, co16, eo16⟩ := Kd.R_slice HO210.out
     subst eo16
     go_wp2_with (first | (go_at_call 18; (with_reducible refine (codicillaw29_heads.calls k _ _ t198 _ _ t205 t211 _ ?side1 ?side2 ?side3 ?side4 A12.out).mono ?_); (case side1 => repeat (first | exact (Kd.R_reads' HO203.out).2.2 | (with_reducible refine Kd.C_alloc ?_ _) | (with_reducible refine Kd.C_drewN ?_ _) | (with_reducible refine Kd.C_drew ?_))); (case side2 => exact (Kd.R_reads' HO203.out).2.1); (case side3 => repeat (first | exact (Kd.R_reads' HO210.out).2.2 | (with_reducible refine Kd.C_alloc ?_ _) | (with_reducible refine Kd.C_drewN ?_ _) | (with_reducible refine Kd.C_drew ?_))); (case side4 => exact (Kd.R_reads' HO210.out).2.1); rintro e w' ⟨rfl, ⟨nd, rfl⟩⟩; (try first | exact ⟨rfl, _, World.drewN_drewN _ _ _⟩ | exact ⟨rfl, _, Eq.trans (World.drewN_drewN _ _ _) (congrArg (World.drewN _) (Nat.add_assoc _ _ _))⟩)))
     repeat (go_quiet (first | (go_at_call 18; (with_reducible refine (codicillaw29_heads.calls k _ _ t198 _ _ t205 t211 _ ?side1 ?side2 ?side3 ?side4 A12.out).mono ?_); (case side1 => repeat (first | exact (Kd.R_reads' HO203.out).2.2 | (with_reducible refine Kd.C_alloc ?_ _) | (with_reducible refine Kd.C_drewN ?_ _) | (with_reducible refine Kd.C_drew ?_))); (case side2 => exact (Kd.R_reads' HO203.out).2.1); (case side3 => repeat (first | exact (Kd.R_reads' HO210.out).2.2 | (with_reducible refine Kd.C_alloc ?_ _) | (with_reducible refine Kd.C_drewN ?_ _) | (with_reducible refine Kd.C_drew ?_))); (case side4 => exact (Kd.R_reads' HO210.out).2.1); rintro e w' ⟨rfl, ⟨nd, rfl⟩⟩; (try first | exact ⟨rfl, _, World.drewN_drewN _ _ _⟩ | exact ⟨rfl, _, Eq.trans (World.drewN_drewN _ _ _) (congrArg (World.drewN _) (Nat.add_assoc _ _ _))⟩))); try go_wp2_with (first | (go_at_call 18; (with_reducible refine (codicillaw29_heads.calls k _ _ t198 _ _ t205 t211 _ ?side1 ?side2 ?side3 ?side4 A12.out).mono ?_); (case side1 => repeat (first | exact (Kd.R_reads' HO203.out).2.2 | (with_reducible refine Kd.C_alloc ?_ _) | (with_reducible refine Kd.C_drewN ?_ _) | (with_reducible refine Kd.C_drew ?_))); (case side2 => exact (Kd.R_reads' HO203.out).2.1); (case side3 => repeat (first | exact (Kd.R_reads' HO210.out).2.2 | (with_reducible refine Kd.C_alloc ?_ _) | (with_reducible refine Kd.C_drewN ?_ _) | (with_reducible refine Kd.C_drew ?_))); (case side4 => exact (Kd.R_reads' HO210.out).2.1); rintro e w' ⟨rfl, ⟨nd, rfl⟩⟩; (try first | exact ⟨rfl, _, World.drewN_drewN _ _ _⟩ | exact ⟨rfl, _, Eq.trans (World.drewN_drewN _ _ _) (congrArg (World.drewN _) (Nat.add_assoc _ _ _))⟩))))
     go_meet
     case rel => exact ⟨_, (!t211), zz3, H', ⟨by first | omega | exact Nat.le_refl _⟩, ⟨by (with_reducible repeat (first | apply Kd.R_alloc | apply Kd.R_drewN | apply Kd.R_drew)); exact Kd.R_mono HO201.out (fun _ hk => hk.2)⟩, ⟨by (with_reducible repeat (first | apply Kd.R_alloc | apply Kd.R_drewN | apply Kd.R_drew)); exact Kd.R_mono HO208.out (fun _ hk => hk.2)⟩, ⟨by repeat (first | (with_reducible first | exact HB.out | apply qL | apply qJ | apply qK) | exact HB.out)⟩⟩
    ·rw [if_neg c11] at H
     have c11b0 : (t199 == t206) = false := beq_eq_false_iff_ne.mpr c11
     have c11b1 : (t199 != t206) = true := bne_iff_ne.mpr c11
     have H' := qH H
     clear H
     obtain ⟨Ao17, co17, eo17⟩ := Kd.R_slice HO201.out
     subst eo17
     obtain ⟨Ao18, co18, eo18⟩ := Kd.R_slice HO208.out
     subst eo18
     go_wp2
     repeat (go_quiet (fail); try go_wp2)
     go_meet
     case rel => exact ⟨_, (true), zz3, H', ⟨by first | omega | exact Nat.le_refl _⟩, ⟨by (with_reducible repeat (first | apply Kd.R_alloc | apply Kd.R_drewN | apply Kd.R_drew)); exact Kd.R_mono HO201.out (fun _ hk => hk.2)⟩, ⟨by (with_reducible repeat (first | apply Kd.R_alloc | apply Kd.R_drewN | apply Kd.R_drew)); exact Kd.R_mono HO208.out (fun _ hk => hk.2)⟩, ⟨by repeat (first | (with_reducible first | exact HB.out | apply qL | apply qJ | apply qK) | exact HB.out)⟩⟩
   ·rw [if_neg c10] at H
    have c10b0 : ((t197.length : Int) == (t204.length : Int)) = false := beq_eq_false_iff_ne.mpr c10
    have c10b1 : ((t197.length : Int) != (t204.length : Int)) = true := bne_iff_ne.mpr c10
    have c10b2 : (t197.length == t204.length) = false := by first | simpa using c10 | (simp at c10 ⊢; omega)
    (first | rw [c10b0] | (simp only [i64_w, i32_w]; rw [c10b0]) | skip)
    have H' := qH H
    clear H
    obtain ⟨Ao19, co19, eo19⟩ := Kd.R_slice HO201.out
    subst eo19
    obtain ⟨Ao20, co20, eo20⟩ := Kd.R_slice HO208.out
    subst eo20
    go_wp2
    repeat (go_quiet (fail); try go_wp2)
    go_meet
    case rel => exact ⟨_, (true), zz3, H', ⟨by first | omega | exact Nat.le_refl _⟩, ⟨by (with_reducible repeat (first | apply Kd.R_alloc | apply Kd.R_drewN | apply Kd.R_drew)); exact Kd.R_mono HO201.out (fun _ hk => hk.2)⟩, ⟨by (with_reducible repeat (first | apply Kd.R_alloc | apply Kd.R_drewN | apply Kd.R_drew)); exact Kd.R_mono HO208.out (fun _ hk => hk.2)⟩, ⟨by repeat (first | (with_reducible first | exact HB.out | apply qL | apply qJ | apply qK) | exact HB.out)⟩⟩
  case rest =>
   clear HC7
   try clear c1
   try clear c2
   try clear c2b0
   try clear c2b1
   try clear p2
   try clear c4
   try clear c10
   try clear c10b0
   try clear c10b1
   try clear c10b2
   try clear c11
   try clear c11b0
   try clear c11b1
   obtain ⟨kq, x41_6, rfl, HA, HJ6, HO_3, HO_6, HB⟩ := hcut
   cases kq with
   | zero => exact absurd HA.out (by simp [codicillaw29_HttpPaths.j0])
   | succ kj6 =>
    have H := HA.out
    clear HA
    simp only [codicillaw29_HttpPaths.j0] at H
    by_cases c21 : x41_6 = true
    ·subst c21
     have H1 : (some false) = some r := by rw [if_pos rfl] at H; exact H
     clear H
     have H := H1
     clear H1
     obtain rfl := Option.some.inj H
     exact absurd hTrue.out (by decide)
    ·replace c21 := Bool.eq_false_iff.mpr c21
     subst c21
     have H1 : (codicillaw29_HttpPaths.l0 kj6 t197 t204 0) = some r := by rw [if_neg (show ¬ (false = true) by decide)] at H; exact H
     clear H
     have H := H1
     clear H1
     have H' := qH H
     clear H
     go_wp2
     repeat (go_quiet (fail); try go_wp2)
     go_loopg [9] kj6 (fun kq v9 w' => ∃ (x9_2 : Int), v9 = .int .i64 x9_2 ∧ Aside0 (codicillaw29_HttpPaths.l0 kq t197 t204 x9_2 = some r) ∧ Aside0 (kq ≤ kj6) ∧ Aside0 (Kd.R Kd.string 9 w' w.heap.size (fun k_ => some k_ ≠ (v207 : Value).ownBlock) v200 t197) ∧ Aside0 (Kd.R Kd.string 9 w' w.heap.size (fun k_ => some k_ ≠ (v200 : Value).ownBlock) v207 t204) ∧ Aside0 (Below w.heap.size w w'))
     case atStart => exact ⟨(0), zz3, H', ⟨Nat.le_refl _⟩, ⟨by (with_reducible repeat (first | apply Kd.R_alloc | apply Kd.R_drewN | apply Kd.R_drew)); exact HO_3.out⟩, ⟨by (with_reducible repeat (first | apply Kd.R_alloc | apply Kd.R_drewN | apply Kd.R_drew)); exact HO_6.out⟩, ⟨by repeat (first | (with_reducible first | exact HB.out | apply qL | apply qJ | apply qK) | exact HB.out)⟩⟩
     case round =>
      clear H'
      try clear c1
      try clear c2
      try clear c2b0
      try clear c2b1
      try clear p2
      try clear c4
      try clear c10
      try clear c10b0
      try clear c10b1
      try clear c10b2
      try clear c11
      try clear c11b0
      try clear c11b1
      try clear c21
      try clear p2
      obtain ⟨x9_2, rfl, HA, HK2, HO_3, HO_6, HB⟩ := hrel
      cases gk with
      | zero => exact absurd HA.out (by simp [codicillaw29_HttpPaths.l0])
      | succ k2 =>
       have H := HA.out
       clear HA
       simp only [codicillaw29_HttpPaths.l0] at H
       by_cases c22 : x9_2 < (t197.length : Int)
       ·rw [if_pos c22] at H
        have c22b0 : decide (x9_2 < (t197.length : Int)) = true := decide_eq_true c22
        clear c22
        by_cases c23 : 0 ≤ x9_2
        ·rw [if_pos c23] at H
         have c23b0 : decide (0 ≤ x9_2) = true := decide_eq_true c23
         clear c23
         by_cases c24 : x9_2 < (t204.length : Int)
         ·rw [if_pos c24] at H
          have c24b0 : decide (x9_2 < (t204.length : Int)) = true := decide_eq_true c24
          clear c24
          by_cases c25 : (rdOf ByteArray.empty t197 x9_2).toList = (rdOf ByteArray.empty t204 x9_2).toList
          ·rw [if_pos c25] at H
           have c25b0 : ((rdOf ByteArray.empty t197 x9_2).toList == (rdOf ByteArray.empty t204 x9_2).toList) = true := beq_iff_eq.mpr c25
           have c25b1 : ((rdOf ByteArray.empty t197 x9_2).toList != (rdOf ByteArray.empty t204 x9_2).toList) = false := bne_eq_false_iff_eq.mpr c25
           clear c25
           have H' := qH H
           clear H
           obtain ⟨Ao26, co26, eo26⟩ := Kd.R_slice HO_3.out
           subst eo26
           have p212 : 0 ≤ (x9_2 : Int) := of_decide_eq_true zz2
           have q212 : x9_2 < (t197.length : Int) := of_decide_eq_true zz2
           obtain ⟨ad212, e212, hx212_0⟩ := Kd.at_string (Kd.R_reads' HO_3.out).2.2 x9_2 p212 q212
           cases e212
           replace p212 := eq_true p212
           replace q212 := eq_true q212
           obtain ⟨Ao27, co27, eo27⟩ := Kd.R_slice HO_6.out
           subst eo27
           have p213 : 0 ≤ (x9_2 : Int) := of_decide_eq_true zz2
           have q213 : x9_2 < (t204.length : Int) := of_decide_eq_true zz2
           obtain ⟨ad213, e213, hx213_0⟩ := Kd.at_string (Kd.R_reads' HO_6.out).2.2 x9_2 p213 q213
           cases e213
           replace p213 := eq_true p213
           replace q213 := eq_true q213
           go_wp2
           repeat (go_quiet (fail); try go_wp2)
           go_roundg k2
           case measure => have := HJ6.out; have := HK2.out; omega
           case rel => exact ⟨(wrap64 (x9_2 + 1)), zz3, H', ⟨by have := HJ6.out; have := HK2.out; omega⟩, ⟨by (with_reducible repeat (first | apply Kd.R_alloc | apply Kd.R_drewN | apply Kd.R_drew)); exact HO_3.out⟩, ⟨by (with_reducible repeat (first | apply Kd.R_alloc | apply Kd.R_drewN | apply Kd.R_drew)); exact HO_6.out⟩, ⟨by repeat (first | (with_reducible first | exact HB.out | apply qL | apply qJ | apply qK) | exact HB.out)⟩⟩
          ·rw [if_neg c25] at H
           have c25b0 : ((rdOf ByteArray.empty t197 x9_2).toList == (rdOf ByteArray.empty t204 x9_2).toList) = false := beq_eq_false_iff_ne.mpr c25
           have c25b1 : ((rdOf ByteArray.empty t197 x9_2).toList != (rdOf ByteArray.empty t204 x9_2).toList) = true := bne_iff_ne.mpr c25
           obtain rfl := Option.some.inj H
           exact absurd hTrue.out (by decide)
         ·rw [if_neg c24] at H
          exact absurd H (by simp)
        ·rw [if_neg c23] at H
         exact absurd H (by simp)
       ·rw [if_neg c22] at H
        have c22b0 : decide (x9_2 < (t197.length : Int)) = false := decide_eq_false c22
        clear c22
        replace H := Option.bind_eq_some_iff.mp H
        obtain ⟨t214, A280, H⟩ := H
        (try dsimp only at H)
        have A28 := qH A280
        clear A280
        obtain rfl := Option.some.inj H
        simp only [Option.some.injEq, Prod.mk.injEq] at H
        obtain ⟨rfl⟩ := H
        obtain ⟨Ao29, co29, eo29⟩ := Kd.R_slice HO_3.out
        subst eo29
        go_wp2_with (first | (go_at_call 9; (with_reducible refine (codicillaw29_alive.calls k2  t214 _ A28.out (HL.later zz0)).mono ?_); rintro e w30 ⟨rfl, hb⟩; have n0_ := qH (Kd.R_below (by (with_reducible repeat (first | apply Kd.R_alloc | apply Kd.R_drewN | apply Kd.R_drew)); exact HO_3.out) hb); have n1_ := qH (Kd.R_below (by (with_reducible repeat (first | apply Kd.R_alloc | apply Kd.R_drewN | apply Kd.R_drew)); exact HO_6.out) hb); have n2_ := qH (below_step zz0 hb); clear HO_3; clear HO_6; clear HB; have HO_3 := n0_; have HO_6 := n1_; have HB := n2_; clear n0_ n1_ n2_; (try clear hb); (try clear hb2); (try clear hk); (try clear hi)))
        repeat (go_quiet (first | (go_at_call 9; (with_reducible refine (codicillaw29_alive.calls k2  t214 _ A28.out (HL.later zz0)).mono ?_); rintro e w30 ⟨rfl, hb⟩; have n0_ := qH (Kd.R_below (by (with_reducible repeat (first | apply Kd.R_alloc | apply Kd.R_drewN | apply Kd.R_drew)); exact HO_3.out) hb); have n1_ := qH (Kd.R_below (by (with_reducible repeat (first | apply Kd.R_alloc | apply Kd.R_drewN | apply Kd.R_drew)); exact HO_6.out) hb); have n2_ := qH (below_step zz0 hb); clear HO_3; clear HO_6; clear HB; have HO_3 := n0_; have HO_6 := n1_; have HB := n2_; clear n0_ n1_ n2_; (try clear hb); (try clear hb2); (try clear hk); (try clear hi))); try go_wp2_with (first | (go_at_call 9; (with_reducible refine (codicillaw29_alive.calls k2  t214 _ A28.out (HL.later zz0)).mono ?_); rintro e w30 ⟨rfl, hb⟩; have n0_ := qH (Kd.R_below (by (with_reducible repeat (first | apply Kd.R_alloc | apply Kd.R_drewN | apply Kd.R_drew)); exact HO_3.out) hb); have n1_ := qH (Kd.R_below (by (with_reducible repeat (first | apply Kd.R_alloc | apply Kd.R_drewN | apply Kd.R_drew)); exact HO_6.out) hb); have n2_ := qH (below_step zz0 hb); clear HO_3; clear HO_6; clear HB; have HO_3 := n0_; have HO_6 := n1_; have HB := n2_; clear n0_ n1_ n2_; (try clear hb); (try clear hb2); (try clear hk); (try clear hi))))
        go_ret
        exact ⟨by first | rfl | (simp [errW_none, errW_some] <;> rfl) | (simp [*, errW_none, errW_some] <;> rfl), by repeat (first | (with_reducible first | exact HB.out | apply qL | apply qJ | apply qK) | exact HB.out)⟩

/-- THE ONE PURE STATEMENT of codicillaw29_HttpPaths: yours. -/
def codicillaw29_HttpPaths.Pure : Prop := ∀ (a0 : ByteArray), a0.size ≤ 140737488351232 → ∃ k, codicillaw29_HttpPaths.f k a0 = some true

end Go.Proofs.YtddjhmelniphgaaGreatDoor.Print
