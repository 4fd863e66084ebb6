-- Written by wip/tools/xprint.py of this session's repo (the kit's print, run with external functions). Lean checks it.
import Derived.Test.YtddjhmelniphgaaGreatDoorHAm
import Derived.Test.YtddjhmelniphgaaGreatDoorPrint0
import Derived.Test.YtddjhmelniphgaaGreatDoorPrint1
import Derived.Test.YtddjhmelniphgaaGreatDoorPrint3
import Derived.Test.YtddjhmelniphgaaGreatDoorPrint4
import Derived.Test.YtddjhmelniphgaaGreatDoorPrint6
import Derived.Test.YtddjhmelniphgaaGreatDoorPrint7
import Derived.Test.YtddjhmelniphgaaGreatDoorHTSmall
namespace Go.Proofs.YtddjhmelniphgaaGreatDoor.Print
open Go.RowKit Go.Proofs.YtddjhmelniphgaaGreatDoorW.PrintWords Go.Proofs.YtddjhmelniphgaaGreatDoorW.PrintLast Go.Proofs.YtddjhmelniphgaaGreatDoorW.PrintMore
attribute [local go_sem] max2_int min2_int max_two min_two max_three min_three max_four min_four   -- for this text's walks alone
set_option linter.unusedVariables false
set_option linter.unusedSimpArgs false

attribute [local go_sem high] eqA59
/-! ### codicilref29_Read: function 11 -/
def codicilref29_Read.j0 : Nat → ByteArray → List (S59) → ByteArray → Int → Int → Int → ByteArray → ByteArray → Bool → Option (ByteArray × ByteArray × (List (S59)) × ByteArray × Int × Int)
 | 0, _, _, _, _, _, _, _, _, _ => none
 | k + 1, x0, x6, x7, x8, x9, x10, x11, x12, x37 => if x37 = true then (if 0 ≤ (wrap64 (x10 - 4)) then (if (wrap64 (x10 - 4)) ≤ (x0.size : Int) then ((codicilref29_lines.f k (x0.extract 0 ((wrap64 (x10 - 4)) : Int).toNat)).bind fun bt216 => (if 0 < (bt216.1.length : Int) then ((codicilref29_request.f k (rdOf ByteArray.empty bt216.1 0)).bind fun bt221 => (if bt221.2.2 = true then (if x9 = 0 then (some (x11, x12, x6, x7, x8, 0)) else (some ((⟨#[]⟩ : ByteArray), (⟨#[]⟩ : ByteArray), ([] : List (S59)), (⟨#[]⟩ : ByteArray), 0, x9))) else (some ((⟨#[]⟩ : ByteArray), (⟨#[]⟩ : ByteArray), ([] : List (S59)), (⟨#[]⟩ : ByteArray), 0, 291)))) else (none))) else (none)) else (none)) else (if x9 = 0 then (some (x11, x12, x6, x7, x8, 0)) else (some ((⟨#[]⟩ : ByteArray), (⟨#[]⟩ : ByteArray), ([] : List (S59)), (⟨#[]⟩ : ByteArray), 0, x9)))
def codicilref29_Read.f (k : Nat) (a0 : ByteArray) : Option (ByteArray × ByteArray × (List (S59)) × ByteArray × Int × Int) := (codicilref29_Head.f k a0).bind fun bt205 => ((codicilref29_end.f k a0).bind fun t212 => ((codicilref29_request.f k bt205.1).bind fun bt213 => (if t212 > 0 then (codicilref29_Read.j0 k a0 bt205.2.1 bt205.2.2.1 bt205.2.2.2.1 bt205.2.2.2.2 t212 bt213.1 bt213.2.1 (bt205.2.2.2.2 != 291)) else (codicilref29_Read.j0 k a0 bt205.2.1 bt205.2.2.1 bt205.2.2.2.1 bt205.2.2.2.2 t212 bt213.1 bt213.2.1 false))))
theorem codicilref29_Read.mono_l : ∀ k, (∀ y0 y1 y2 y3 y4 y5 y6 y7 y8, LeO (codicilref29_Read.j0 k y0 y1 y2 y3 y4 y5 y6 y7 y8) (codicilref29_Read.j0 (k + 1) y0 y1 y2 y3 y4 y5 y6 y7 y8))
 | 0 => fun _ _ _ _ _ _ _ _ _ r h => by simp [codicilref29_Read.j0] at h
 | k + 1 => by
  have ih0 := codicilref29_Read.mono_l k
  ·intro y0 y1 y2 y3 y4 y5 y6 y7 y8
   unfold codicilref29_Read.j0
   repeat' first
   | (with_reducible exact ih0 _ _ _ _ _ _ _ _ _)
   | (with_reducible exact codicilref29_Head.mono _ _)
   | (with_reducible exact codicilref29_end.mono _ _)
   | (with_reducible exact codicilref29_lines.mono _ _)
   | (with_reducible exact codicilref29_request.mono _ _)
   | (with_reducible exact LeO.refl _)
   | (with_reducible exact LeO.none _)
   | (with_reducible refine LeO.ite ?_ ?_)
   | (with_reducible refine LeO.bind ?_ (fun _ => ?_))
   | exact ih0 _ _ _ _ _ _ _ _ _
   | exact codicilref29_Head.mono _ _
   | exact codicilref29_end.mono _ _
   | exact codicilref29_lines.mono _ _
   | exact codicilref29_request.mono _ _
   | exact LeO.none _
   | refine LeO.ite ?_ ?_
   | refine LeO.bind ?_ (fun _ => ?_)
theorem codicilref29_Read.mono : ∀ a0 k, LeO (codicilref29_Read.f k a0) (codicilref29_Read.f (k + 1) a0) := by
 intro a0 k
 have ih0 := codicilref29_Read.mono_l k
 unfold codicilref29_Read.f
 repeat' first
   | (with_reducible exact ih0 _ _ _ _ _ _ _ _ _)
   | (with_reducible exact codicilref29_Head.mono _ _)
   | (with_reducible exact codicilref29_end.mono _ _)
   | (with_reducible exact codicilref29_lines.mono _ _)
   | (with_reducible exact codicilref29_request.mono _ _)
   | (with_reducible exact LeO.refl _)
   | (with_reducible exact LeO.none _)
   | (with_reducible refine LeO.ite ?_ ?_)
   | (with_reducible refine LeO.bind ?_ (fun _ => ?_))
   | exact ih0 _ _ _ _ _ _ _ _ _
   | exact codicilref29_Head.mono _ _
   | exact codicilref29_end.mono _ _
   | exact codicilref29_lines.mono _ _
   | exact codicilref29_request.mono _ _
   | exact LeO.none _
   | refine LeO.ite ?_ ?_
   | refine LeO.bind ?_ (fun _ => ?_)
set_option maxHeartbeats 8000000 in
set_option maxRecDepth 100000 in
theorem codicilref29_Read.calls (k : Nat) (a0 : ByteArray) (r1 : ByteArray) (r2 : ByteArray) (r3 : List (S59)) (r4 : ByteArray) (r5 : Int) (r6 : Int) (w : World) (h : codicilref29_Read.f k a0 = some (r1, r2, r3, r4, r5, r6)) :
  Calls Tryz.prog 11 #[.string a0] w fun e w' => ∃ v2_ : Value, e = .returned (.tuple #[.agg #[.string r1, .string r2, v2_, .string r4], .int .i64 r5, .int .i64 r6]) ∧ Kd.R k59 59 w' w.heap.size (fun _ => True) v2_ r3 ∧ Below w.heap.size w w' := by
 have hu25 := Tryz.underlying25
 have HB := qH (Below.refl w.heap.size w)
 have H : ((codicilref29_Head.f k a0).bind fun bt205 => ((codicilref29_end.f k a0).bind fun t212 => ((codicilref29_request.f k bt205.1).bind fun bt213 => (if t212 > 0 then (codicilref29_Read.j0 k a0 bt205.2.1 bt205.2.2.1 bt205.2.2.2.1 bt205.2.2.2.2 t212 bt213.1 bt213.2.1 (bt205.2.2.2.2 != 291)) else (codicilref29_Read.j0 k a0 bt205.2.1 bt205.2.2.1 bt205.2.2.2.1 bt205.2.2.2.2 t212 bt213.1 bt213.2.1 false))))) = some (r1, r2, r3, r4, r5, r6) := h
 clear h
 replace H := Option.bind_eq_some_iff.mp H
 obtain ⟨⟨t205, t206, t207, t208, t209⟩, A20, H⟩ := H
 (try dsimp only at H)
 have A2 := qH A20
 clear A20
 replace H := Option.bind_eq_some_iff.mp H
 obtain ⟨t212, A30, H⟩ := H
 (try dsimp only at H)
 have A3 := qH A30
 clear A30
 replace H := Option.bind_eq_some_iff.mp H
 obtain ⟨⟨t213, t214, t215⟩, A40, H⟩ := H
 (try dsimp only at H)
 have A4 := qH A40
 clear A40
 have HC5 := qH H
 clear H
 go_enter Tryz.func11, Tryz.ntmps11
 go_upto_region 4 with (first | ((with_reducible refine gate_dst (N := 2) rfl ?_); refine box_event ?hg (N := 2) ?hd (cs := #[.string (⟨#[]⟩ : ByteArray), .string (⟨#[]⟩ : ByteArray), .slice none 0 0, .string (⟨#[]⟩ : ByteArray)]) (t := 25) ?hr ?_; (case hd => rfl); (case hg => rfl); (case hr => first | (go_simp; done) | (go_simp; rfl) | (go_simp; simp [IntKind.wrap_u32]; done)); intro gb204 hg w6 hbox hb; have n0_ := qH (below_step zz2 hb); have n1_ := qH (hbox); have n2_ := qH ((by rw [hg]; exact (below_size zz2) : w.heap.size ≤ gb204)); have n3_ := n2_; clear HB; have HB := n0_; have BK204 := n1_; have GW204 := n2_; have GE204 := n3_; clear n0_ n1_ n2_ n3_; clear hb hbox hg) | ((with_reducible refine gate_callee (f := 33) rfl ?_); refine goesL_ (some 18) rfl rfl Tryz.func33 (by kernel_rfl) rfl #[.string a0] rfl zz4 ?_; (with_reducible refine (codicilref29_Head.calls k a0 t205 t206 t207 t208 t209 _ A2.out).mono ?_); rintro e w7 ⟨v210, rfl, ho0, hb⟩; refine ⟨_, rfl, ?_⟩; have n0_ := qH (Kd.R_lower ho0 (below_size zz23)); have n1_ := qH (qD (g := gb204) (o := .cells #[.string (⟨#[]⟩ : ByteArray), .string (⟨#[]⟩ : ByteArray), .slice none 0 0, .string (⟨#[]⟩ : ByteArray)] 25 (0, 0)) zz61 hb); have n2_ := qH (below_step zz23 hb); clear BK204; clear HB; have HO211 := n0_; have BK204 := n1_; have HB := n2_; clear n0_ n1_ n2_; (try clear hb); (try clear hb2); (try clear hk); (try clear hi); (try clear ho0)) | ((with_reducible refine gate_callee (f := 34) rfl ?_); refine goesL_ (some 25) rfl rfl Tryz.func34 (by kernel_rfl) rfl #[.string a0] rfl zz4 ?_; (with_reducible refine (codicilref29_end.calls k a0 t212 _ A3.out).mono ?_); rintro e w' ⟨rfl, ⟨nd, rfl⟩⟩; refine ⟨_, rfl, ?_⟩) | ((with_reducible refine gate_callee (f := 35) rfl ?_); refine goesL_ (some 28) rfl rfl Tryz.func35 (by kernel_rfl) rfl #[.string t205] rfl zz4 ?_; (with_reducible refine (codicilref29_request.calls k t205 t213 t214 t215 _ A4.out).mono ?_); rintro e w' ⟨rfl, ⟨nd, rfl⟩⟩; refine ⟨_, rfl, ?_⟩))
 (try simp only [Act.put, List.setIfInBounds_toArray, List.set_cons_zero, List.set_cons_succ])
 go_cut [37] (fun v37 wc => ∃ (kq : Nat) (x37_4 : Bool), v37 = .bool x37_4 ∧ Aside0 (codicilref29_Read.j0 kq a0 t206 t207 t208 t209 t212 t213 t214 x37_4 = some (r1, r2, r3, r4, r5, r6)) ∧ Aside0 (kq ≤ k) ∧ Aside0 (Kd.R k59 59 wc w.heap.size (fun _ => True) v210 t206) ∧ Aside0 (wc.heap[gb204]? = some (.cells #[.string (⟨#[]⟩ : ByteArray), .string (⟨#[]⟩ : ByteArray), (.slice none 0 0), .string (⟨#[]⟩ : ByteArray)] 25 (0, 0))) ∧ Aside0 (Below w.heap.size w wc))
 case first =>
  have H := HC5.out
  clear HC5
  by_cases c8 : t212 > 0
  ·rw [if_pos c8] at H
   have c8b0 : decide (0 < t212) = true := decide_eq_true c8
   clear c8
   (first | rw [c8b0] | (simp only [i64_w, i32_w]; rw [c8b0]) | skip)
   have H' := qH H
   clear H
   go_wp2
   go_meet
   case rel => exact ⟨_, ((t209 != 291)), zz3, H', ⟨by first | omega | exact Nat.le_refl _⟩, ⟨by (with_reducible repeat (first | apply Kd.R_alloc | apply Kd.R_drewN | apply Kd.R_drew)); exact HO211.out⟩, ⟨by (with_reducible repeat first | apply qA | apply qC | apply qB); exact BK204.out⟩, ⟨by repeat (first | (with_reducible first | exact HB.out | apply qL | apply qJ | apply qK | refine qI ?_ GE204.out) | exact HB.out)⟩⟩
  ·rw [if_neg c8] at H
   have c8b0 : decide (0 < t212) = false := decide_eq_false c8
   clear c8
   (first | rw [c8b0] | (simp only [i64_w, i32_w]; rw [c8b0]) | skip)
   have H' := qH H
   clear H
   go_wp2
   go_meet
   case rel => exact ⟨_, (false), zz3, H', ⟨by first | omega | exact Nat.le_refl _⟩, ⟨by (with_reducible repeat (first | apply Kd.R_alloc | apply Kd.R_drewN | apply Kd.R_drew)); exact HO211.out⟩, ⟨by (with_reducible repeat first | apply qA | apply qC | apply qB); exact BK204.out⟩, ⟨by repeat (first | (with_reducible first | exact HB.out | apply qL | apply qJ | apply qK | refine qI ?_ GE204.out) | exact HB.out)⟩⟩
 case rest =>
  clear HC5
  try clear c1
  try clear p2
  try clear c3
  try clear c8
  try clear c8b0
  obtain ⟨kq, x37_4, rfl, HA, HJ4, HO_6, BK204, HB⟩ := hcut
  cases kq with
  | zero => exact absurd HA.out (by simp [codicilref29_Read.j0])
  | succ kj4 =>
   have H := HA.out
   clear HA
   simp only [codicilref29_Read.j0] at H
   by_cases c9 : x37_4 = true
   ·subst c9
    have H1 : (if 0 ≤ (wrap64 (t212 - 4)) then (if (wrap64 (t212 - 4)) ≤ (a0.size : Int) then ((codicilref29_lines.f kj4 (a0.extract 0 ((wrap64 (t212 - 4)) : Int).toNat)).bind fun bt216 => (if 0 < (bt216.1.length : Int) then ((codicilref29_request.f kj4 (rdOf ByteArray.empty bt216.1 0)).bind fun bt221 => (if bt221.2.2 = true then (if t209 = 0 then (some (t213, t214, t206, t207, t208, 0)) else (some ((⟨#[]⟩ : ByteArray), (⟨#[]⟩ : ByteArray), ([] : List (S59)), (⟨#[]⟩ : ByteArray), 0, t209))) else (some ((⟨#[]⟩ : ByteArray), (⟨#[]⟩ : ByteArray), ([] : List (S59)), (⟨#[]⟩ : ByteArray), 0, 291)))) else (none))) else (none)) else (none)) = some (r1, r2, r3, r4, r5, r6) := by rw [if_pos rfl] at H; exact H
    clear H
    have H := H1
    clear H1
    obtain ⟨ji10, hji10⟩ : ∃ j_ : Int, (wrap64 (t212 - 4)) = j_ := ⟨_, rfl⟩
    replace H : (if 0 ≤ (ji10) then (if (ji10) ≤ (a0.size : Int) then ((codicilref29_lines.f kj4 (a0.extract 0 ((ji10) : Int).toNat)).bind fun bt216 => (if 0 < (bt216.1.length : Int) then ((codicilref29_request.f kj4 (rdOf ByteArray.empty bt216.1 0)).bind fun bt221 => (if bt221.2.2 = true then (if t209 = 0 then (some (t213, t214, t206, t207, t208, 0)) else (some ((⟨#[]⟩ : ByteArray), (⟨#[]⟩ : ByteArray), ([] : List (S59)), (⟨#[]⟩ : ByteArray), 0, t209))) else (some ((⟨#[]⟩ : ByteArray), (⟨#[]⟩ : ByteArray), ([] : List (S59)), (⟨#[]⟩ : ByteArray), 0, 291)))) else (none))) else (none)) else (none)) = some (r1, r2, r3, r4, r5, r6) := by first | (rw [hji10] at H; exact H) | (simp only [hji10] at H ⊢; exact H)
    have hji10w : (IntKind.i64.wrap (t212 - 4)) = ji10 := (i64_w _).trans hji10
    by_cases c11 : 0 ≤ (ji10)
    ·rw [if_pos c11] at H
     have c11b0 := eq_true c11
     have c11b1 : decide (0 ≤ (ji10)) = true := decide_eq_true c11
     clear c11
     by_cases c12 : (ji10) ≤ (a0.size : Int)
     ·rw [if_pos c12] at H
      have c12b0 := eq_true c12
      have c12b1 : decide ((ji10) ≤ (a0.size : Int)) = true := decide_eq_true c12
      clear c12
      replace H := Option.bind_eq_some_iff.mp H
      obtain ⟨⟨t216, t217⟩, A130, H⟩ := H
      (try dsimp only at H)
      have A13 := qH A130
      clear A130
      by_cases c14 : 0 < (t216.length : Int)
      ·rw [if_pos c14] at H
       have c14b0 : decide (0 < (t216.length : Int)) = true := decide_eq_true c14
       have c14b1 : decide (0 < t216.length) = true := decide_eq_true zz42
       clear c14
       replace H := Option.bind_eq_some_iff.mp H
       obtain ⟨⟨t221, t222, t223⟩, A150, H⟩ := H
       (try dsimp only at H)
       have A15 := qH A150
       clear A150
       by_cases c16 : t223 = true
       ·subst c16
        have H1 : (if t209 = 0 then (some (t213, t214, t206, t207, t208, 0)) else (some ((⟨#[]⟩ : ByteArray), (⟨#[]⟩ : ByteArray), ([] : List (S59)), (⟨#[]⟩ : ByteArray), 0, t209))) = some (r1, r2, r3, r4, r5, r6) := by rw [if_pos rfl] at H; exact H
        clear H
        have H := H1
        clear H1
        by_cases c17 : t209 = 0
        ·rw [if_pos c17] at H
         have c17b0 : (t209 == 0) = true := beq_iff_eq.mpr c17
         have c17b1 : (t209 != 0) = false := bne_eq_false_iff_eq.mpr c17
         clear c17
         simp only [Option.some.injEq, Prod.mk.injEq] at H
         obtain ⟨rfl, rfl, rfl, rfl, rfl, rfl⟩ := H
         go_wp2_with (first | ((with_reducible refine gate_callee (f := 36) rfl ?_); refine goesL_ (some 43) rfl rfl Tryz.func36 (by kernel_rfl) rfl #[.string (a0.extract 0 ((ji10) : Int).toNat)] rfl zz70 ?_; (with_reducible refine (codicilref29_lines.calls kj4 (a0.extract 0 ((ji10) : Int).toNat) t216 t217 _ A13.out).mono ?_); rintro e w18 ⟨v218, rfl, ho0, hb⟩; refine ⟨_, rfl, ?_⟩; have n0_ := qH (Kd.R_below zz54 hb); have n1_ := qH (Kd.R_lower ho0 (below_size zz23)); have n2_ := qH (qD (g := gb204) (o := .cells #[.string (⟨#[]⟩ : ByteArray), .string (⟨#[]⟩ : ByteArray), .slice none 0 0, .string (⟨#[]⟩ : ByteArray)] 25 (0, 0)) zz61 hb); have n3_ := qH (below_step zz23 hb); clear HO_6; clear BK204; clear HB; have HO_6 := n0_; have HO219 := n1_; have BK204 := n2_; have HB := n3_; clear n0_ n1_ n2_ n3_; (try clear hb); (try clear hb2); (try clear hk); (try clear hi); (try clear ho0); obtain ⟨Ao19, co19, eo19⟩ := Kd.R_slice HO219.out; subst eo19; have p220 : 0 ≤ (0 : Int) := zz42; have q220 : 0 < (t216.length : Int) := of_decide_eq_true zz0; obtain ⟨ad220, e220, hx220_0⟩ := Kd.at_string (Kd.R_reads' HO219.out).2.2 0 p220 q220; cases e220; have qi220 : (0 < t216.length) = True := eq_true zz42; (try rw [show ((0 : Int)).toNat = 0 from rfl] at hx220_0); (try rw [Addr.add_zero'] at hx220_0); replace p220 := eq_true p220; replace q220 := eq_true q220) | ((with_reducible refine gate_callee (f := 35) rfl ?_); refine goesL_ (some 50) rfl rfl Tryz.func35 (by kernel_rfl) rfl #[.string (rdOf ByteArray.empty t216 0)] rfl zz4 ?_; (with_reducible refine (codicilref29_request.calls kj4 (rdOf ByteArray.empty t216 0) t221 t222 true _ A15.out).mono ?_); rintro e w' ⟨rfl, ⟨nd, rfl⟩⟩; refine ⟨_, rfl, ?_⟩; (try (rw [drewN_self w18]; generalize hq_ : World.drewN w18 _ = w18; have n0_ : Aside0 (Kd.R Kd.string 9 w18 w.heap.size (fun _ => True) (.slice (some ad220) t216.length co19) t216) := ⟨by rw [← hq_]; exact zz78⟩; have n1_ : Aside0 (Kd.R k59 59 w18 w.heap.size (fun _ => True) v210 t206) := ⟨by rw [← hq_]; exact zz54⟩; have n2_ : Aside0 (w18.heap[gb204]? = some (.cells #[.string (⟨#[]⟩ : ByteArray), .string (⟨#[]⟩ : ByteArray), .slice none 0 0, .string (⟨#[]⟩ : ByteArray)] 25 (0, 0))) := ⟨by rw [← hq_]; exact zz61⟩; have n3_ : Aside0 (Below w.heap.size w w18) := ⟨by rw [← hq_]; exact zz23⟩; clear HO219 HO_6 BK204 HB hq_; have HO219 := n0_; have HO_6 := n1_; have BK204 := n2_; have HB := n3_; clear n0_ n1_ n2_ n3_)); obtain ⟨Ao20, co20, eo20⟩ := Kd.R_slice HO_6.out; subst eo20; obtain ⟨hcz21_0, hcz21_1, hcz21_2, hcz21_3⟩ := qc4 BK204.out; obtain ⟨hfz21_0, hfz21_1, hfz21_2, hfz21_3⟩ := qf4 BK204.out))
         refine bodyPost_ret (results_ctt rfl _ _ gb204 25 #[.string t213, .string t214, .slice Ao20 t206.length co20, .string t207] (0, 0) _ rfl (by (with_reducible repeat first | apply qA | apply qC | apply qB); refine blk_put (cs := #[.string t213, .string t214, .slice Ao20 t206.length co20, .string (⟨#[]⟩ : ByteArray)]) ?_ 3 _ rfl; (with_reducible repeat first | apply qA | apply qC | apply qB); refine blk_put (cs := #[.string t213, .string t214, .slice none 0 0, .string (⟨#[]⟩ : ByteArray)]) ?_ 2 _ rfl; (with_reducible repeat first | apply qA | apply qC | apply qB); refine blk_put (cs := #[.string t213, .string (⟨#[]⟩ : ByteArray), .slice none 0 0, .string (⟨#[]⟩ : ByteArray)]) ?_ 1 _ rfl; (with_reducible repeat first | apply qA | apply qC | apply qB); refine blk_put (cs := #[.string (⟨#[]⟩ : ByteArray), .string (⟨#[]⟩ : ByteArray), .slice none 0 0, .string (⟨#[]⟩ : ByteArray)]) ?_ 0 _ rfl; (with_reducible repeat first | apply qA | apply qC | apply qB); exact BK204.out) Tryz.underlying25 rfl (by kernel_rfl)) rfl ?_
         exact ⟨_, by first | rfl | (simp [errW_none, errW_some] <;> rfl) | (simp only [← hji10]; first | rfl | (simp [errW_none, errW_some] <;> rfl)) | (simp [*, errW_none, errW_some] <;> rfl), by (with_reducible repeat (first | apply Kd.R_alloc | apply Kd.R_drewN | apply Kd.R_drew)); exact Kd.R_mono (Kd.R_far (p := ⟨gb204, 3, none⟩) (Kd.R_far (p := ⟨gb204, 2, none⟩) (Kd.R_far (p := ⟨gb204, 1, none⟩) (Kd.R_far (p := ⟨gb204, 0, none⟩) (Kd.R_types HO_6.out BK204.out zz73) (fun _ hk => hk.2) (.string t213)) (fun _ hk => hk.2) (.string t214)) (fun _ hk => hk.2) (.slice Ao20 t206.length co20)) (fun _ hk => hk.2) (.string t207)) (fun _ hk => trivial), by repeat (first | (with_reducible first | exact HB.out | apply qL | apply qJ | apply qK | refine qI ?_ GE204.out) | exact HB.out)⟩
        ·rw [if_neg c17] at H
         have c17b0 : (t209 == 0) = false := beq_eq_false_iff_ne.mpr c17
         have c17b1 : (t209 != 0) = true := bne_iff_ne.mpr c17
         simp only [Option.some.injEq, Prod.mk.injEq] at H
         obtain ⟨rfl, rfl, rfl, rfl, rfl, rfl⟩ := H
         go_wp2_with (first | ((with_reducible refine gate_callee (f := 36) rfl ?_); refine goesL_ (some 43) rfl rfl Tryz.func36 (by kernel_rfl) rfl #[.string (a0.extract 0 ((ji10) : Int).toNat)] rfl zz70 ?_; (with_reducible refine (codicilref29_lines.calls kj4 (a0.extract 0 ((ji10) : Int).toNat) t216 t217 _ A13.out).mono ?_); rintro e w22 ⟨v218, rfl, ho0, hb⟩; refine ⟨_, rfl, ?_⟩; have n0_ := qH (Kd.R_below zz54 hb); have n1_ := qH (Kd.R_lower ho0 (below_size zz23)); have n2_ := qH (qD (g := gb204) (o := .cells #[.string (⟨#[]⟩ : ByteArray), .string (⟨#[]⟩ : ByteArray), .slice none 0 0, .string (⟨#[]⟩ : ByteArray)] 25 (0, 0)) zz61 hb); have n3_ := qH (below_step zz23 hb); clear HO_6; clear BK204; clear HB; have HO_6 := n0_; have HO219 := n1_; have BK204 := n2_; have HB := n3_; clear n0_ n1_ n2_ n3_; (try clear hb); (try clear hb2); (try clear hk); (try clear hi); (try clear ho0); obtain ⟨Ao23, co23, eo23⟩ := Kd.R_slice HO219.out; subst eo23; have p220 : 0 ≤ (0 : Int) := zz42; have q220 : 0 < (t216.length : Int) := of_decide_eq_true zz0; obtain ⟨ad220, e220, hx220_0⟩ := Kd.at_string (Kd.R_reads' HO219.out).2.2 0 p220 q220; cases e220; have qi220 : (0 < t216.length) = True := eq_true zz42; (try rw [show ((0 : Int)).toNat = 0 from rfl] at hx220_0); (try rw [Addr.add_zero'] at hx220_0); replace p220 := eq_true p220; replace q220 := eq_true q220) | ((with_reducible refine gate_callee (f := 35) rfl ?_); refine goesL_ (some 50) rfl rfl Tryz.func35 (by kernel_rfl) rfl #[.string (rdOf ByteArray.empty t216 0)] rfl zz4 ?_; (with_reducible refine (codicilref29_request.calls kj4 (rdOf ByteArray.empty t216 0) t221 t222 true _ A15.out).mono ?_); rintro e w' ⟨rfl, ⟨nd, rfl⟩⟩; refine ⟨_, rfl, ?_⟩; (try (rw [drewN_self w22]; generalize hq_ : World.drewN w22 _ = w22; have n0_ : Aside0 (Kd.R Kd.string 9 w22 w.heap.size (fun _ => True) (.slice (some ad220) t216.length co23) t216) := ⟨by rw [← hq_]; exact zz78⟩; have n1_ : Aside0 (Kd.R k59 59 w22 w.heap.size (fun _ => True) v210 t206) := ⟨by rw [← hq_]; exact zz54⟩; have n2_ : Aside0 (w22.heap[gb204]? = some (.cells #[.string (⟨#[]⟩ : ByteArray), .string (⟨#[]⟩ : ByteArray), .slice none 0 0, .string (⟨#[]⟩ : ByteArray)] 25 (0, 0))) := ⟨by rw [← hq_]; exact zz61⟩; have n3_ : Aside0 (Below w.heap.size w w22) := ⟨by rw [← hq_]; exact zz23⟩; clear HO219 HO_6 BK204 HB hq_; have HO219 := n0_; have HO_6 := n1_; have BK204 := n2_; have HB := n3_; clear n0_ n1_ n2_ n3_)); obtain ⟨hcz24_0, hcz24_1, hcz24_2, hcz24_3⟩ := qc4 BK204.out; obtain ⟨hfz24_0, hfz24_1, hfz24_2, hfz24_3⟩ := qf4 BK204.out))
         refine bodyPost_ret (results_ctt rfl _ _ gb204 25 #[.string (⟨#[]⟩ : ByteArray), .string (⟨#[]⟩ : ByteArray), .slice none 0 0, .string (⟨#[]⟩ : ByteArray)] (0, 0) _ rfl zz15 Tryz.underlying25 rfl (by kernel_rfl)) rfl ?_
         exact ⟨_, by first | rfl | (simp [errW_none, errW_some] <;> rfl) | (simp only [← hji10]; first | rfl | (simp [errW_none, errW_some] <;> rfl)) | (simp [*, errW_none, errW_some] <;> rfl), by first | exact Kd.R_nil _ _ _ _ _ | exact Kd.N_nil _ _ _ _ _ | exact Kd.V_nil _ _ _ _ _ | exact Kd.Q_nil _ _ _ _ _ | exact Kd.S_nil _ _ _ _ _, by repeat (first | (with_reducible first | exact HB.out | apply qL | apply qJ | apply qK | refine qI ?_ GE204.out) | exact HB.out)⟩
       ·replace c16 := Bool.eq_false_iff.mpr c16
        subst c16
        have H1 : (some ((⟨#[]⟩ : ByteArray), (⟨#[]⟩ : ByteArray), ([] : List (S59)), (⟨#[]⟩ : ByteArray), 0, 291)) = some (r1, r2, r3, r4, r5, r6) := by rw [if_neg (show ¬ (false = true) by decide)] at H; exact H
        clear H
        have H := H1
        clear H1
        simp only [Option.some.injEq, Prod.mk.injEq] at H
        obtain ⟨rfl, rfl, rfl, rfl, rfl, rfl⟩ := H
        go_wp2_with (first | ((with_reducible refine gate_callee (f := 36) rfl ?_); refine goesL_ (some 43) rfl rfl Tryz.func36 (by kernel_rfl) rfl #[.string (a0.extract 0 ((ji10) : Int).toNat)] rfl zz70 ?_; (with_reducible refine (codicilref29_lines.calls kj4 (a0.extract 0 ((ji10) : Int).toNat) t216 t217 _ A13.out).mono ?_); rintro e w25 ⟨v218, rfl, ho0, hb⟩; refine ⟨_, rfl, ?_⟩; have n0_ := qH (Kd.R_below zz54 hb); have n1_ := qH (Kd.R_lower ho0 (below_size zz23)); have n2_ := qH (qD (g := gb204) (o := .cells #[.string (⟨#[]⟩ : ByteArray), .string (⟨#[]⟩ : ByteArray), .slice none 0 0, .string (⟨#[]⟩ : ByteArray)] 25 (0, 0)) zz61 hb); have n3_ := qH (below_step zz23 hb); clear HO_6; clear BK204; clear HB; have HO_6 := n0_; have HO219 := n1_; have BK204 := n2_; have HB := n3_; clear n0_ n1_ n2_ n3_; (try clear hb); (try clear hb2); (try clear hk); (try clear hi); (try clear ho0); obtain ⟨Ao26, co26, eo26⟩ := Kd.R_slice HO219.out; subst eo26; have p220 : 0 ≤ (0 : Int) := zz42; have q220 : 0 < (t216.length : Int) := of_decide_eq_true zz0; obtain ⟨ad220, e220, hx220_0⟩ := Kd.at_string (Kd.R_reads' HO219.out).2.2 0 p220 q220; cases e220; have qi220 : (0 < t216.length) = True := eq_true zz42; (try rw [show ((0 : Int)).toNat = 0 from rfl] at hx220_0); (try rw [Addr.add_zero'] at hx220_0); replace p220 := eq_true p220; replace q220 := eq_true q220) | ((with_reducible refine gate_callee (f := 35) rfl ?_); refine goesL_ (some 50) rfl rfl Tryz.func35 (by kernel_rfl) rfl #[.string (rdOf ByteArray.empty t216 0)] rfl zz4 ?_; (with_reducible refine (codicilref29_request.calls kj4 (rdOf ByteArray.empty t216 0) t221 t222 false _ A15.out).mono ?_); rintro e w' ⟨rfl, ⟨nd, rfl⟩⟩; refine ⟨_, rfl, ?_⟩; (try (rw [drewN_self w25]; generalize hq_ : World.drewN w25 _ = w25; have n0_ : Aside0 (Kd.R Kd.string 9 w25 w.heap.size (fun _ => True) (.slice (some ad220) t216.length co26) t216) := ⟨by rw [← hq_]; exact zz78⟩; have n1_ : Aside0 (Kd.R k59 59 w25 w.heap.size (fun _ => True) v210 t206) := ⟨by rw [← hq_]; exact zz54⟩; have n2_ : Aside0 (w25.heap[gb204]? = some (.cells #[.string (⟨#[]⟩ : ByteArray), .string (⟨#[]⟩ : ByteArray), .slice none 0 0, .string (⟨#[]⟩ : ByteArray)] 25 (0, 0))) := ⟨by rw [← hq_]; exact zz61⟩; have n3_ : Aside0 (Below w.heap.size w w25) := ⟨by rw [← hq_]; exact zz23⟩; clear HO219 HO_6 BK204 HB hq_; have HO219 := n0_; have HO_6 := n1_; have BK204 := n2_; have HB := n3_; clear n0_ n1_ n2_ n3_)); obtain ⟨hcz27_0, hcz27_1, hcz27_2, hcz27_3⟩ := qc4 BK204.out; obtain ⟨hfz27_0, hfz27_1, hfz27_2, hfz27_3⟩ := qf4 BK204.out))
        refine bodyPost_ret (results_ctt rfl _ _ gb204 25 #[.string (⟨#[]⟩ : ByteArray), .string (⟨#[]⟩ : ByteArray), .slice none 0 0, .string (⟨#[]⟩ : ByteArray)] (0, 0) _ rfl zz15 Tryz.underlying25 rfl (by kernel_rfl)) rfl ?_
        exact ⟨_, by first | rfl | (simp [errW_none, errW_some] <;> rfl) | (simp only [← hji10]; first | rfl | (simp [errW_none, errW_some] <;> rfl)) | (simp [*, errW_none, errW_some] <;> rfl), by first | exact Kd.R_nil _ _ _ _ _ | exact Kd.N_nil _ _ _ _ _ | exact Kd.V_nil _ _ _ _ _ | exact Kd.Q_nil _ _ _ _ _ | exact Kd.S_nil _ _ _ _ _, by repeat (first | (with_reducible first | exact HB.out | apply qL | apply qJ | apply qK | refine qI ?_ GE204.out) | exact HB.out)⟩
      ·rw [if_neg c14] at H
       exact absurd H zz65
     ·rw [if_neg c12] at H
      exact absurd H zz65
    ·rw [if_neg c11] at H
     exact absurd H zz65
   ·replace c9 := Bool.eq_false_iff.mpr c9
    subst c9
    have H1 : (if t209 = 0 then (some (t213, t214, t206, t207, t208, 0)) else (some ((⟨#[]⟩ : ByteArray), (⟨#[]⟩ : ByteArray), ([] : List (S59)), (⟨#[]⟩ : ByteArray), 0, t209))) = some (r1, r2, r3, r4, r5, r6) := by rw [if_neg (show ¬ (false = true) by decide)] at H; exact H
    clear H
    have H := H1
    clear H1
    by_cases c28 : t209 = 0
    ·rw [if_pos c28] at H
     have c28b0 : (t209 == 0) = true := beq_iff_eq.mpr c28
     have c28b1 : (t209 != 0) = false := bne_eq_false_iff_eq.mpr c28
     clear c28
     simp only [Option.some.injEq, Prod.mk.injEq] at H
     obtain ⟨rfl, rfl, rfl, rfl, rfl, rfl⟩ := H
     obtain ⟨Ao29, co29, eo29⟩ := Kd.R_slice HO_6.out
     subst eo29
     have hcz30_0 : wc.cell? ⟨gb204, 0, none⟩ = some (.string (⟨#[]⟩ : ByteArray)) := (qE BK204.out 0).trans rfl
     have hcz30_1 : wc.cell? ⟨gb204, 1, none⟩ = some (.string (⟨#[]⟩ : ByteArray)) := (qE BK204.out 1).trans rfl
     have hcz30_2 : wc.cell? ⟨gb204, 2, none⟩ = some (.slice none 0 0) := (qE BK204.out 2).trans rfl
     have hcz30_3 : wc.cell? ⟨gb204, 3, none⟩ = some (.string (⟨#[]⟩ : ByteArray)) := (qE BK204.out 3).trans rfl
     have hfz30_0 := qF BK204.out 0
     have hfz30_1 := qF BK204.out 1
     have hfz30_2 := qF BK204.out 2
     have hfz30_3 := qF BK204.out 3
     go_wp2
     refine bodyPost_ret (results_ctt rfl _ _ gb204 25 #[.string t213, .string t214, .slice Ao29 t206.length co29, .string t207] (0, 0) _ rfl (by (with_reducible repeat first | apply qA | apply qC | apply qB); refine blk_put (cs := #[.string t213, .string t214, .slice Ao29 t206.length co29, .string (⟨#[]⟩ : ByteArray)]) ?_ 3 _ rfl; (with_reducible repeat first | apply qA | apply qC | apply qB); refine blk_put (cs := #[.string t213, .string t214, .slice none 0 0, .string (⟨#[]⟩ : ByteArray)]) ?_ 2 _ rfl; (with_reducible repeat first | apply qA | apply qC | apply qB); refine blk_put (cs := #[.string t213, .string (⟨#[]⟩ : ByteArray), .slice none 0 0, .string (⟨#[]⟩ : ByteArray)]) ?_ 1 _ rfl; (with_reducible repeat first | apply qA | apply qC | apply qB); refine blk_put (cs := #[.string (⟨#[]⟩ : ByteArray), .string (⟨#[]⟩ : ByteArray), .slice none 0 0, .string (⟨#[]⟩ : ByteArray)]) ?_ 0 _ rfl; (with_reducible repeat first | apply qA | apply qC | apply qB); exact BK204.out) Tryz.underlying25 rfl (by kernel_rfl)) rfl ?_
     exact ⟨_, by first | rfl | (simp [errW_none, errW_some] <;> rfl) | (simp [*, errW_none, errW_some] <;> rfl), by (with_reducible repeat (first | apply Kd.R_alloc | apply Kd.R_drewN | apply Kd.R_drew)); exact Kd.R_mono (Kd.R_far (p := ⟨gb204, 3, none⟩) (Kd.R_far (p := ⟨gb204, 2, none⟩) (Kd.R_far (p := ⟨gb204, 1, none⟩) (Kd.R_far (p := ⟨gb204, 0, none⟩) (Kd.R_types HO_6.out BK204.out zz73) (fun _ hk => hk.2) (.string t213)) (fun _ hk => hk.2) (.string t214)) (fun _ hk => hk.2) (.slice Ao29 t206.length co29)) (fun _ hk => hk.2) (.string t207)) (fun _ hk => trivial), by repeat (first | (with_reducible first | exact HB.out | apply qL | apply qJ | apply qK | refine qI ?_ GE204.out) | exact HB.out)⟩
    ·rw [if_neg c28] at H
     have c28b0 : (t209 == 0) = false := beq_eq_false_iff_ne.mpr c28
     have c28b1 : (t209 != 0) = true := bne_iff_ne.mpr c28
     simp only [Option.some.injEq, Prod.mk.injEq] at H
     obtain ⟨rfl, rfl, rfl, rfl, rfl, rfl⟩ := H
     have hcz31_0 : wc.cell? ⟨gb204, 0, none⟩ = some (.string (⟨#[]⟩ : ByteArray)) := (qE BK204.out 0).trans rfl
     have hcz31_1 : wc.cell? ⟨gb204, 1, none⟩ = some (.string (⟨#[]⟩ : ByteArray)) := (qE BK204.out 1).trans rfl
     have hcz31_2 : wc.cell? ⟨gb204, 2, none⟩ = some (.slice none 0 0) := (qE BK204.out 2).trans rfl
     have hcz31_3 : wc.cell? ⟨gb204, 3, none⟩ = some (.string (⟨#[]⟩ : ByteArray)) := (qE BK204.out 3).trans rfl
     have hfz31_0 := qF BK204.out 0
     have hfz31_1 := qF BK204.out 1
     have hfz31_2 := qF BK204.out 2
     have hfz31_3 := qF BK204.out 3
     go_wp2
     refine bodyPost_ret (results_ctt rfl _ _ gb204 25 #[.string (⟨#[]⟩ : ByteArray), .string (⟨#[]⟩ : ByteArray), .slice none 0 0, .string (⟨#[]⟩ : ByteArray)] (0, 0) _ rfl zz15 Tryz.underlying25 rfl (by kernel_rfl)) rfl ?_
     exact ⟨_, by first | rfl | (simp [errW_none, errW_some] <;> rfl) | (simp [*, errW_none, errW_some] <;> rfl), by first | exact Kd.R_nil _ _ _ _ _ | exact Kd.N_nil _ _ _ _ _ | exact Kd.V_nil _ _ _ _ _ | exact Kd.Q_nil _ _ _ _ _ | exact Kd.S_nil _ _ _ _ _, by repeat (first | (with_reducible first | exact HB.out | apply qL | apply qJ | apply qK | refine qI ?_ GE204.out) | exact HB.out)⟩

/-! ### codicillaw29_heads: function 18 -/
def codicillaw29_heads.l0 : Nat → List (S59) → List (S59) → Int → Option (Bool)
 | 0, _, _, _ => none
 | k + 1, x0, x1, x5 => if x5 < (x0.length : Int) then (if 0 ≤ x5 then (if x5 < (x1.length : Int) then (if (!((((rd_T59 x0 x5).f0).toList) == (((rd_T59 x1 x5).f0).toList)) || (!((((rd_T59 x0 x5).f1).toList) == (((rd_T59 x1 x5).f1).toList)))) = true then (some false) else (codicillaw29_heads.l0 k x0 x1 (wrap64 (x5 + 1)))) else (none)) else (none)) else (some true)
def codicillaw29_heads.f (k : Nat) (l0 : List (S59)) (l1 : List (S59)) : Option (Bool) := if (l0.length : Int) = (l1.length : Int) then (codicillaw29_heads.l0 k l0 l1 0) else (some false)
theorem codicillaw29_heads.mono_l : ∀ k, (∀ y0 y1 y2, LeO (codicillaw29_heads.l0 k y0 y1 y2) (codicillaw29_heads.l0 (k + 1) y0 y1 y2))
 | 0 => fun _ _ _ r h => by simp [codicillaw29_heads.l0] at h
 | k + 1 => by
  have ih0 := codicillaw29_heads.mono_l k
  ·intro y0 y1 y2
   unfold codicillaw29_heads.l0
   repeat' first
   | (with_reducible exact ih0 _ _ _)
   | (with_reducible exact LeO.refl _)
   | (with_reducible exact LeO.none _)
   | (with_reducible refine LeO.ite ?_ ?_)
   | (with_reducible refine LeO.bind ?_ (fun _ => ?_))
   | exact ih0 _ _ _
   | exact LeO.none _
   | refine LeO.ite ?_ ?_
   | refine LeO.bind ?_ (fun _ => ?_)
theorem codicillaw29_heads.mono : ∀ a0 a1 k, LeO (codicillaw29_heads.f k a0 a1) (codicillaw29_heads.f (k + 1) a0 a1) := by
 intro a0 a1 k
 have ih0 := codicillaw29_heads.mono_l k
 unfold codicillaw29_heads.f
 repeat' first
   | (with_reducible exact ih0 _ _ _)
   | (with_reducible exact LeO.refl _)
   | (with_reducible exact LeO.none _)
   | (with_reducible refine LeO.ite ?_ ?_)
   | (with_reducible refine LeO.bind ?_ (fun _ => ?_))
   | exact ih0 _ _ _
   | exact LeO.none _
   | refine LeO.ite ?_ ?_
   | refine LeO.bind ?_ (fun _ => ?_)
set_option maxHeartbeats 8000000 in
set_option maxRecDepth 100000 in
theorem codicillaw29_heads.calls (k : Nat) (A0 : Option Addr) (c0 : Nat) (l0 : List (S59)) (A1 : Option Addr) (c1 : Nat) (l1 : List (S59)) (r : Bool) (w : World) (hr0 : Kd.C k59 w A0 l0.length l0) (hc0 : l0.length ≤ c0) (hr1 : Kd.C k59 w A1 l1.length l1) (hc1 : l1.length ≤ c1) (h : codicillaw29_heads.f k l0 l1 = some r) :
  Calls Tryz.prog 18 #[.slice A0 l0.length c0, .slice A1 l1.length c1] w fun e w' => e = .returned (.bool r) ∧ Drawn0 w w' := by
 have hu59 := Tryz.underlying59
 have HR0 := qH hr0
 have HC0 := qH hc0
 clear hr0 hc0
 have HR1 := qH hr1
 have HC1 := qH hc1
 clear hr1 hc1
 have H : (if (l0.length : Int) = (l1.length : Int) then (codicillaw29_heads.l0 k l0 l1 0) else (some false)) = some r := h
 clear h
 by_cases c3 : (l0.length : Int) = (l1.length : Int)
 ·rw [if_pos c3] at H
  have c3b0 : ((l0.length : Int) == (l1.length : Int)) = true := beq_iff_eq.mpr c3
  have c3b1 : ((l0.length : Int) != (l1.length : Int)) = false := bne_eq_false_iff_eq.mpr c3
  have c3b2 : (l0.length == l1.length) = true := by first | simpa using c3 | (simp at c3 ⊢; omega)
  clear c3
  have H' := qH H
  clear H
  go_enter Tryz.func18, Tryz.ntmps18
  go_wp2
  repeat (go_quiet (fail); try go_wp2)
  go_loopg [5] k (fun kq v5 w' => ∃ (x5_1 : Int), v5 = .int .i64 x5_1 ∧ Aside0 (codicillaw29_heads.l0 kq l0 l1 x5_1 = some r) ∧ Aside0 (kq ≤ k) ∧ Drawn0 w w')
  case atStart => exact ⟨(0), zz3, H', ⟨Nat.le_refl _⟩, by repeat (first | exact Drawn0.refl _ | apply Drawn0.step)⟩
  case round =>
   clear H'
   try clear c1
   try clear p2
   try clear c3
   try clear c3b0
   try clear c3b1
   try clear c3b2
   obtain ⟨x5_1, rfl, HA, HK1, ⟨m1, rfl⟩⟩ := hrel
   cases gk with
   | zero => exact absurd HA.out (by simp [codicillaw29_heads.l0])
   | succ k1 =>
    have H := HA.out
    clear HA
    simp only [codicillaw29_heads.l0] at H
    by_cases c4 : x5_1 < (l0.length : Int)
    ·rw [if_pos c4] at H
     have c4b0 : decide (x5_1 < (l0.length : Int)) = true := decide_eq_true c4
     clear c4
     by_cases c5 : 0 ≤ x5_1
     ·rw [if_pos c5] at H
      have c5b0 : decide (0 ≤ x5_1) = true := decide_eq_true c5
      clear c5
      by_cases c6 : x5_1 < (l1.length : Int)
      ·rw [if_pos c6] at H
       have c6b0 : decide (x5_1 < (l1.length : Int)) = true := decide_eq_true c6
       clear c6
       by_cases c7 : (!((((rd_T59 l0 x5_1).f0).toList) == (((rd_T59 l1 x5_1).f0).toList)) || (!((((rd_T59 l0 x5_1).f1).toList) == (((rd_T59 l1 x5_1).f1).toList)))) = true
       ·rw [if_pos c7] at H
        have c7b0 : (!((((rd_T59 l0 x5_1).f0).toList) == (((rd_T59 l1 x5_1).f0).toList)) || (!((((rd_T59 l0 x5_1).f1).toList) == (((rd_T59 l1 x5_1).f1).toList)))) = true := c7
        clear c7
        obtain rfl := Option.some.inj H
        simp only [Option.some.injEq, Prod.mk.injEq] at H
        obtain ⟨rfl⟩ := H
        have p224 : 0 ≤ (x5_1 : Int) := of_decide_eq_true zz0
        have q224 : x5_1 < (l0.length : Int) := of_decide_eq_true zz0
        obtain ⟨ad224, e224, hx224_0, hx224_1⟩ := at_T59 HR0.out x5_1 p224 q224
        cases e224
        replace p224 := eq_true p224
        replace q224 := eq_true q224
        have p225 : 0 ≤ (x5_1 : Int) := of_decide_eq_true zz0
        have q225 : x5_1 < (l1.length : Int) := of_decide_eq_true zz0
        obtain ⟨ad225, e225, hx225_0, hx225_1⟩ := at_T59 HR1.out x5_1 p225 q225
        cases e225
        replace p225 := eq_true p225
        replace q225 := eq_true q225
        go_wp2
        repeat (go_quiet (fail); try go_wp2)
        go_ret
        exact ⟨by first | rfl | (simp; done) | (simp; exact qEmp _) | (simp [*]; done), by repeat (first | exact Drawn0.refl _ | apply Drawn0.step)⟩
       ·rw [if_neg c7] at H
        have c7b0 : (!((((rd_T59 l0 x5_1).f0).toList) == (((rd_T59 l1 x5_1).f0).toList)) || (!((((rd_T59 l0 x5_1).f1).toList) == (((rd_T59 l1 x5_1).f1).toList)))) = false := by simpa using c7
        clear c7
        have H' := qH H
        clear H
        have p224 : 0 ≤ (x5_1 : Int) := of_decide_eq_true zz0
        have q224 : x5_1 < (l0.length : Int) := of_decide_eq_true zz0
        obtain ⟨ad224, e224, hx224_0, hx224_1⟩ := at_T59 HR0.out x5_1 p224 q224
        cases e224
        replace p224 := eq_true p224
        replace q224 := eq_true q224
        have p225 : 0 ≤ (x5_1 : Int) := of_decide_eq_true zz0
        have q225 : x5_1 < (l1.length : Int) := of_decide_eq_true zz0
        obtain ⟨ad225, e225, hx225_0, hx225_1⟩ := at_T59 HR1.out x5_1 p225 q225
        cases e225
        replace p225 := eq_true p225
        replace q225 := eq_true q225
        go_wp2
        repeat (go_quiet (fail); try go_wp2)
        go_roundg k1
        case measure => have := HK1.out; omega
        case rel => exact ⟨(wrap64 (x5_1 + 1)), zz3, H', ⟨by have := HK1.out; omega⟩, by repeat (first | exact Drawn0.refl _ | apply Drawn0.step)⟩
      ·rw [if_neg c6] at H
       exact absurd H zz65
     ·rw [if_neg c5] at H
      exact absurd H zz65
    ·rw [if_neg c4] at H
     have c4b0 : decide (x5_1 < (l0.length : Int)) = false := decide_eq_false c4
     clear c4
     obtain rfl := Option.some.inj H
     simp only [Option.some.injEq, Prod.mk.injEq] at H
     obtain ⟨rfl⟩ := H
     go_wp2
     repeat (go_quiet (fail); try go_wp2)
     go_ret
     exact ⟨by first | rfl | (simp; done) | (simp; exact qEmp _) | (simp [*]; done), by repeat (first | exact Drawn0.refl _ | apply Drawn0.step)⟩
 ·rw [if_neg c3] at H
  have c3b0 : ((l0.length : Int) == (l1.length : Int)) = false := beq_eq_false_iff_ne.mpr c3
  have c3b1 : ((l0.length : Int) != (l1.length : Int)) = true := bne_iff_ne.mpr c3
  have c3b2 : (l0.length == l1.length) = false := by first | simpa using c3 | (simp at c3 ⊢; omega)
  obtain rfl := Option.some.inj H
  simp only [Option.some.injEq, Prod.mk.injEq] at H
  obtain ⟨rfl⟩ := H
  go_enter Tryz.func18, Tryz.ntmps18
  go_wp2
  repeat (go_quiet (fail); try go_wp2)
  go_ret
  exact ⟨by first | rfl | (simp; done) | (simp; exact qEmp _) | (simp [*]; done), by repeat (first | exact Drawn0.refl _ | apply Drawn0.step)⟩

/-! ### codicillaw29_Requests: function 14 -/
def codicillaw29_Requests.f (k : Nat) (a0_0 : ByteArray) (a0_1 : ByteArray) (l0_2 : List (S59)) (a0_3 : ByteArray) (a1_0 : ByteArray) (a1_1 : ByteArray) (l1_2 : List (S59)) (a1_3 : ByteArray) : Option (Bool) := if a0_0.toList = a1_0.toList then (if a0_1.toList = a1_1.toList then (if a0_3.toList = a1_3.toList then ((codicillaw29_heads.f k l0_2 l1_2).bind fun t228 => (some t228)) else (some false)) else (some false)) else (some false)
theorem codicillaw29_Requests.mono : ∀ a0 a1 a2 a3 a4 a5 a6 a7 k, LeO (codicillaw29_Requests.f k a0 a1 a2 a3 a4 a5 a6 a7) (codicillaw29_Requests.f (k + 1) a0 a1 a2 a3 a4 a5 a6 a7) := by
 intro a0 a1 a2 a3 a4 a5 a6 a7 k
 unfold codicillaw29_Requests.f
 repeat' first
   | (with_reducible exact codicillaw29_heads.mono _ _ _)
   | (with_reducible exact LeO.refl _)
   | (with_reducible exact LeO.none _)
   | (with_reducible refine LeO.ite ?_ ?_)
   | (with_reducible refine LeO.bind ?_ (fun _ => ?_))
   | exact codicillaw29_heads.mono _ _ _
   | exact LeO.none _
   | refine LeO.ite ?_ ?_
   | refine LeO.bind ?_ (fun _ => ?_)
set_option maxHeartbeats 8000000 in
set_option maxRecDepth 100000 in
theorem codicillaw29_Requests.calls (k : Nat) (a0_0 : ByteArray) (a0_1 : ByteArray) (A0_2 : Option Addr) (c0_2 : Nat) (l0_2 : List (S59)) (a0_3 : ByteArray) (a1_0 : ByteArray) (a1_1 : ByteArray) (A1_2 : Option Addr) (c1_2 : Nat) (l1_2 : List (S59)) (a1_3 : ByteArray) (r : Bool) (w : World) (hr0_2 : Kd.C k59 w A0_2 l0_2.length l0_2) (hc0_2 : l0_2.length ≤ c0_2) (hr1_2 : Kd.C k59 w A1_2 l1_2.length l1_2) (hc1_2 : l1_2.length ≤ c1_2) (h : codicillaw29_Requests.f k a0_0 a0_1 l0_2 a0_3 a1_0 a1_1 l1_2 a1_3 = some r) :
  Calls Tryz.prog 14 #[.agg #[.string a0_0, .string a0_1, .slice A0_2 l0_2.length c0_2, .string a0_3], .agg #[.string a1_0, .string a1_1, .slice A1_2 l1_2.length c1_2, .string a1_3]] w fun e w' => e = .returned (.bool r) ∧ Below w.heap.size w w' := by
 have hu25 := Tryz.underlying25
 have HR0_2 := qH hr0_2
 have HC0_2 := qH hc0_2
 clear hr0_2 hc0_2
 have HR1_2 := qH hr1_2
 have HC1_2 := qH hc1_2
 clear hr1_2 hc1_2
 have HB := qH (Below.refl w.heap.size w)
 have H : (if a0_0.toList = a1_0.toList then (if a0_1.toList = a1_1.toList then (if a0_3.toList = a1_3.toList then ((codicillaw29_heads.f k l0_2 l1_2).bind fun t228 => (some t228)) else (some false)) else (some false)) else (some false)) = some r := h
 clear h
 by_cases c3 : a0_0.toList = a1_0.toList
 ·rw [if_pos c3] at H
  have c3b0 : (a0_0.toList == a1_0.toList) = true := beq_iff_eq.mpr c3
  have c3b1 : (a0_0.toList != a1_0.toList) = false := bne_eq_false_iff_eq.mpr c3
  clear c3
  by_cases c4 : a0_1.toList = a1_1.toList
  ·rw [if_pos c4] at H
   have c4b0 : (a0_1.toList == a1_1.toList) = true := beq_iff_eq.mpr c4
   have c4b1 : (a0_1.toList != a1_1.toList) = false := bne_eq_false_iff_eq.mpr c4
   clear c4
   by_cases c5 : a0_3.toList = a1_3.toList
   ·rw [if_pos c5] at H
    have c5b0 : (a0_3.toList == a1_3.toList) = true := beq_iff_eq.mpr c5
    have c5b1 : (a0_3.toList != a1_3.toList) = false := bne_eq_false_iff_eq.mpr c5
    clear c5
    replace H := Option.bind_eq_some_iff.mp H
    obtain ⟨t228, A60, H⟩ := H
    (try dsimp only at H)
    have A6 := qH A60
    clear A60
    obtain rfl := Option.some.inj H
    simp only [Option.some.injEq, Prod.mk.injEq] at H
    obtain ⟨rfl⟩ := H
    go_enter Tryz.func14, Tryz.ntmps14
    go_wp2_with (first | ((with_reducible refine gate_dst (N := 2) rfl ?_); refine box_event ?hg (N := 2) ?hd (cs := #[.string a0_0, .string a0_1, .slice A0_2 l0_2.length c0_2, .string a0_3]) (t := 25) ?hr ?_; (case hd => rfl); (case hg => rfl); (case hr => first | (go_simp; done) | (go_simp; rfl) | (go_simp; simp [IntKind.wrap_u32]; done)); intro gb226 hg w7 hbox hb; have n0_ := qH (below_step zz2 hb); have n1_ := qH (hbox); have n2_ := qH ((by rw [hg]; exact (below_size zz2) : w.heap.size ≤ gb226)); have n3_ := n2_; clear HB; have HB := n0_; have BK226 := n1_; have GW226 := n2_; have GE226 := n3_; clear n0_ n1_ n2_ n3_; clear hb hbox hg) | ((with_reducible refine gate_dst (N := 3) rfl ?_); refine box_event ?hg (N := 3) ?hd (cs := #[.string a1_0, .string a1_1, .slice A1_2 l1_2.length c1_2, .string a1_3]) (t := 25) ?hr ?_; (case hd => rfl); (case hg => rfl); (case hr => first | (go_simp; done) | (go_simp; rfl) | (go_simp; simp [IntKind.wrap_u32]; done)); intro gb227 hg w8 hbox hb; have n0_ := qH (qD (g := gb226) zz41 hb); have n1_ := qH (below_step zz40 hb); have n2_ := qH (hbox); have n3_ := qH ((by rw [hg]; exact (below_size zz40) : w.heap.size ≤ gb227)); have n4_ := n3_; have n5_ := qH ((by rw [hg]; exact qN (blk_lt (g := gb226) zz41) : gb226 ≠ gb227)); have n6_ := qH ((by rw [hg]; exact Nat.ne_of_gt (blk_lt (g := gb226) zz41) : gb227 ≠ gb226)); clear BK226; clear HB; have BK226 := n0_; have HB := n1_; have BK227 := n2_; have GW227 := n3_; have GE227 := n4_; have NB226_227 := n5_; have NB227_226 := n6_; clear n0_ n1_ n2_ n3_ n4_ n5_ n6_; clear hb hbox hg; have hnb9 := NB226_227.out; have hnc9 := NB227_226.out; obtain ⟨hcz10_0, hcz10_1, hcz10_2, hcz10_3⟩ := qc4 BK226.out; obtain ⟨hfz10_0, hfz10_1, hfz10_2, hfz10_3⟩ := qf4 BK226.out; obtain ⟨hcz11_0, hcz11_1, hcz11_2, hcz11_3⟩ := qc4 BK227.out; obtain ⟨hfz11_0, hfz11_1, hfz11_2, hfz11_3⟩ := qf4 BK227.out) | (go_at_call 18; (with_reducible refine (codicillaw29_heads.calls k _ _ l0_2 _ _ l1_2 t228 _ ?side1 ?side2 ?side3 ?side4 A6.out).mono ?_); (case side1 => repeat (first | exact (Kd.C_below HR0_2.out HB.out) | (with_reducible refine Kd.C_alloc ?_ _) | (with_reducible refine Kd.C_drewN ?_ _) | (with_reducible refine Kd.C_drew ?_))); (case side2 => exact HC0_2.out); (case side3 => repeat (first | exact (Kd.C_below HR1_2.out HB.out) | (with_reducible refine Kd.C_alloc ?_ _) | (with_reducible refine Kd.C_drewN ?_ _) | (with_reducible refine Kd.C_drew ?_))); (case side4 => exact HC1_2.out); rintro e w' ⟨rfl, ⟨nd, rfl⟩⟩))
    go_ret
    exact ⟨by first | rfl | (simp [errW_none, errW_some] <;> rfl) | (simp [*, errW_none, errW_some] <;> rfl), by repeat (first | (with_reducible first | exact HB.out | apply qL | apply qJ | apply qK | refine qI ?_ GE226.out | refine qI ?_ GE227.out) | exact HB.out)⟩
   ·rw [if_neg c5] at H
    have c5b0 : (a0_3.toList == a1_3.toList) = false := beq_eq_false_iff_ne.mpr c5
    have c5b1 : (a0_3.toList != a1_3.toList) = true := bne_iff_ne.mpr c5
    obtain rfl := Option.some.inj H
    simp only [Option.some.injEq, Prod.mk.injEq] at H
    obtain ⟨rfl⟩ := H
    go_enter Tryz.func14, Tryz.ntmps14
    go_wp2_with (first | ((with_reducible refine gate_dst (N := 2) rfl ?_); refine box_event ?hg (N := 2) ?hd (cs := #[.string a0_0, .string a0_1, .slice A0_2 l0_2.length c0_2, .string a0_3]) (t := 25) ?hr ?_; (case hd => rfl); (case hg => rfl); (case hr => first | (go_simp; done) | (go_simp; rfl) | (go_simp; simp [IntKind.wrap_u32]; done)); intro gb226 hg w12 hbox hb; have n0_ := qH (below_step zz2 hb); have n1_ := qH (hbox); have n2_ := qH ((by rw [hg]; exact (below_size zz2) : w.heap.size ≤ gb226)); have n3_ := n2_; clear HB; have HB := n0_; have BK226 := n1_; have GW226 := n2_; have GE226 := n3_; clear n0_ n1_ n2_ n3_; clear hb hbox hg) | ((with_reducible refine gate_dst (N := 3) rfl ?_); refine box_event ?hg (N := 3) ?hd (cs := #[.string a1_0, .string a1_1, .slice A1_2 l1_2.length c1_2, .string a1_3]) (t := 25) ?hr ?_; (case hd => rfl); (case hg => rfl); (case hr => first | (go_simp; done) | (go_simp; rfl) | (go_simp; simp [IntKind.wrap_u32]; done)); intro gb227 hg w13 hbox hb; have n0_ := qH (qD (g := gb226) zz41 hb); have n1_ := qH (below_step zz40 hb); have n2_ := qH (hbox); have n3_ := qH ((by rw [hg]; exact (below_size zz40) : w.heap.size ≤ gb227)); have n4_ := n3_; have n5_ := qH ((by rw [hg]; exact qN (blk_lt (g := gb226) zz41) : gb226 ≠ gb227)); have n6_ := qH ((by rw [hg]; exact Nat.ne_of_gt (blk_lt (g := gb226) zz41) : gb227 ≠ gb226)); clear BK226; clear HB; have BK226 := n0_; have HB := n1_; have BK227 := n2_; have GW227 := n3_; have GE227 := n4_; have NB226_227 := n5_; have NB227_226 := n6_; clear n0_ n1_ n2_ n3_ n4_ n5_ n6_; clear hb hbox hg; have hnb14 := NB226_227.out; have hnc14 := NB227_226.out; obtain ⟨hcz15_0, hcz15_1, hcz15_2, hcz15_3⟩ := qc4 BK226.out; obtain ⟨hfz15_0, hfz15_1, hfz15_2, hfz15_3⟩ := qf4 BK226.out; obtain ⟨hcz16_0, hcz16_1, hcz16_2, hcz16_3⟩ := qc4 BK227.out; obtain ⟨hfz16_0, hfz16_1, hfz16_2, hfz16_3⟩ := qf4 BK227.out))
    go_ret
    exact ⟨by first | rfl | (simp [errW_none, errW_some] <;> rfl) | (simp [*, errW_none, errW_some] <;> rfl), by repeat (first | (with_reducible first | exact HB.out | apply qL | apply qJ | apply qK | refine qI ?_ GE226.out | refine qI ?_ GE227.out) | exact HB.out)⟩
  ·rw [if_neg c4] at H
   have c4b0 : (a0_1.toList == a1_1.toList) = false := beq_eq_false_iff_ne.mpr c4
   have c4b1 : (a0_1.toList != a1_1.toList) = true := bne_iff_ne.mpr c4
   obtain rfl := Option.some.inj H
   simp only [Option.some.injEq, Prod.mk.injEq] at H
   obtain ⟨rfl⟩ := H
   go_enter Tryz.func14, Tryz.ntmps14
   go_wp2_with (first | ((with_reducible refine gate_dst (N := 2) rfl ?_); refine box_event ?hg (N := 2) ?hd (cs := #[.string a0_0, .string a0_1, .slice A0_2 l0_2.length c0_2, .string a0_3]) (t := 25) ?hr ?_; (case hd => rfl); (case hg => rfl); (case hr => first | (go_simp; done) | (go_simp; rfl) | (go_simp; simp [IntKind.wrap_u32]; done)); intro gb226 hg w17 hbox hb; have n0_ := qH (below_step zz2 hb); have n1_ := qH (hbox); have n2_ := qH ((by rw [hg]; exact (below_size zz2) : w.heap.size ≤ gb226)); have n3_ := n2_; clear HB; have HB := n0_; have BK226 := n1_; have GW226 := n2_; have GE226 := n3_; clear n0_ n1_ n2_ n3_; clear hb hbox hg) | ((with_reducible refine gate_dst (N := 3) rfl ?_); refine box_event ?hg (N := 3) ?hd (cs := #[.string a1_0, .string a1_1, .slice A1_2 l1_2.length c1_2, .string a1_3]) (t := 25) ?hr ?_; (case hd => rfl); (case hg => rfl); (case hr => first | (go_simp; done) | (go_simp; rfl) | (go_simp; simp [IntKind.wrap_u32]; done)); intro gb227 hg w18 hbox hb; have n0_ := qH (qD (g := gb226) zz41 hb); have n1_ := qH (below_step zz40 hb); have n2_ := qH (hbox); have n3_ := qH ((by rw [hg]; exact (below_size zz40) : w.heap.size ≤ gb227)); have n4_ := n3_; have n5_ := qH ((by rw [hg]; exact qN (blk_lt (g := gb226) zz41) : gb226 ≠ gb227)); have n6_ := qH ((by rw [hg]; exact Nat.ne_of_gt (blk_lt (g := gb226) zz41) : gb227 ≠ gb226)); clear BK226; clear HB; have BK226 := n0_; have HB := n1_; have BK227 := n2_; have GW227 := n3_; have GE227 := n4_; have NB226_227 := n5_; have NB227_226 := n6_; clear n0_ n1_ n2_ n3_ n4_ n5_ n6_; clear hb hbox hg; have hnb19 := NB226_227.out; have hnc19 := NB227_226.out; obtain ⟨hcz20_0, hcz20_1, hcz20_2, hcz20_3⟩ := qc4 BK226.out; obtain ⟨hfz20_0, hfz20_1, hfz20_2, hfz20_3⟩ := qf4 BK226.out; obtain ⟨hcz21_0, hcz21_1, hcz21_2, hcz21_3⟩ := qc4 BK227.out; obtain ⟨hfz21_0, hfz21_1, hfz21_2, hfz21_3⟩ := qf4 BK227.out))
   go_ret
   exact ⟨by first | rfl | (simp [errW_none, errW_some] <;> rfl) | (simp [*, errW_none, errW_some] <;> rfl), by repeat (first | (with_reducible first | exact HB.out | apply qL | apply qJ | apply qK | refine qI ?_ GE226.out | refine qI ?_ GE227.out) | exact HB.out)⟩
 ·rw [if_neg c3] at H
  have c3b0 : (a0_0.toList == a1_0.toList) = false := beq_eq_false_iff_ne.mpr c3
  have c3b1 : (a0_0.toList != a1_0.toList) = true := bne_iff_ne.mpr c3
  obtain rfl := Option.some.inj H
  simp only [Option.some.injEq, Prod.mk.injEq] at H
  obtain ⟨rfl⟩ := H
  go_enter Tryz.func14, Tryz.ntmps14
  go_wp2_with (first | ((with_reducible refine gate_dst (N := 2) rfl ?_); refine box_event ?hg (N := 2) ?hd (cs := #[.string a0_0, .string a0_1, .slice A0_2 l0_2.length c0_2, .string a0_3]) (t := 25) ?hr ?_; (case hd => rfl); (case hg => rfl); (case hr => first | (go_simp; done) | (go_simp; rfl) | (go_simp; simp [IntKind.wrap_u32]; done)); intro gb226 hg w22 hbox hb; have n0_ := qH (below_step zz2 hb); have n1_ := qH (hbox); have n2_ := qH ((by rw [hg]; exact (below_size zz2) : w.heap.size ≤ gb226)); have n3_ := n2_; clear HB; have HB := n0_; have BK226 := n1_; have GW226 := n2_; have GE226 := n3_; clear n0_ n1_ n2_ n3_; clear hb hbox hg) | ((with_reducible refine gate_dst (N := 3) rfl ?_); refine box_event ?hg (N := 3) ?hd (cs := #[.string a1_0, .string a1_1, .slice A1_2 l1_2.length c1_2, .string a1_3]) (t := 25) ?hr ?_; (case hd => rfl); (case hg => rfl); (case hr => first | (go_simp; done) | (go_simp; rfl) | (go_simp; simp [IntKind.wrap_u32]; done)); intro gb227 hg w23 hbox hb; have n0_ := qH (qD (g := gb226) zz41 hb); have n1_ := qH (below_step zz40 hb); have n2_ := qH (hbox); have n3_ := qH ((by rw [hg]; exact (below_size zz40) : w.heap.size ≤ gb227)); have n4_ := n3_; have n5_ := qH ((by rw [hg]; exact qN (blk_lt (g := gb226) zz41) : gb226 ≠ gb227)); have n6_ := qH ((by rw [hg]; exact Nat.ne_of_gt (blk_lt (g := gb226) zz41) : gb227 ≠ gb226)); clear BK226; clear HB; have BK226 := n0_; have HB := n1_; have BK227 := n2_; have GW227 := n3_; have GE227 := n4_; have NB226_227 := n5_; have NB227_226 := n6_; clear n0_ n1_ n2_ n3_ n4_ n5_ n6_; clear hb hbox hg; have hnb24 := NB226_227.out; have hnc24 := NB227_226.out; obtain ⟨hcz25_0, hcz25_1, hcz25_2, hcz25_3⟩ := qc4 BK226.out; obtain ⟨hfz25_0, hfz25_1, hfz25_2, hfz25_3⟩ := qf4 BK226.out; obtain ⟨hcz26_0, hcz26_1, hcz26_2, hcz26_3⟩ := qc4 BK227.out; obtain ⟨hfz26_0, hfz26_1, hfz26_2, hfz26_3⟩ := qf4 BK227.out))
  go_ret
  exact ⟨by first | rfl | (simp [errW_none, errW_some] <;> rfl) | (simp [*, errW_none, errW_some] <;> rfl), by repeat (first | (with_reducible first | exact HB.out | apply qL | apply qJ | apply qK | refine qI ?_ GE226.out | refine qI ?_ GE227.out) | exact HB.out)⟩

/-! ### codicilref29_fields: function 79 -/
def codicilref29_fields.l0 : Nat → List (S59) → Int → Option (Bool)
 | 0, _, _ => none
 | k + 1, x0, x3 => if x3 < (x0.length : Int) then (if 0 ≤ x3 then ((codicilref29_token.f k ((rd_T59 x0 x3).f0)).bind fun t230 => (if t230 = true then ((codicilref29_small.f ((rd_T59 x0 x3).f0)).bind fun t231 => (if t231.toList = ((rd_T59 x0 x3).f0).toList then (if ((rd_T59 x0 x3).f0).toList = ([99, 111, 110, 116, 101, 110, 116, 45, 108, 101, 110, 103, 116, 104] : List UInt8) then (some false) else (if ((rd_T59 x0 x3).f0).toList = ([116, 114, 97, 110, 115, 102, 101, 114, 45, 101, 110, 99, 111, 100, 105, 110, 103] : List UInt8) then (some false) else ((codicilref29_value.f k ((rd_T59 x0 x3).f1)).bind fun t233 => (if t233 = true then (codicilref29_fields.l0 k x0 (wrap64 (x3 + 1))) else (some false))))) else (some false))) else (some false))) else (none)) else (some (decide ((x0.length : Int) < 64)))
def codicilref29_fields.f (k : Nat) (l0 : List (S59)) : Option (Bool) := codicilref29_fields.l0 k l0 0
theorem codicilref29_fields.mono_l : ∀ k, (∀ y0 y1, LeO (codicilref29_fields.l0 k y0 y1) (codicilref29_fields.l0 (k + 1) y0 y1))
 | 0 => fun _ _ r h => by simp [codicilref29_fields.l0] at h
 | k + 1 => by
  have ih0 := codicilref29_fields.mono_l k
  ·intro y0 y1
   unfold codicilref29_fields.l0
   repeat' first
   | (with_reducible exact ih0 _ _)
   | (with_reducible exact codicilref29_token.mono _ _)
   | (with_reducible exact codicilref29_value.mono _ _)
   | (with_reducible exact LeO.refl _)
   | (with_reducible exact LeO.none _)
   | (with_reducible refine LeO.ite ?_ ?_)
   | (with_reducible refine LeO.bind ?_ (fun _ => ?_))
   | exact ih0 _ _
   | exact codicilref29_token.mono _ _
   | exact codicilref29_value.mono _ _
   | exact LeO.none _
   | refine LeO.ite ?_ ?_
   | refine LeO.bind ?_ (fun _ => ?_)
theorem codicilref29_fields.mono : ∀ a0 k, LeO (codicilref29_fields.f k a0) (codicilref29_fields.f (k + 1) a0) := by
 intro a0 k
 have ih0 := codicilref29_fields.mono_l k
 unfold codicilref29_fields.f
 repeat' first
   | (with_reducible exact ih0 _ _)
   | (with_reducible exact codicilref29_token.mono _ _)
   | (with_reducible exact codicilref29_value.mono _ _)
   | (with_reducible exact LeO.refl _)
   | (with_reducible exact LeO.none _)
   | (with_reducible refine LeO.ite ?_ ?_)
   | (with_reducible refine LeO.bind ?_ (fun _ => ?_))
   | exact ih0 _ _
   | exact codicilref29_token.mono _ _
   | exact codicilref29_value.mono _ _
   | exact LeO.none _
   | refine LeO.ite ?_ ?_
   | refine LeO.bind ?_ (fun _ => ?_)
set_option maxHeartbeats 8000000 in
set_option maxRecDepth 100000 in
theorem codicilref29_fields.calls (k : Nat) (A0 : Option Addr) (c0 : Nat) (l0 : List (S59)) (r : Bool) (w : World) (hr0 : Kd.C k59 w A0 l0.length l0) (hc0 : l0.length ≤ c0) (h : codicilref29_fields.f k l0 = some r) :
  Calls Tryz.prog 79 #[.slice A0 l0.length c0] w fun e w' => e = .returned (.bool r) ∧ Below w.heap.size w w' := by
 have HR0 := qH hr0
 have HC0 := qH hc0
 clear hr0 hc0
 have HB := qH (Below.refl w.heap.size w)
 have H : (codicilref29_fields.l0 k l0 0) = some r := h
 clear h
 have H' := qH H
 clear H
 go_enter Tryz.func79, Tryz.ntmps79
 go_wp2
 go_loopg [3] k (fun kq v3 w' => ∃ (x3_1 : Int), v3 = .int .i64 x3_1 ∧ Aside0 (codicilref29_fields.l0 kq l0 x3_1 = some r) ∧ Aside0 (kq ≤ k) ∧ Aside0 (Below w.heap.size w w'))
 case atStart => exact ⟨(0), zz3, H', ⟨Nat.le_refl _⟩, ⟨by repeat (first | (with_reducible first | exact HB.out | apply qL | apply qJ | apply qK) | exact HB.out)⟩⟩
 case round =>
  clear H'
  obtain ⟨x3_1, rfl, HA, HK1, HB⟩ := hrel
  cases gk with
  | zero => exact absurd HA.out (by simp [codicilref29_fields.l0])
  | succ k1 =>
   have H := HA.out
   clear HA
   simp only [codicilref29_fields.l0] at H
   by_cases c2 : x3_1 < (l0.length : Int)
   ·rw [if_pos c2] at H
    have c2b0 : decide (x3_1 < (l0.length : Int)) = true := decide_eq_true c2
    clear c2
    by_cases c3 : 0 ≤ x3_1
    ·rw [if_pos c3] at H
     have c3b0 : decide (0 ≤ x3_1) = true := decide_eq_true c3
     clear c3
     replace H := Option.bind_eq_some_iff.mp H
     obtain ⟨t230, A40, H⟩ := H
     (try dsimp only at H)
     have A4 := qH A40
     clear A40
     by_cases c5 : t230 = true
     ·subst c5
      have H1 : ((codicilref29_small.f ((rd_T59 l0 x3_1).f0)).bind fun t231 => (if t231.toList = ((rd_T59 l0 x3_1).f0).toList then (if ((rd_T59 l0 x3_1).f0).toList = ([99, 111, 110, 116, 101, 110, 116, 45, 108, 101, 110, 103, 116, 104] : List UInt8) then (some false) else (if ((rd_T59 l0 x3_1).f0).toList = ([116, 114, 97, 110, 115, 102, 101, 114, 45, 101, 110, 99, 111, 100, 105, 110, 103] : List UInt8) then (some false) else ((codicilref29_value.f k1 ((rd_T59 l0 x3_1).f1)).bind fun t233 => (if t233 = true then (codicilref29_fields.l0 k1 l0 (wrap64 (x3_1 + 1))) else (some false))))) else (some false))) = some r := by rw [if_pos rfl] at H; exact H
      clear H
      have H := H1
      clear H1
      replace H := Option.bind_eq_some_iff.mp H
      obtain ⟨t231, A60, H⟩ := H
      (try dsimp only at H)
      have A6 := qH A60
      clear A60
      by_cases c7 : t231.toList = ((rd_T59 l0 x3_1).f0).toList
      ·rw [if_pos c7] at H
       have c7b0 : (t231.toList == ((rd_T59 l0 x3_1).f0).toList) = true := beq_iff_eq.mpr c7
       have c7b1 : (t231.toList != ((rd_T59 l0 x3_1).f0).toList) = false := bne_eq_false_iff_eq.mpr c7
       clear c7
       by_cases c8 : ((rd_T59 l0 x3_1).f0).toList = ([99, 111, 110, 116, 101, 110, 116, 45, 108, 101, 110, 103, 116, 104] : List UInt8)
       ·rw [if_pos c8] at H
        have c8b0 : (((rd_T59 l0 x3_1).f0).toList == ([99, 111, 110, 116, 101, 110, 116, 45, 108, 101, 110, 103, 116, 104] : List UInt8)) = true := beq_iff_eq.mpr c8
        have c8b1 : (((rd_T59 l0 x3_1).f0).toList != ([99, 111, 110, 116, 101, 110, 116, 45, 108, 101, 110, 103, 116, 104] : List UInt8)) = false := bne_eq_false_iff_eq.mpr c8
        clear c8
        obtain rfl := Option.some.inj H
        simp only [Option.some.injEq, Prod.mk.injEq] at H
        obtain ⟨rfl⟩ := H
        have p229 : 0 ≤ (x3_1 : Int) := of_decide_eq_true zz0
        have q229 : x3_1 < (l0.length : Int) := of_decide_eq_true zz0
        obtain ⟨ad229, e229, hx229_0, hx229_1⟩ := at_T59 HR0.out x3_1 p229 q229
        cases e229
        replace hx229_0 := (HB.out.cell (qO w _ hx229_0)).trans hx229_0
        replace hx229_1 := (HB.out.cell (qO w _ hx229_1)).trans hx229_1
        replace p229 := eq_true p229
        replace q229 := eq_true q229
        go_wp2_with (first | ((with_reducible refine gate_callee (f := 52) rfl ?_); refine goesL_ (some 17) rfl rfl Tryz.func52 (by kernel_rfl) rfl #[.string ((rd_T59 l0 x3_1).f0)] rfl zz4 ?_; (with_reducible refine (codicilref29_token.calls k1 ((rd_T59 l0 x3_1).f0) true _ A4.out).mono ?_); rintro e w' ⟨rfl, ⟨nd, rfl⟩⟩; refine ⟨_, rfl, ?_⟩) | (go_at_call 97; (with_reducible refine (codicilref29_small.calls ((rd_T59 l0 x3_1).f0) t231 _ A6.out).mono ?_); rintro e w9 ⟨rfl, hb⟩; have n0_ := qH (below_step zz2 hb); clear HB; have HB := n0_; clear n0_; (try clear hb); (try clear hb2); (try clear hk); (try clear hi)))
        go_ret
        exact ⟨by first | rfl | (simp [errW_none, errW_some] <;> rfl) | (simp [*, errW_none, errW_some] <;> rfl), by repeat (first | (with_reducible first | exact HB.out | apply qL | apply qJ | apply qK) | exact HB.out)⟩
       ·rw [if_neg c8] at H
        have c8b0 : (((rd_T59 l0 x3_1).f0).toList == ([99, 111, 110, 116, 101, 110, 116, 45, 108, 101, 110, 103, 116, 104] : List UInt8)) = false := beq_eq_false_iff_ne.mpr c8
        have c8b1 : (((rd_T59 l0 x3_1).f0).toList != ([99, 111, 110, 116, 101, 110, 116, 45, 108, 101, 110, 103, 116, 104] : List UInt8)) = true := bne_iff_ne.mpr c8
        by_cases c10 : ((rd_T59 l0 x3_1).f0).toList = ([116, 114, 97, 110, 115, 102, 101, 114, 45, 101, 110, 99, 111, 100, 105, 110, 103] : List UInt8)
        ·rw [if_pos c10] at H
         have c10b0 : (((rd_T59 l0 x3_1).f0).toList == ([116, 114, 97, 110, 115, 102, 101, 114, 45, 101, 110, 99, 111, 100, 105, 110, 103] : List UInt8)) = true := beq_iff_eq.mpr c10
         have c10b1 : (((rd_T59 l0 x3_1).f0).toList != ([116, 114, 97, 110, 115, 102, 101, 114, 45, 101, 110, 99, 111, 100, 105, 110, 103] : List UInt8)) = false := bne_eq_false_iff_eq.mpr c10
         clear c10
         obtain rfl := Option.some.inj H
         simp only [Option.some.injEq, Prod.mk.injEq] at H
         obtain ⟨rfl⟩ := H
         have p229 : 0 ≤ (x3_1 : Int) := of_decide_eq_true zz0
         have q229 : x3_1 < (l0.length : Int) := of_decide_eq_true zz0
         obtain ⟨ad229, e229, hx229_0, hx229_1⟩ := at_T59 HR0.out x3_1 p229 q229
         cases e229
         replace hx229_0 := (HB.out.cell (qO w _ hx229_0)).trans hx229_0
         replace hx229_1 := (HB.out.cell (qO w _ hx229_1)).trans hx229_1
         replace p229 := eq_true p229
         replace q229 := eq_true q229
         go_wp2_with (first | ((with_reducible refine gate_callee (f := 52) rfl ?_); refine goesL_ (some 17) rfl rfl Tryz.func52 (by kernel_rfl) rfl #[.string ((rd_T59 l0 x3_1).f0)] rfl zz4 ?_; (with_reducible refine (codicilref29_token.calls k1 ((rd_T59 l0 x3_1).f0) true _ A4.out).mono ?_); rintro e w' ⟨rfl, ⟨nd, rfl⟩⟩; refine ⟨_, rfl, ?_⟩) | (go_at_call 97; (with_reducible refine (codicilref29_small.calls ((rd_T59 l0 x3_1).f0) t231 _ A6.out).mono ?_); rintro e w11 ⟨rfl, hb⟩; have n0_ := qH (below_step zz2 hb); clear HB; have HB := n0_; clear n0_; (try clear hb); (try clear hb2); (try clear hk); (try clear hi)))
         go_ret
         exact ⟨by first | rfl | (simp [errW_none, errW_some] <;> rfl) | (simp [*, errW_none, errW_some] <;> rfl), by repeat (first | (with_reducible first | exact HB.out | apply qL | apply qJ | apply qK) | exact HB.out)⟩
        ·rw [if_neg c10] at H
         have c10b0 : (((rd_T59 l0 x3_1).f0).toList == ([116, 114, 97, 110, 115, 102, 101, 114, 45, 101, 110, 99, 111, 100, 105, 110, 103] : List UInt8)) = false := beq_eq_false_iff_ne.mpr c10
         have c10b1 : (((rd_T59 l0 x3_1).f0).toList != ([116, 114, 97, 110, 115, 102, 101, 114, 45, 101, 110, 99, 111, 100, 105, 110, 103] : List UInt8)) = true := bne_iff_ne.mpr c10
         replace H := Option.bind_eq_some_iff.mp H
         obtain ⟨t233, A120, H⟩ := H
         (try dsimp only at H)
         have A12 := qH A120
         clear A120
         by_cases c13 : t233 = true
         ·subst c13
          have H1 : (codicilref29_fields.l0 k1 l0 (wrap64 (x3_1 + 1))) = some r := by rw [if_pos rfl] at H; exact H
          clear H
          have H := H1
          clear H1
          have H' := qH H
          clear H
          have p229 : 0 ≤ (x3_1 : Int) := of_decide_eq_true zz0
          have q229 : x3_1 < (l0.length : Int) := of_decide_eq_true zz0
          obtain ⟨ad229, e229, hx229_0, hx229_1⟩ := at_T59 HR0.out x3_1 p229 q229
          cases e229
          replace hx229_0 := (HB.out.cell (qO w _ hx229_0)).trans hx229_0
          replace hx229_1 := (HB.out.cell (qO w _ hx229_1)).trans hx229_1
          replace p229 := eq_true p229
          replace q229 := eq_true q229
          go_wp2_with (first | ((with_reducible refine gate_callee (f := 52) rfl ?_); refine goesL_ (some 17) rfl rfl Tryz.func52 (by kernel_rfl) rfl #[.string ((rd_T59 l0 x3_1).f0)] rfl zz4 ?_; (with_reducible refine (codicilref29_token.calls k1 ((rd_T59 l0 x3_1).f0) true _ A4.out).mono ?_); rintro e w' ⟨rfl, ⟨nd, rfl⟩⟩; refine ⟨_, rfl, ?_⟩) | (go_at_call 97; (with_reducible refine (codicilref29_small.calls ((rd_T59 l0 x3_1).f0) t231 _ A6.out).mono ?_); rintro e w14 ⟨rfl, hb⟩; have n0_ := qH (below_step zz2 hb); clear HB; have HB := n0_; clear n0_; (try clear hb); (try clear hb2); (try clear hk); (try clear hi); have p232 : 0 ≤ (x3_1 : Int) := of_decide_eq_true zz0; have q232 : x3_1 < (l0.length : Int) := of_decide_eq_true zz0; obtain ⟨ad232, e232, hx232_0, hx232_1⟩ := at_T59 HR0.out x3_1 p232 q232; obtain rfl : ad229 = ad232 := (by injection e232); replace hx232_0 := (HB.out.cell (qO w _ hx232_0)).trans hx232_0; replace hx232_1 := (HB.out.cell (qO w _ hx232_1)).trans hx232_1; replace p232 := eq_true p232; replace q232 := eq_true q232) | (go_at_call 72; (with_reducible refine (codicilref29_value.calls k1 ((rd_T59 l0 x3_1).f1) true _ A12.out).mono ?_); rintro e w' ⟨rfl, ⟨nd, rfl⟩⟩))
          go_roundg k1
          case measure => have := HK1.out; omega
          case rel => exact ⟨(wrap64 (x3_1 + 1)), zz3, H', ⟨by have := HK1.out; omega⟩, ⟨by repeat (first | (with_reducible first | exact HB.out | apply qL | apply qJ | apply qK) | exact HB.out)⟩⟩
         ·replace c13 := Bool.eq_false_iff.mpr c13
          subst c13
          have H1 : (some false) = some r := by rw [if_neg (show ¬ (false = true) by decide)] at H; exact H
          clear H
          have H := H1
          clear H1
          obtain rfl := Option.some.inj H
          simp only [Option.some.injEq, Prod.mk.injEq] at H
          obtain ⟨rfl⟩ := H
          have p229 : 0 ≤ (x3_1 : Int) := of_decide_eq_true zz0
          have q229 : x3_1 < (l0.length : Int) := of_decide_eq_true zz0
          obtain ⟨ad229, e229, hx229_0, hx229_1⟩ := at_T59 HR0.out x3_1 p229 q229
          cases e229
          replace hx229_0 := (HB.out.cell (qO w _ hx229_0)).trans hx229_0
          replace hx229_1 := (HB.out.cell (qO w _ hx229_1)).trans hx229_1
          replace p229 := eq_true p229
          replace q229 := eq_true q229
          go_wp2_with (first | ((with_reducible refine gate_callee (f := 52) rfl ?_); refine goesL_ (some 17) rfl rfl Tryz.func52 (by kernel_rfl) rfl #[.string ((rd_T59 l0 x3_1).f0)] rfl zz4 ?_; (with_reducible refine (codicilref29_token.calls k1 ((rd_T59 l0 x3_1).f0) true _ A4.out).mono ?_); rintro e w' ⟨rfl, ⟨nd, rfl⟩⟩; refine ⟨_, rfl, ?_⟩) | (go_at_call 97; (with_reducible refine (codicilref29_small.calls ((rd_T59 l0 x3_1).f0) t231 _ A6.out).mono ?_); rintro e w15 ⟨rfl, hb⟩; have n0_ := qH (below_step zz2 hb); clear HB; have HB := n0_; clear n0_; (try clear hb); (try clear hb2); (try clear hk); (try clear hi); have p232 : 0 ≤ (x3_1 : Int) := of_decide_eq_true zz0; have q232 : x3_1 < (l0.length : Int) := of_decide_eq_true zz0; obtain ⟨ad232, e232, hx232_0, hx232_1⟩ := at_T59 HR0.out x3_1 p232 q232; obtain rfl : ad229 = ad232 := (by injection e232); replace hx232_0 := (HB.out.cell (qO w _ hx232_0)).trans hx232_0; replace hx232_1 := (HB.out.cell (qO w _ hx232_1)).trans hx232_1; replace p232 := eq_true p232; replace q232 := eq_true q232) | (go_at_call 72; (with_reducible refine (codicilref29_value.calls k1 ((rd_T59 l0 x3_1).f1) false _ A12.out).mono ?_); rintro e w' ⟨rfl, ⟨nd, rfl⟩⟩))
          go_ret
          exact ⟨by first | rfl | (simp [errW_none, errW_some] <;> rfl) | (simp [*, errW_none, errW_some] <;> rfl), by repeat (first | (with_reducible first | exact HB.out | apply qL | apply qJ | apply qK) | exact HB.out)⟩
      ·rw [if_neg c7] at H
       have c7b0 : (t231.toList == ((rd_T59 l0 x3_1).f0).toList) = false := beq_eq_false_iff_ne.mpr c7
       have c7b1 : (t231.toList != ((rd_T59 l0 x3_1).f0).toList) = true := bne_iff_ne.mpr c7
       obtain rfl := Option.some.inj H
       simp only [Option.some.injEq, Prod.mk.injEq] at H
       obtain ⟨rfl⟩ := H
       have p229 : 0 ≤ (x3_1 : Int) := of_decide_eq_true zz0
       have q229 : x3_1 < (l0.length : Int) := of_decide_eq_true zz0
       obtain ⟨ad229, e229, hx229_0, hx229_1⟩ := at_T59 HR0.out x3_1 p229 q229
       cases e229
       replace hx229_0 := (HB.out.cell (qO w _ hx229_0)).trans hx229_0
       replace hx229_1 := (HB.out.cell (qO w _ hx229_1)).trans hx229_1
       replace p229 := eq_true p229
       replace q229 := eq_true q229
       go_wp2_with (first | ((with_reducible refine gate_callee (f := 52) rfl ?_); refine goesL_ (some 17) rfl rfl Tryz.func52 (by kernel_rfl) rfl #[.string ((rd_T59 l0 x3_1).f0)] rfl zz4 ?_; (with_reducible refine (codicilref29_token.calls k1 ((rd_T59 l0 x3_1).f0) true _ A4.out).mono ?_); rintro e w' ⟨rfl, ⟨nd, rfl⟩⟩; refine ⟨_, rfl, ?_⟩) | (go_at_call 97; (with_reducible refine (codicilref29_small.calls ((rd_T59 l0 x3_1).f0) t231 _ A6.out).mono ?_); rintro e w16 ⟨rfl, hb⟩; have n0_ := qH (below_step zz2 hb); clear HB; have HB := n0_; clear n0_; (try clear hb); (try clear hb2); (try clear hk); (try clear hi)))
       go_ret
       exact ⟨by first | rfl | (simp [errW_none, errW_some] <;> rfl) | (simp [*, errW_none, errW_some] <;> rfl), by repeat (first | (with_reducible first | exact HB.out | apply qL | apply qJ | apply qK) | exact HB.out)⟩
     ·replace c5 := Bool.eq_false_iff.mpr c5
      subst c5
      have H1 : (some false) = some r := by rw [if_neg (show ¬ (false = true) by decide)] at H; exact H
      clear H
      have H := H1
      clear H1
      obtain rfl := Option.some.inj H
      simp only [Option.some.injEq, Prod.mk.injEq] at H
      obtain ⟨rfl⟩ := H
      have p229 : 0 ≤ (x3_1 : Int) := of_decide_eq_true zz0
      have q229 : x3_1 < (l0.length : Int) := of_decide_eq_true zz0
      obtain ⟨ad229, e229, hx229_0, hx229_1⟩ := at_T59 HR0.out x3_1 p229 q229
      cases e229
      replace hx229_0 := (HB.out.cell (qO w _ hx229_0)).trans hx229_0
      replace hx229_1 := (HB.out.cell (qO w _ hx229_1)).trans hx229_1
      replace p229 := eq_true p229
      replace q229 := eq_true q229
      go_wp2_with (first | ((with_reducible refine gate_callee (f := 52) rfl ?_); refine goesL_ (some 17) rfl rfl Tryz.func52 (by kernel_rfl) rfl #[.string ((rd_T59 l0 x3_1).f0)] rfl zz4 ?_; (with_reducible refine (codicilref29_token.calls k1 ((rd_T59 l0 x3_1).f0) false _ A4.out).mono ?_); rintro e w' ⟨rfl, ⟨nd, rfl⟩⟩; refine ⟨_, rfl, ?_⟩))
      go_ret
      exact ⟨by first | rfl | (simp [errW_none, errW_some] <;> rfl) | (simp [*, errW_none, errW_some] <;> rfl), by repeat (first | (with_reducible first | exact HB.out | apply qL | apply qJ | apply qK) | exact HB.out)⟩
    ·rw [if_neg c3] at H
     exact absurd H zz65
   ·rw [if_neg c2] at H
    have c2b0 : decide (x3_1 < (l0.length : Int)) = false := decide_eq_false c2
    clear c2
    obtain rfl := Option.some.inj H
    simp only [Option.some.injEq, Prod.mk.injEq] at H
    obtain ⟨rfl⟩ := H
    go_wp2
    go_ret
    exact ⟨by first | rfl | (simp [errW_none, errW_some] <;> rfl) | (simp [*, errW_none, errW_some] <;> rfl), by repeat (first | (with_reducible first | exact HB.out | apply qL | apply qJ | apply qK) | exact HB.out)⟩

end Go.Proofs.YtddjhmelniphgaaGreatDoor.Print
