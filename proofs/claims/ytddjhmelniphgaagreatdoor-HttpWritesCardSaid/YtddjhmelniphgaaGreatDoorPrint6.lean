-- Written by wip/tools/xprint.py of this session's repo (the kit's print, run with external functions). Lean checks it.
import Derived.Test.YtddjhmelniphgaaGreatDoorHAm
import Derived.Test.YtddjhmelniphgaaGreatDoorPrint0
import Derived.Test.YtddjhmelniphgaaGreatDoorPrint1
import Derived.Test.YtddjhmelniphgaaGreatDoorPrint2
import Derived.Test.YtddjhmelniphgaaGreatDoorPrint4
import Derived.Test.YtddjhmelniphgaaGreatDoorPrint5
import Derived.Test.YtddjhmelniphgaaGreatDoorHAlive29
import Derived.Test.YtddjhmelniphgaaGreatDoorHTAsk
namespace Go.Proofs.YtddjhmelniphgaaGreatDoor.Print
open Go.RowKit Go.Proofs.YtddjhmelniphgaaGreatDoorW.PrintWords Go.Proofs.YtddjhmelniphgaaGreatDoorW.PrintLast Go.Proofs.YtddjhmelniphgaaGreatDoorW.PrintMore
attribute [local go_sem] max2_int min2_int max_two min_two max_three min_three max_four min_four   -- for this text's walks alone
set_option linter.unusedVariables false
set_option linter.unusedSimpArgs false

/-! ### codicillaw29_HttpWrites: function 5 -/
def codicillaw29_HttpWrites.j0 : Nat → ByteArray → Bool → ByteArray → ByteArray → List (S59) → ByteArray → Int → List (S59) → ByteArray → Option (Bool)
 | 0, _, _, _, _, _, _, _, _, _ => none
 | k + 1, x2, x45, x185000, x185001, x185002, x185003, x186000, x186001, x186002 => if x45 = true then ((codicillaw29_alive.f k).bind fun t188 => (some t188)) else ((http_Ask.f x185000 x185001 x185002 x185003).bind fun bt189 => ((codicilref29_Ask.f k x185000 x185001 x185002 x185003).bind fun bt191 => ((http_Write.f x186000 x186001 x186002).bind fun bt193 => ((codicilref29_Write.f k x186000 x186001 x186002).bind fun bt195 => ((http_Get.f k x185002 x2).bind fun bt197 => ((codicilref29_Get.f k x185002 x2).bind fun bt199 => (if bt189.1.toList = bt191.1.toList then (if bt189.2 = bt191.2 then (if bt193.1.toList = bt195.1.toList then (if bt193.2 = bt195.2 then (if bt197.1.toList = bt199.1.toList then (if (bt197.2 == bt199.2) = true then ((codicillaw29_alive.f k).bind fun t201 => (some t201)) else (some false)) else (some false)) else (some false)) else (some false)) else (some false)) else (some false))))))))
def codicillaw29_HttpWrites.f (k : Nat) (a0_0 : ByteArray) (a0_1 : ByteArray) (l0_2 : List (S59)) (a0_3 : ByteArray) (a1_0 : Int) (l1_1 : List (S59)) (a1_2 : ByteArray) (a2 : ByteArray) : Option (Bool) := (codicillaw29_large.f k l0_2 a0_3).bind fun t186 => (if t186 = true then (codicillaw29_HttpWrites.j0 k a2 true a0_0 a0_1 l0_2 a0_3 a1_0 l1_1 a1_2) else ((codicillaw29_large.f k l1_1 a1_2).bind fun t187 => (if t187 = true then (codicillaw29_HttpWrites.j0 k a2 true a0_0 a0_1 l0_2 a0_3 a1_0 l1_1 a1_2) else (if (wrap64 ((a0_0.size : Int) + (a0_1.size : Int))) > 4096 then (codicillaw29_HttpWrites.j0 k a2 true a0_0 a0_1 l0_2 a0_3 a1_0 l1_1 a1_2) else (codicillaw29_HttpWrites.j0 k a2 (decide ((a2.size : Int) > 1024)) a0_0 a0_1 l0_2 a0_3 a1_0 l1_1 a1_2)))))
theorem codicillaw29_HttpWrites.mono_l : ∀ k, (∀ y0 y1 y2 y3 y4 y5 y6 y7 y8, LeO (codicillaw29_HttpWrites.j0 k y0 y1 y2 y3 y4 y5 y6 y7 y8) (codicillaw29_HttpWrites.j0 (k + 1) y0 y1 y2 y3 y4 y5 y6 y7 y8))
 | 0 => fun _ _ _ _ _ _ _ _ _ r h => by simp [codicillaw29_HttpWrites.j0] at h
 | k + 1 => by
  have ih0 := codicillaw29_HttpWrites.mono_l k
  ·intro y0 y1 y2 y3 y4 y5 y6 y7 y8
   unfold codicillaw29_HttpWrites.j0
   repeat' first
   | (with_reducible exact ih0 _ _ _ _ _ _ _ _ _)
   | (with_reducible exact codicillaw29_alive.mono _)
   | (with_reducible exact codicillaw29_large.mono _ _ _)
   | (with_reducible exact codicilref29_Ask.mono _ _ _ _ _)
   | (with_reducible exact codicilref29_Get.mono _ _ _)
   | (with_reducible exact codicilref29_Write.mono _ _ _ _)
   | (with_reducible exact http_Get.mono _ _ _)
   | (with_reducible exact LeO.refl _)
   | (with_reducible exact LeO.none _)
   | (with_reducible refine LeO.ite ?_ ?_)
   | (with_reducible refine LeO.bind ?_ (fun _ => ?_))
   | exact ih0 _ _ _ _ _ _ _ _ _
   | exact codicillaw29_alive.mono _
   | exact codicillaw29_large.mono _ _ _
   | exact codicilref29_Ask.mono _ _ _ _ _
   | exact codicilref29_Get.mono _ _ _
   | exact codicilref29_Write.mono _ _ _ _
   | exact http_Get.mono _ _ _
   | exact LeO.none _
   | refine LeO.ite ?_ ?_
   | refine LeO.bind ?_ (fun _ => ?_)
theorem codicillaw29_HttpWrites.mono : ∀ a0 a1 a2 a3 a4 a5 a6 a7 k, LeO (codicillaw29_HttpWrites.f k a0 a1 a2 a3 a4 a5 a6 a7) (codicillaw29_HttpWrites.f (k + 1) a0 a1 a2 a3 a4 a5 a6 a7) := by
 intro a0 a1 a2 a3 a4 a5 a6 a7 k
 have ih0 := codicillaw29_HttpWrites.mono_l k
 unfold codicillaw29_HttpWrites.f
 repeat' first
   | (with_reducible exact ih0 _ _ _ _ _ _ _ _ _)
   | (with_reducible exact codicillaw29_alive.mono _)
   | (with_reducible exact codicillaw29_large.mono _ _ _)
   | (with_reducible exact codicilref29_Ask.mono _ _ _ _ _)
   | (with_reducible exact codicilref29_Get.mono _ _ _)
   | (with_reducible exact codicilref29_Write.mono _ _ _ _)
   | (with_reducible exact http_Get.mono _ _ _)
   | (with_reducible exact LeO.refl _)
   | (with_reducible exact LeO.none _)
   | (with_reducible refine LeO.ite ?_ ?_)
   | (with_reducible refine LeO.bind ?_ (fun _ => ?_))
   | exact ih0 _ _ _ _ _ _ _ _ _
   | exact codicillaw29_alive.mono _
   | exact codicillaw29_large.mono _ _ _
   | exact codicilref29_Ask.mono _ _ _ _ _
   | exact codicilref29_Get.mono _ _ _
   | exact codicilref29_Write.mono _ _ _ _
   | exact http_Get.mono _ _ _
   | exact LeO.none _
   | refine LeO.ite ?_ ?_
   | refine LeO.bind ?_ (fun _ => ?_)
set_option maxHeartbeats 8000000 in
set_option maxRecDepth 100000 in
theorem codicillaw29_HttpWrites.calls1 (k : Nat) (a0_0 : ByteArray) (a0_1 : ByteArray) (A0_2 : Option Addr) (c0_2 : Nat) (l0_2 : List (S59)) (a0_3 : ByteArray) (a1_0 : Int) (A1_1 : Option Addr) (c1_1 : Nat) (l1_1 : List (S59)) (a1_2 : ByteArray) (a2 : ByteArray) (r : Bool) (w : World) (hr0_2 : Kd.C k59 w A0_2 l0_2.length l0_2) (hc0_2 : l0_2.length ≤ c0_2) (hr1_1 : Kd.C k59 w A1_1 l1_1.length l1_1) (hc1_1 : l1_1.length ≤ c1_1) (h : codicillaw29_HttpWrites.f k a0_0 a0_1 l0_2 a0_3 a1_0 l1_1 a1_2 a2 = some r) (hTrue : Aside0 (r = true)) (HL : Laid0 w) :
  Calls Tryz.prog 5 #[.agg #[.string a0_0, .string a0_1, .slice A0_2 l0_2.length c0_2, .string a0_3], .agg #[.int .i64 a1_0, .slice A1_1 l1_1.length c1_1, .string a1_2], .string a2] w fun e w' => e = .returned (.bool r) ∧ Below w.heap.size w w' := by
 have hu25 := Tryz.underlying25
 have hu32 := Tryz.underlying32
 have HR0_2 := qH hr0_2
 have HC0_2 := qH hc0_2
 clear hr0_2 hc0_2
 have HR1_1 := qH hr1_1
 have HC1_1 := qH hc1_1
 clear hr1_1 hc1_1
 have HB := qH (Below.refl w.heap.size w)
 have H : ((codicillaw29_large.f k l0_2 a0_3).bind fun t186 => (if t186 = true then (codicillaw29_HttpWrites.j0 k a2 true a0_0 a0_1 l0_2 a0_3 a1_0 l1_1 a1_2) else ((codicillaw29_large.f k l1_1 a1_2).bind fun t187 => (if t187 = true then (codicillaw29_HttpWrites.j0 k a2 true a0_0 a0_1 l0_2 a0_3 a1_0 l1_1 a1_2) else (if (wrap64 ((a0_0.size : Int) + (a0_1.size : Int))) > 4096 then (codicillaw29_HttpWrites.j0 k a2 true a0_0 a0_1 l0_2 a0_3 a1_0 l1_1 a1_2) else (codicillaw29_HttpWrites.j0 k a2 (decide ((a2.size : Int) > 1024)) a0_0 a0_1 l0_2 a0_3 a1_0 l1_1 a1_2)))))) = some r := h
 clear h
 have HC4 := qH H
 clear H
 go_enter Tryz.func5, Tryz.ntmps5
 go_upto_region 1 with (first | ((with_reducible refine gate_dst (N := 3) rfl ?_); (try (refine gate_guard (by rfl) ?_; dsimp only)); refine box_event ?hg (N := 3) ?hd (cs := #[.string a0_0, .string a0_1, .slice A0_2 l0_2.length c0_2, .string a0_3]) (t := 25) ?hr ?_; (case hd => rfl); (case hg => rfl); (case hr => first | (go_simp; done) | (go_simp; rfl) | (go_simp; simp [IntKind.wrap_u32]; done)); intro gb184 hg w5 hbox hb; have n0_ := qH (below_step zz3 hb); have n1_ := qH (hbox); have n2_ := qH ((by rw [hg]; exact (below_size zz3) : w.heap.size ≤ gb184)); have n3_ := n2_; clear HB; have HB := n0_; have BK184 := n1_; have GW184 := n2_; have GE184 := n3_; clear n0_ n1_ n2_ n3_; clear hb hbox hg) | ((with_reducible refine gate_dst (N := 4) rfl ?_); (try (refine gate_guard (by rfl) ?_; dsimp only)); refine box_event ?hg (N := 4) ?hd (cs := #[.int .i64 a1_0, .slice A1_1 l1_1.length c1_1, .string a1_2]) (t := 32) ?hr ?_; (case hd => rfl); (case hg => rfl); (case hr => first | (go_simp; done) | (go_simp; rfl) | (go_simp; simp [IntKind.wrap_u32]; done)); intro gb185 hg w6 hbox hb; have n0_ := qH (qD (g := gb184) zz6 hb); have n1_ := qH (below_step (by repeat (first | (with_reducible first | exact HB.out | apply qL | apply qJ | apply qK | refine qI ?_ GE184.out) | exact HB.out)) hb); have n2_ := qH (hbox); have n3_ := qH ((by rw [hg]; exact (below_size (by repeat (first | (with_reducible first | exact HB.out | apply qL | apply qJ | apply qK | refine qI ?_ GE184.out) | exact HB.out))) : w.heap.size ≤ gb185)); have n4_ := n3_; have n5_ := qH ((by rw [hg]; exact qN (blk_lt (g := gb184) zz6) : gb184 ≠ gb185)); have n6_ := qH ((by rw [hg]; exact Nat.ne_of_gt (blk_lt (g := gb184) zz6) : gb185 ≠ gb184)); clear BK184; clear HB; have BK184 := n0_; have HB := n1_; have BK185 := n2_; have GW185 := n3_; have GE185 := n4_; have NB184_185 := n5_; have NB185_184 := n6_; clear n0_ n1_ n2_ n3_ n4_ n5_ n6_; clear hb hbox hg))
 (try simp only [Act.put, List.setIfInBounds_toArray, List.set_cons_zero, List.set_cons_succ])
 go_cut [45] (fun v45 wc => ∃ (kq : Nat) (x45_3 : Bool), v45 = .bool x45_3 ∧ Aside0 (codicillaw29_HttpWrites.j0 kq a2 x45_3 a0_0 a0_1 l0_2 a0_3 a1_0 l1_1 a1_2 = some r) ∧ Aside0 (kq ≤ k) ∧ Aside0 (wc.heap[gb184]? = some (.cells #[.string a0_0, .string a0_1, (.slice A0_2 l0_2.length c0_2), .string a0_3] 25 (0, 0))) ∧ Aside0 (wc.heap[gb185]? = some (.cells #[.int .i64 a1_0, (.slice A1_1 l1_1.length c1_1), .string a1_2] 32 (0, 0))) ∧ Aside0 (Below w.heap.size w wc))
 case first =>
  have H := HC4.out
  clear HC4
  replace H := Option.bind_eq_some_iff.mp H
  obtain ⟨t186, A70, H⟩ := H
  (try dsimp only at H)
  have A7 := qH A70
  clear A70
  by_cases c8 : t186 = true
  ·subst c8
   have H1 : (codicillaw29_HttpWrites.j0 k a2 true a0_0 a0_1 l0_2 a0_3 a1_0 l1_1 a1_2) = some r := by rw [if_pos rfl] at H; exact H
   clear H
   have H := H1
   clear H1
   have H' := qH H
   clear H
   have hnb9 := NB184_185.out
   have hnc9 := NB185_184.out
   have hcz10_0 : w6.cell? ⟨gb184, 0, none⟩ = some (.string a0_0) := (qE BK184.out 0).trans rfl
   have hcz10_1 : w6.cell? ⟨gb184, 1, none⟩ = some (.string a0_1) := (qE BK184.out 1).trans rfl
   have hcz10_2 : w6.cell? ⟨gb184, 2, none⟩ = some (.slice A0_2 l0_2.length c0_2) := (qE BK184.out 2).trans rfl
   have hcz10_3 : w6.cell? ⟨gb184, 3, none⟩ = some (.string a0_3) := (qE BK184.out 3).trans rfl
   have hfz10_0 := qF BK184.out 0
   have hfz10_1 := qF BK184.out 1
   have hfz10_2 := qF BK184.out 2
   have hfz10_3 := qF BK184.out 3
   go_wp2_with (first | ((with_reducible refine gate_callee (f := 19) rfl ?_); refine goesL_ (some 23) rfl rfl Tryz.func19 (by kernel_rfl) rfl #[.slice A0_2 l0_2.length c0_2, .string a0_3] rfl zz2 ?_; (with_reducible refine (codicillaw29_large.calls k _ _ l0_2 a0_3 true _ ?side1 ?side2 A7.out).mono ?_); (case side1 => repeat (first | exact (Kd.C_below HR0_2.out HB.out) | (with_reducible refine Kd.C_alloc ?_ _) | (with_reducible refine Kd.C_drewN ?_ _) | (with_reducible refine Kd.C_drew ?_))); (case side2 => exact HC0_2.out); rintro e w' ⟨rfl, ⟨nd, rfl⟩⟩; refine ⟨_, rfl, ?_⟩))
   go_meet
   case rel => exact ⟨_, (true), zz1, H', ⟨by first | omega | exact Nat.le_refl _⟩, ⟨by (with_reducible repeat first | apply qA | apply qC | apply qB); exact BK184.out⟩, ⟨by (with_reducible repeat first | apply qA | apply qC | apply qB); exact BK185.out⟩, ⟨by repeat (first | (with_reducible first | exact HB.out | apply qL | apply qJ | apply qK | refine qI ?_ GE184.out | refine qI ?_ GE185.out) | exact HB.out)⟩⟩
  ·replace c8 := Bool.eq_false_iff.mpr c8
   subst c8
   have H1 : ((codicillaw29_large.f k l1_1 a1_2).bind fun t187 => (if t187 = true then (codicillaw29_HttpWrites.j0 k a2 true a0_0 a0_1 l0_2 a0_3 a1_0 l1_1 a1_2) else (if (wrap64 ((a0_0.size : Int) + (a0_1.size : Int))) > 4096 then (codicillaw29_HttpWrites.j0 k a2 true a0_0 a0_1 l0_2 a0_3 a1_0 l1_1 a1_2) else (codicillaw29_HttpWrites.j0 k a2 (decide ((a2.size : Int) > 1024)) a0_0 a0_1 l0_2 a0_3 a1_0 l1_1 a1_2)))) = some r := by rw [if_neg (show ¬ (false = true) by decide)] at H; exact H
   clear H
   have H := H1
   clear H1
   replace H := Option.bind_eq_some_iff.mp H
   obtain ⟨t187, A110, H⟩ := H
   (try dsimp only at H)
   have A11 := qH A110
   clear A110
   by_cases c12 : t187 = true
   ·subst c12
    have H1 : (codicillaw29_HttpWrites.j0 k a2 true a0_0 a0_1 l0_2 a0_3 a1_0 l1_1 a1_2) = some r := by rw [if_pos rfl] at H; exact H
    clear H
    have H := H1
    clear H1
    have H' := qH H
    clear H
    have hnb13 := NB184_185.out
    have hnc13 := NB185_184.out
    have hcz14_0 : w6.cell? ⟨gb184, 0, none⟩ = some (.string a0_0) := (qE BK184.out 0).trans rfl
    have hcz14_1 : w6.cell? ⟨gb184, 1, none⟩ = some (.string a0_1) := (qE BK184.out 1).trans rfl
    have hcz14_2 : w6.cell? ⟨gb184, 2, none⟩ = some (.slice A0_2 l0_2.length c0_2) := (qE BK184.out 2).trans rfl
    have hcz14_3 : w6.cell? ⟨gb184, 3, none⟩ = some (.string a0_3) := (qE BK184.out 3).trans rfl
    have hfz14_0 := qF BK184.out 0
    have hfz14_1 := qF BK184.out 1
    have hfz14_2 := qF BK184.out 2
    have hfz14_3 := qF BK184.out 3
    go_wp2_with (first | ((with_reducible refine gate_callee (f := 19) rfl ?_); refine goesL_ (some 23) rfl rfl Tryz.func19 (by kernel_rfl) rfl #[.slice A0_2 l0_2.length c0_2, .string a0_3] rfl zz2 ?_; (with_reducible refine (codicillaw29_large.calls k _ _ l0_2 a0_3 false _ ?side1 ?side2 A7.out).mono ?_); (case side1 => repeat (first | exact (Kd.C_below HR0_2.out HB.out) | (with_reducible refine Kd.C_alloc ?_ _) | (with_reducible refine Kd.C_drewN ?_ _) | (with_reducible refine Kd.C_drew ?_))); (case side2 => exact HC0_2.out); rintro e w' ⟨rfl, ⟨nd, rfl⟩⟩; refine ⟨_, rfl, ?_⟩; obtain ⟨hcz15_0, hcz15_1, hcz15_2⟩ := qc3 BK185.out; obtain ⟨hfz15_0, hfz15_1, hfz15_2⟩ := qf3 BK185.out) | (go_at_call 19; (with_reducible refine (codicillaw29_large.calls k _ _ l1_1 a1_2 true _ ?side1 ?side2 A11.out).mono ?_); (case side1 => repeat (first | exact (Kd.C_below HR1_1.out zz4) | (with_reducible refine Kd.C_alloc ?_ _) | (with_reducible refine Kd.C_drewN ?_ _) | (with_reducible refine Kd.C_drew ?_))); (case side2 => exact HC1_1.out); rintro e w' ⟨rfl, ⟨nd, rfl⟩⟩))
    go_meet
    case rel => exact ⟨_, (true), zz1, H', ⟨by first | omega | exact Nat.le_refl _⟩, ⟨by (with_reducible repeat first | apply qA | apply qC | apply qB); exact BK184.out⟩, ⟨by (with_reducible repeat first | apply qA | apply qC | apply qB); exact BK185.out⟩, ⟨by repeat (first | (with_reducible first | exact HB.out | apply qL | apply qJ | apply qK | refine qI ?_ GE184.out | refine qI ?_ GE185.out) | exact HB.out)⟩⟩
   ·replace c12 := Bool.eq_false_iff.mpr c12
    subst c12
    have H1 : (if (wrap64 ((a0_0.size : Int) + (a0_1.size : Int))) > 4096 then (codicillaw29_HttpWrites.j0 k a2 true a0_0 a0_1 l0_2 a0_3 a1_0 l1_1 a1_2) else (codicillaw29_HttpWrites.j0 k a2 (decide ((a2.size : Int) > 1024)) a0_0 a0_1 l0_2 a0_3 a1_0 l1_1 a1_2)) = some r := by rw [if_neg (show ¬ (false = true) by decide)] at H; exact H
    clear H
    have H := H1
    clear H1
    by_cases c16 : (wrap64 ((a0_0.size : Int) + (a0_1.size : Int))) > 4096
    ·rw [if_pos c16] at H
     have c16b0 : decide (4096 < (wrap64 ((a0_0.size : Int) + (a0_1.size : Int)))) = true := decide_eq_true c16
     clear c16
     (first | rw [c16b0] | (simp only [i64_w, i32_w]; rw [c16b0]) | skip)
     have H' := qH H
     clear H
     have hnb17 := NB184_185.out
     have hnc17 := NB185_184.out
     have hcz18_0 : w6.cell? ⟨gb184, 0, none⟩ = some (.string a0_0) := (qE BK184.out 0).trans rfl
     have hcz18_1 : w6.cell? ⟨gb184, 1, none⟩ = some (.string a0_1) := (qE BK184.out 1).trans rfl
     have hcz18_2 : w6.cell? ⟨gb184, 2, none⟩ = some (.slice A0_2 l0_2.length c0_2) := (qE BK184.out 2).trans rfl
     have hcz18_3 : w6.cell? ⟨gb184, 3, none⟩ = some (.string a0_3) := (qE BK184.out 3).trans rfl
     have hfz18_0 := qF BK184.out 0
     have hfz18_1 := qF BK184.out 1
     have hfz18_2 := qF BK184.out 2
     have hfz18_3 := qF BK184.out 3
     go_wp2_with (first | ((with_reducible refine gate_callee (f := 19) rfl ?_); refine goesL_ (some 23) rfl rfl Tryz.func19 (by kernel_rfl) rfl #[.slice A0_2 l0_2.length c0_2, .string a0_3] rfl zz2 ?_; (with_reducible refine (codicillaw29_large.calls k _ _ l0_2 a0_3 false _ ?side1 ?side2 A7.out).mono ?_); (case side1 => repeat (first | exact (Kd.C_below HR0_2.out HB.out) | (with_reducible refine Kd.C_alloc ?_ _) | (with_reducible refine Kd.C_drewN ?_ _) | (with_reducible refine Kd.C_drew ?_))); (case side2 => exact HC0_2.out); rintro e w' ⟨rfl, ⟨nd, rfl⟩⟩; refine ⟨_, rfl, ?_⟩; obtain ⟨hcz19_0, hcz19_1, hcz19_2⟩ := qc3 BK185.out; obtain ⟨hfz19_0, hfz19_1, hfz19_2⟩ := qf3 BK185.out) | (go_at_call 19; (with_reducible refine (codicillaw29_large.calls k _ _ l1_1 a1_2 false _ ?side1 ?side2 A11.out).mono ?_); (case side1 => repeat (first | exact (Kd.C_below HR1_1.out zz4) | (with_reducible refine Kd.C_alloc ?_ _) | (with_reducible refine Kd.C_drewN ?_ _) | (with_reducible refine Kd.C_drew ?_))); (case side2 => exact HC1_1.out); rintro e w' ⟨rfl, ⟨nd, rfl⟩⟩))
     go_meet
     case rel => exact ⟨_, (true), zz1, H', ⟨by first | omega | exact Nat.le_refl _⟩, ⟨by (with_reducible repeat first | apply qA | apply qC | apply qB); exact BK184.out⟩, ⟨by (with_reducible repeat first | apply qA | apply qC | apply qB); exact BK185.out⟩, ⟨by repeat (first | (with_reducible first | exact HB.out | apply qL | apply qJ | apply qK | refine qI ?_ GE184.out | refine qI ?_ GE185.out) | exact HB.out)⟩⟩
    ·rw [if_neg c16] at H
     have c16b0 : decide (4096 < (wrap64 ((a0_0.size : Int) + (a0_1.size : Int)))) = false := decide_eq_false c16
     clear c16
     (first | rw [c16b0] | (simp only [i64_w, i32_w]; rw [c16b0]) | skip)
     have H' := qH H
     clear H
     have hnb20 := NB184_185.out
     have hnc20 := NB185_184.out
     have hcz21_0 : w6.cell? ⟨gb184, 0, none⟩ = some (.string a0_0) := (qE BK184.out 0).trans rfl
     have hcz21_1 : w6.cell? ⟨gb184, 1, none⟩ = some (.string a0_1) := (qE BK184.out 1).trans rfl
     have hcz21_2 : w6.cell? ⟨gb184, 2, none⟩ = some (.slice A0_2 l0_2.length c0_2) := (qE BK184.out 2).trans rfl
     have hcz21_3 : w6.cell? ⟨gb184, 3, none⟩ = some (.string a0_3) := (qE BK184.out 3).trans rfl
     have hfz21_0 := qF BK184.out 0
     have hfz21_1 := qF BK184.out 1
     have hfz21_2 := qF BK184.out 2
     have hfz21_3 := qF BK184.out 3
     go_wp2_with (first | ((with_reducible refine gate_callee (f := 19) rfl ?_); refine goesL_ (some 23) rfl rfl Tryz.func19 (by kernel_rfl) rfl #[.slice A0_2 l0_2.length c0_2, .string a0_3] rfl zz2 ?_; (with_reducible refine (codicillaw29_large.calls k _ _ l0_2 a0_3 false _ ?side1 ?side2 A7.out).mono ?_); (case side1 => repeat (first | exact (Kd.C_below HR0_2.out HB.out) | (with_reducible refine Kd.C_alloc ?_ _) | (with_reducible refine Kd.C_drewN ?_ _) | (with_reducible refine Kd.C_drew ?_))); (case side2 => exact HC0_2.out); rintro e w' ⟨rfl, ⟨nd, rfl⟩⟩; refine ⟨_, rfl, ?_⟩; obtain ⟨hcz22_0, hcz22_1, hcz22_2⟩ := qc3 BK185.out; obtain ⟨hfz22_0, hfz22_1, hfz22_2⟩ := qf3 BK185.out) | (go_at_call 19; (with_reducible refine (codicillaw29_large.calls k _ _ l1_1 a1_2 false _ ?side1 ?side2 A11.out).mono ?_); (case side1 => repeat (first | exact (Kd.C_below HR1_1.out zz4) | (with_reducible refine Kd.C_alloc ?_ _) | (with_reducible refine Kd.C_drewN ?_ _) | (with_reducible refine Kd.C_drew ?_))); (case side2 => exact HC1_1.out); rintro e w' ⟨rfl, ⟨nd, rfl⟩⟩))
     go_meet
     case rel => exact ⟨_, (decide ((a2.size : Int) > 1024)), zz1, H', ⟨by first | omega | exact Nat.le_refl _⟩, ⟨by (with_reducible repeat first | apply qA | apply qC | apply qB); exact BK184.out⟩, ⟨by (with_reducible repeat first | apply qA | apply qC | apply qB); exact BK185.out⟩, ⟨by repeat (first | (with_reducible first | exact HB.out | apply qL | apply qJ | apply qK | refine qI ?_ GE184.out | refine qI ?_ GE185.out) | exact HB.out)⟩⟩
 case rest =>
  clear HC4
  try clear c1
  try clear c2
  try clear p2
  try clear c5
  try clear p6
  try clear c8
  try clear c9
  try clear c12
  try clear c13
  try clear c16
  try clear c16b0
  try clear c17
  try clear c19
  try clear c20
  try clear hcz10_0
  try clear hcz10_1
  try clear hcz10_2
  try clear hcz10_3
  try clear hcz14_0
  try clear hcz14_1
  try clear hcz14_2
  try clear hcz14_3
  try clear hcz15_0
  try clear hcz15_1
  try clear hcz15_2
  try clear hcz18_0
  try clear hcz18_1
  try clear hcz18_2
  try clear hcz18_3
  try clear hcz19_0
  try clear hcz19_1
  try clear hcz19_2
  try clear hcz21_0
  try clear hcz21_1
  try clear hcz21_2
  try clear hcz21_3
  try clear hcz22_0
  try clear hcz22_1
  try clear hcz22_2
  try clear hfz10_0
  try clear hfz10_1
  try clear hfz10_2
  try clear hfz10_3
  try clear hfz14_0
  try clear hfz14_1
  try clear hfz14_2
  try clear hfz14_3
  try clear hfz15_0
  try clear hfz15_1
  try clear hfz15_2
  try clear hfz18_0
  try clear hfz18_1
  try clear hfz18_2
  try clear hfz18_3
  try clear hfz19_0
  try clear hfz19_1
  try clear hfz19_2
  try clear hfz21_0
  try clear hfz21_1
  try clear hfz21_2
  try clear hfz21_3
  try clear hfz22_0
  try clear hfz22_1
  try clear hfz22_2
  obtain ⟨kq, x45_3, rfl, HA, HJ3, BK184, BK185, HB⟩ := hcut
  cases kq with
  | zero => exact absurd HA.out (by simp [codicillaw29_HttpWrites.j0])
  | succ kj3 =>
   have H := HA.out
   clear HA
   simp only [codicillaw29_HttpWrites.j0] at H
   by_cases c23 : x45_3 = true
   ·subst c23
    have H1 : ((codicillaw29_alive.f kj3).bind fun t188 => (some t188)) = some r := by rw [if_pos rfl] at H; exact H
    clear H
    have H := H1
    clear H1
    replace H := Option.bind_eq_some_iff.mp H
    obtain ⟨t188, A240, H⟩ := H
    (try dsimp only at H)
    have A24 := qH A240
    clear A240
    obtain rfl := Option.some.inj H
    simp only [Option.some.injEq, Prod.mk.injEq] at H
    obtain ⟨rfl⟩ := H
    go_wp2_with (first | ((with_reducible refine gate_callee (f := 9) rfl ?_); refine goesL_ (some 46) rfl rfl Tryz.func9 (by kernel_rfl) rfl #[] rfl zz2 ?_; (with_reducible refine (codicillaw29_alive.calls kj3  t188 _ A24.out (HL.later zz4)).mono ?_); rintro e w25 ⟨rfl, hb⟩; refine ⟨_, rfl, ?_⟩; have n0_ := qH (qD (g := gb184) zz6 hb); have n1_ := qH (qD (g := gb185) zz7 hb); have n2_ := qH (below_step zz4 hb); clear BK184; clear BK185; clear HB; have BK184 := n0_; have BK185 := n1_; have HB := n2_; clear n0_ n1_ n2_; (try clear hb); (try clear hb2); (try clear hk); (try clear hi)))
    go_ret
    exact ⟨by first | rfl | (simp [errW_none, errW_some] <;> rfl) | (simp [*, errW_none, errW_some] <;> rfl), by repeat (first | (with_reducible first | exact HB.out | apply qL | apply qJ | apply qK | refine qI ?_ GE184.out | refine qI ?_ GE185.out) | exact HB.out)⟩
   ·replace c23 := Bool.eq_false_iff.mpr c23
    subst c23
    have H1 : ((http_Ask.f a0_0 a0_1 l0_2 a0_3).bind fun bt189 => ((codicilref29_Ask.f kj3 a0_0 a0_1 l0_2 a0_3).bind fun bt191 => ((http_Write.f a1_0 l1_1 a1_2).bind fun bt193 => ((codicilref29_Write.f kj3 a1_0 l1_1 a1_2).bind fun bt195 => ((http_Get.f kj3 l0_2 a2).bind fun bt197 => ((codicilref29_Get.f kj3 l0_2 a2).bind fun bt199 => (if bt189.1.toList = bt191.1.toList then (if bt189.2 = bt191.2 then (if bt193.1.toList = bt195.1.toList then (if bt193.2 = bt195.2 then (if bt197.1.toList = bt199.1.toList then (if (bt197.2 == bt199.2) = true then ((codicillaw29_alive.f kj3).bind fun t201 => (some t201)) else (some false)) else (some false)) else (some false)) else (some false)) else (some false)) else (some false)))))))) = some r := by rw [if_neg (show ¬ (false = true) by decide)] at H; exact H
    clear H
    have H := H1
    clear H1
    replace H := Option.bind_eq_some_iff.mp H
    obtain ⟨⟨t189, t190⟩, A260, H⟩ := H
    (try dsimp only at H)
    have A26 := qH A260
    clear A260
    replace H := Option.bind_eq_some_iff.mp H
    obtain ⟨⟨t191, t192⟩, A270, H⟩ := H
    (try dsimp only at H)
    have A27 := qH A270
    clear A270
    replace H := Option.bind_eq_some_iff.mp H
    obtain ⟨⟨t193, t194⟩, A280, H⟩ := H
    (try dsimp only at H)
    have A28 := qH A280
    clear A280
    replace H := Option.bind_eq_some_iff.mp H
    obtain ⟨⟨t195, t196⟩, A290, H⟩ := H
    (try dsimp only at H)
    have A29 := qH A290
    clear A290
    replace H := Option.bind_eq_some_iff.mp H
    obtain ⟨⟨t197, t198⟩, A300, H⟩ := H
    (try dsimp only at H)
    have A30 := qH A300
    clear A300
    replace H := Option.bind_eq_some_iff.mp H
    obtain ⟨⟨t199, t200⟩, A310, H⟩ := H
    (try dsimp only at H)
    have A31 := qH A310
    clear A310
    by_cases c32 : t189.toList = t191.toList
    ·rw [if_pos c32] at H
     have c32b0 : (t189.toList == t191.toList) = true := beq_iff_eq.mpr c32
     have c32b1 : (t189.toList != t191.toList) = false := bne_eq_false_iff_eq.mpr c32
     clear c32
     by_cases c33 : t190 = t192
     ·rw [if_pos c33] at H
      have c33b0 : (t190 == t192) = true := beq_iff_eq.mpr c33
      have c33b1 : (t190 != t192) = false := bne_eq_false_iff_eq.mpr c33
      clear c33
      by_cases c34 : t193.toList = t195.toList
      ·rw [if_pos c34] at H
       have c34b0 : (t193.toList == t195.toList) = true := beq_iff_eq.mpr c34
       have c34b1 : (t193.toList != t195.toList) = false := bne_eq_false_iff_eq.mpr c34
       clear c34
       by_cases c35 : t194 = t196
       ·rw [if_pos c35] at H
        have c35b0 : (t194 == t196) = true := beq_iff_eq.mpr c35
        have c35b1 : (t194 != t196) = false := bne_eq_false_iff_eq.mpr c35
        clear c35
        by_cases c36 : t197.toList = t199.toList
        ·rw [if_pos c36] at H
         have c36b0 : (t197.toList == t199.toList) = true := beq_iff_eq.mpr c36
         have c36b1 : (t197.toList != t199.toList) = false := bne_eq_false_iff_eq.mpr c36
         clear c36
         by_cases c37 : (t198 == t200) = true
         ·rw [if_pos c37] at H
          have c37b0 : (t198 == t200) = true := c37
          (try (have c37b1 : decide (t198 = t200) = true := by simpa using c37))
          (try (have c37b2 : (t198 == t200) = true := by simpa using c37))
          clear c37
          replace H := Option.bind_eq_some_iff.mp H
          obtain ⟨t201, A380, H⟩ := H
          (try dsimp only at H)
          have A38 := qH A380
          clear A380
          obtain rfl := Option.some.inj H
          simp only [Option.some.injEq, Prod.mk.injEq] at H
          obtain ⟨rfl⟩ := H
          have hnb39 := NB184_185.out
          have hnc39 := NB185_184.out
          have hcz40_0 : wc.cell? ⟨gb184, 0, none⟩ = some (.string a0_0) := (qE BK184.out 0).trans rfl
          have hcz40_1 : wc.cell? ⟨gb184, 1, none⟩ = some (.string a0_1) := (qE BK184.out 1).trans rfl
          have hcz40_2 : wc.cell? ⟨gb184, 2, none⟩ = some (.slice A0_2 l0_2.length c0_2) := (qE BK184.out 2).trans rfl
          have hcz40_3 : wc.cell? ⟨gb184, 3, none⟩ = some (.string a0_3) := (qE BK184.out 3).trans rfl
          have hfz40_0 := qF BK184.out 0
          have hfz40_1 := qF BK184.out 1
          have hfz40_2 := qF BK184.out 2
          have hfz40_3 := qF BK184.out 3
          go_wp2_with (first | ((with_reducible refine gate_callee (f := 20) rfl ?_); refine goesL_ (some 49) rfl rfl Tryz.func20 (by kernel_rfl) rfl #[.agg #[.string a0_0, .string a0_1, .slice A0_2 l0_2.length c0_2, .string a0_3]] rfl zz2 ?_; (with_reducible refine (http_Ask.calls a0_0 a0_1 _ _ l0_2 a0_3 t189 t190 _ ?side1 ?side2 A26.out (HL.later zz4)).mono ?_); (case side1 => repeat (first | exact (Kd.C_below HR0_2.out HB.out) | (with_reducible refine Kd.C_alloc ?_ _) | (with_reducible refine Kd.C_drewN ?_ _) | (with_reducible refine Kd.C_drew ?_))); (case side2 => exact HC0_2.out); rintro e w41 ⟨rfl, hb⟩; refine ⟨_, rfl, ?_⟩; have n0_ := qH (qD (g := gb184) zz6 hb); have n1_ := qH (qD (g := gb185) zz7 hb); have n2_ := qH (below_step zz4 hb); clear BK184; clear BK185; clear HB; have BK184 := n0_; have BK185 := n1_; have HB := n2_; clear n0_ n1_ n2_; (try clear hb); (try clear hb2); (try clear hk); (try clear hi); obtain ⟨hcz42_0, hcz42_1, hcz42_2, hcz42_3⟩ := qc4 BK184.out; obtain ⟨hfz42_0, hfz42_1, hfz42_2, hfz42_3⟩ := qf4 BK184.out) | ((with_reducible refine gate_callee (f := 21) rfl ?_); refine goesL_ (some 54) rfl rfl Tryz.func21 (by kernel_rfl) rfl #[.agg #[.string a0_0, .string a0_1, .slice A0_2 l0_2.length c0_2, .string a0_3]] rfl zz2 ?_; (with_reducible refine (codicilref29_Ask.calls kj3 a0_0 a0_1 _ _ l0_2 a0_3 t191 t192 _ ?side1 ?side2 A27.out (HL.later zz4)).mono ?_); (case side1 => repeat (first | exact (Kd.C_below HR0_2.out HB.out) | (with_reducible refine Kd.C_alloc ?_ _) | (with_reducible refine Kd.C_drewN ?_ _) | (with_reducible refine Kd.C_drew ?_))); (case side2 => exact HC0_2.out); rintro e w43 ⟨rfl, hb⟩; refine ⟨_, rfl, ?_⟩; have n0_ := qH (qD (g := gb184) zz6 hb); have n1_ := qH (qD (g := gb185) zz7 hb); have n2_ := qH (below_step zz4 hb); clear BK184; clear BK185; clear HB; have BK184 := n0_; have BK185 := n1_; have HB := n2_; clear n0_ n1_ n2_; (try clear hb); (try clear hb2); (try clear hk); (try clear hi); obtain ⟨hcz44_0, hcz44_1, hcz44_2⟩ := qc3 BK185.out; obtain ⟨hfz44_0, hfz44_1, hfz44_2⟩ := qf3 BK185.out) | ((with_reducible refine gate_callee (f := 22) rfl ?_); refine goesL_ (some 59) rfl rfl Tryz.func22 (by kernel_rfl) rfl #[.agg #[.int .i64 a1_0, .slice A1_1 l1_1.length c1_1, .string a1_2]] rfl zz2 ?_; (with_reducible refine (http_Write.calls a1_0 _ _ l1_1 a1_2 t193 t194 _ ?side1 ?side2 A28.out (HL.later zz4)).mono ?_); (case side1 => repeat (first | exact (Kd.C_below HR1_1.out HB.out) | (with_reducible refine Kd.C_alloc ?_ _) | (with_reducible refine Kd.C_drewN ?_ _) | (with_reducible refine Kd.C_drew ?_))); (case side2 => exact HC1_1.out); rintro e w45 ⟨rfl, hb⟩; refine ⟨_, rfl, ?_⟩; have n0_ := qH (qD (g := gb184) zz6 hb); have n1_ := qH (qD (g := gb185) zz7 hb); have n2_ := qH (below_step zz4 hb); clear BK184; clear BK185; clear HB; have BK184 := n0_; have BK185 := n1_; have HB := n2_; clear n0_ n1_ n2_; (try clear hb); (try clear hb2); (try clear hk); (try clear hi); obtain ⟨hcz46_0, hcz46_1, hcz46_2⟩ := qc3 BK185.out; obtain ⟨hfz46_0, hfz46_1, hfz46_2⟩ := qf3 BK185.out) | ((with_reducible refine gate_callee (f := 23) rfl ?_); refine goesL_ (some 64) rfl rfl Tryz.func23 (by kernel_rfl) rfl #[.agg #[.int .i64 a1_0, .slice A1_1 l1_1.length c1_1, .string a1_2]] rfl zz2 ?_; (with_reducible refine (codicilref29_Write.calls kj3 a1_0 _ _ l1_1 a1_2 t195 t196 _ ?side1 ?side2 A29.out (HL.later zz4)).mono ?_); (case side1 => repeat (first | exact (Kd.C_below HR1_1.out HB.out) | (with_reducible refine Kd.C_alloc ?_ _) | (with_reducible refine Kd.C_drewN ?_ _) | (with_reducible refine Kd.C_drew ?_))); (case side2 => exact HC1_1.out); rintro e w47 ⟨rfl, hb⟩; refine ⟨_, rfl, ?_⟩; have n0_ := qH (qD (g := gb184) zz6 hb); have n1_ := qH (qD (g := gb185) zz7 hb); have n2_ := qH (below_step zz4 hb); clear BK184; clear BK185; clear HB; have BK184 := n0_; have BK185 := n1_; have HB := n2_; clear n0_ n1_ n2_; (try clear hb); (try clear hb2); (try clear hk); (try clear hi); obtain ⟨hcz48_0, hcz48_1, hcz48_2, hcz48_3⟩ := qc4 BK184.out; obtain ⟨hfz48_0, hfz48_1, hfz48_2, hfz48_3⟩ := qf4 BK184.out) | ((with_reducible refine gate_callee (f := 24) rfl ?_); refine goesL_ (some 71) rfl rfl Tryz.func24 (by kernel_rfl) rfl #[.slice A0_2 l0_2.length c0_2, .string a2] rfl zz2 ?_; (with_reducible refine (http_Get.calls kj3 _ _ l0_2 a2 t197 t198 _ ?side1 ?side2 A30.out).mono ?_); (case side1 => repeat (first | exact (Kd.C_below HR0_2.out HB.out) | (with_reducible refine Kd.C_alloc ?_ _) | (with_reducible refine Kd.C_drewN ?_ _) | (with_reducible refine Kd.C_drew ?_))); (case side2 => exact HC0_2.out); rintro e w49 ⟨rfl, hb⟩; refine ⟨_, rfl, ?_⟩; have n0_ := qH (qD (g := gb184) zz6 hb); have n1_ := qH (qD (g := gb185) zz7 hb); have n2_ := qH (below_step zz4 hb); clear BK184; clear BK185; clear HB; have BK184 := n0_; have BK185 := n1_; have HB := n2_; clear n0_ n1_ n2_; (try clear hb); (try clear hb2); (try clear hk); (try clear hi); obtain ⟨hcz50_0, hcz50_1, hcz50_2, hcz50_3⟩ := qc4 BK184.out; obtain ⟨hfz50_0, hfz50_1, hfz50_2, hfz50_3⟩ := qf4 BK184.out) | ((with_reducible refine gate_callee (f := 25) rfl ?_); refine goesL_ (some 78) rfl rfl Tryz.func25 (by kernel_rfl) rfl #[.slice A0_2 l0_2.length c0_2, .string a2] rfl zz2 ?_; (with_reducible refine (codicilref29_Get.calls kj3 _ _ l0_2 a2 t199 t200 _ ?side1 ?side2 A31.out).mono ?_); (case side1 => repeat (first | exact (Kd.C_below HR0_2.out HB.out) | (with_reducible refine Kd.C_alloc ?_ _) | (with_reducible refine Kd.C_drewN ?_ _) | (with_reducible refine Kd.C_drew ?_))); (case side2 => exact HC0_2.out); rintro e w' ⟨rfl, ⟨nd, rfl⟩⟩; refine ⟨_, rfl, ?_⟩) | (go_at_call 9; (with_reducible refine (codicillaw29_alive.calls kj3  t201 _ A38.out (HL.later zz4)).mono ?_); rintro e w51 ⟨rfl, hb⟩; have n0_ := qH (qD (g := gb184) zz6 hb); have n1_ := qH (qD (g := gb185) zz7 hb); have n2_ := qH (below_step zz4 hb); clear BK184; clear BK185; clear HB; have BK184 := n0_; have BK185 := n1_; have HB := n2_; clear n0_ n1_ n2_; (try clear hb); (try clear hb2); (try clear hk); (try clear hi)))
          go_ret
          exact ⟨by first | rfl | (simp [errW_none, errW_some] <;> rfl) | (simp [*, errW_none, errW_some] <;> rfl), by repeat (first | (with_reducible first | exact HB.out | apply qL | apply qJ | apply qK | refine qI ?_ GE184.out | refine qI ?_ GE185.out) | exact HB.out)⟩
         ·rw [if_neg c37] at H
          have c37b0 : (t198 == t200) = false := by simpa using c37
          (try (have c37b1 : decide (t198 = t200) = false := by simpa using c37))
          (try (have c37b2 : (t198 == t200) = false := by simpa using c37))
          (try (have c37b3 : ¬ (t198 = t200) := by simpa using c37))
          clear c37
          obtain rfl := Option.some.inj H
          exact absurd hTrue.out (by decide)
        ·rw [if_neg c36] at H
         have c36b0 : (t197.toList == t199.toList) = false := beq_eq_false_iff_ne.mpr c36
         have c36b1 : (t197.toList != t199.toList) = true := bne_iff_ne.mpr c36
         obtain rfl := Option.some.inj H
         exact absurd hTrue.out (by decide)
       ·rw [if_neg c35] at H
        have c35b0 : (t194 == t196) = false := beq_eq_false_iff_ne.mpr c35
        have c35b1 : (t194 != t196) = true := bne_iff_ne.mpr c35
        obtain rfl := Option.some.inj H
        exact absurd hTrue.out (by decide)
      ·rw [if_neg c34] at H
       have c34b0 : (t193.toList == t195.toList) = false := beq_eq_false_iff_ne.mpr c34
       have c34b1 : (t193.toList != t195.toList) = true := bne_iff_ne.mpr c34
       obtain rfl := Option.some.inj H
       exact absurd hTrue.out (by decide)
     ·rw [if_neg c33] at H
      have c33b0 : (t190 == t192) = false := beq_eq_false_iff_ne.mpr c33
      have c33b1 : (t190 != t192) = true := bne_iff_ne.mpr c33
      obtain rfl := Option.some.inj H
      exact absurd hTrue.out (by decide)
    ·rw [if_neg c32] at H
     have c32b0 : (t189.toList == t191.toList) = false := beq_eq_false_iff_ne.mpr c32
     have c32b1 : (t189.toList != t191.toList) = true := bne_iff_ne.mpr c32
     obtain rfl := Option.some.inj H
     exact absurd hTrue.out (by decide)

end Go.Proofs.YtddjhmelniphgaaGreatDoor.Print
