-- Written by wip/tools/xprint.py of this session's repo (the kit's print, run with external functions). Lean checks it.
import Derived.Test.YtddjhmelniphgaaGreatDoorHAm
import Derived.Test.YtddjhmelniphgaaGreatDoorPrint0
import Derived.Test.YtddjhmelniphgaaGreatDoorHTAsk
import Derived.Test.YtddjhmelniphgaaGreatDoorHTPath
import Derived.Test.YtddjhmelniphgaaGreatDoorHTReq
import Derived.Test.YtddjhmelniphgaaGreatDoorHTTold
namespace Go.Proofs.YtddjhmelniphgaaGreatDoor.Print
open Go.RowKit Go.Proofs.YtddjhmelniphgaaGreatDoorW.PrintWords Go.Proofs.YtddjhmelniphgaaGreatDoorW.PrintLast Go.Proofs.YtddjhmelniphgaaGreatDoorW.PrintMore
attribute [local go_sem] max2_int min2_int max_two min_two max_three min_three max_four min_four   -- for this text's walks alone
set_option linter.unusedVariables false
set_option linter.unusedSimpArgs false

/-! ### http_Get: function 24 -/
def http_Get.l0 : Nat → ByteArray → List (S59) → Int → Int → Option (ByteArray × Bool)
 | 0, _, _, _, _ => none
 | k + 1, x1, x8, x9, x10 => if x10 < x9 then (if 0 ≤ x10 then (if x10 < (x8.length : Int) then (if ((rd_T59 x8 x10).f0).toList = x1.toList then (some ((rd_T59 x8 x10).f1, true)) else (http_Get.l0 k x1 x8 x9 (wrap64 (x10 + 1)))) else (none)) else (none)) else (some ((⟨#[]⟩ : ByteArray), false))
def http_Get.f (k : Nat) (l0 : List (S59)) (a1 : ByteArray) : Option (ByteArray × Bool) := http_Get.l0 k a1 l0 (l0.length : Int) 0
theorem http_Get.mono_l : ∀ k, (∀ y0 y1 y2 y3, LeO (http_Get.l0 k y0 y1 y2 y3) (http_Get.l0 (k + 1) y0 y1 y2 y3))
 | 0 => fun _ _ _ _ r h => by simp [http_Get.l0] at h
 | k + 1 => by
  have ih0 := http_Get.mono_l k
  ·intro y0 y1 y2 y3
   unfold http_Get.l0
   repeat' first
   | (with_reducible exact ih0 _ _ _ _)
   | (with_reducible exact LeO.refl _)
   | (with_reducible exact LeO.none _)
   | (with_reducible refine LeO.ite ?_ ?_)
   | (with_reducible refine LeO.bind ?_ (fun _ => ?_))
   | exact ih0 _ _ _ _
   | exact LeO.none _
   | refine LeO.ite ?_ ?_
   | refine LeO.bind ?_ (fun _ => ?_)
theorem http_Get.mono : ∀ a0 a1 k, LeO (http_Get.f k a0 a1) (http_Get.f (k + 1) a0 a1) := by
 intro a0 a1 k
 have ih0 := http_Get.mono_l k
 unfold http_Get.f
 repeat' first
   | (with_reducible exact ih0 _ _ _ _)
   | (with_reducible exact LeO.refl _)
   | (with_reducible exact LeO.none _)
   | (with_reducible refine LeO.ite ?_ ?_)
   | (with_reducible refine LeO.bind ?_ (fun _ => ?_))
   | exact ih0 _ _ _ _
   | exact LeO.none _
   | refine LeO.ite ?_ ?_
   | refine LeO.bind ?_ (fun _ => ?_)
set_option maxHeartbeats 8000000 in
set_option maxRecDepth 100000 in
theorem http_Get.calls (k : Nat) (A0 : Option Addr) (c0 : Nat) (l0 : List (S59)) (a1 : ByteArray) (r1 : ByteArray) (r2 : Bool) (w : World) (hr0 : Kd.C k59 w A0 l0.length l0) (hc0 : l0.length ≤ c0) (h : http_Get.f k l0 a1 = some (r1, r2)) :
  Calls Tryz.prog 24 #[.slice A0 l0.length c0, .string a1] w fun e w' => e = .returned (.tuple #[.string r1, .bool r2]) ∧ Below w.heap.size w w' := by
 have hu59 := Tryz.underlying59
 have HR0 := qH hr0
 have HC0 := qH hc0
 clear hr0 hc0
 have HB := qH (Below.refl w.heap.size w)
 have H : (http_Get.l0 k a1 l0 (l0.length : Int) 0) = some (r1, r2) := h
 clear h
 have H' := qH H
 clear H
 go_enter Tryz.func24, Tryz.ntmps24
 go_wp2
 go_loopg [10] k (fun kq v10 w' => ∃ (x10_1 : Int), v10 = .int .i64 x10_1 ∧ Aside0 (http_Get.l0 kq a1 l0 (l0.length : Int) x10_1 = some (r1, r2)) ∧ Aside0 (kq ≤ k) ∧ Aside0 (Below w.heap.size w w'))
 case atStart => exact ⟨(0), zz3, H', ⟨Nat.le_refl _⟩, ⟨by repeat (first | (with_reducible first | exact HB.out | apply qL | apply qJ | apply qK) | exact HB.out)⟩⟩
 case round =>
  clear H'
  try clear c2
  try clear p2
  obtain ⟨x10_1, rfl, HA, HK1, HB⟩ := hrel
  cases gk with
  | zero => exact absurd HA.out (by simp [http_Get.l0])
  | succ k1 =>
   have H := HA.out
   clear HA
   simp only [http_Get.l0] at H
   by_cases c3 : x10_1 < (l0.length : Int)
   ·rw [if_pos c3] at H
    have c3b0 : decide (x10_1 < (l0.length : Int)) = true := decide_eq_true c3
    clear c3
    by_cases c4 : 0 ≤ x10_1
    ·rw [if_pos c4] at H
     have c4b0 : decide (0 ≤ x10_1) = true := decide_eq_true c4
     clear c4
     by_cases c5 : x10_1 < (l0.length : Int)
     ·rw [if_pos c5] at H
      have c5b0 : decide (x10_1 < (l0.length : Int)) = true := decide_eq_true c5
      clear c5
      by_cases c6 : ((rd_T59 l0 x10_1).f0).toList = a1.toList
      ·rw [if_pos c6] at H
       have c6b0 : (((rd_T59 l0 x10_1).f0).toList == a1.toList) = true := beq_iff_eq.mpr c6
       have c6b1 : (((rd_T59 l0 x10_1).f0).toList != a1.toList) = false := bne_eq_false_iff_eq.mpr c6
       clear c6
       simp only [Option.some.injEq, Prod.mk.injEq] at H
       obtain ⟨rfl, rfl⟩ := H
       have p101 : 0 ≤ (x10_1 : Int) := of_decide_eq_true zz0
       have q101 : x10_1 < (l0.length : Int) := of_decide_eq_true zz0
       obtain ⟨ad101, e101, hx101_0, hx101_1⟩ := at_T59 HR0.out x10_1 p101 q101
       cases e101
       replace hx101_0 := (HB.out.cell (qO w _ hx101_0)).trans hx101_0
       replace hx101_1 := (HB.out.cell (qO w _ hx101_1)).trans hx101_1
       replace p101 := eq_true p101
       replace q101 := eq_true q101
       go_wp2_with (first | ((with_reducible refine gate_dst (N := 7) rfl ?_); refine box_event ?hg (N := 7) ?hd (cs := #[.string (⟨#[]⟩ : ByteArray), .string (⟨#[]⟩ : ByteArray)]) (t := 59) ?hr ?_; (case hd => rfl); (case hg => rfl); (case hr => first | (go_simp; done) | (go_simp; rfl) | (go_simp; simp [IntKind.wrap_u32]; done)); intro gb102 hg w7 hbox hb; have n0_ := qH (below_step zz2 hb); have n1_ := qH (hbox); have n2_ := qH ((by rw [hg]; exact (below_size zz2) : w.heap.size ≤ gb102)); have n3_ := n2_; clear HB; have HB := n0_; have BK102 := n1_; have GW102 := n2_; have GE102 := n3_; clear n0_ n1_ n2_ n3_; clear hb hbox hg; obtain ⟨hcz8_0, hcz8_1⟩ := qc2 BK102.out; obtain ⟨hfz8_0, hfz8_1⟩ := qf2 BK102.out))
       go_ret2
       exact ⟨by first | rfl | (simp [errW_none, errW_some] <;> rfl) | (simp [*, errW_none, errW_some] <;> rfl), by repeat (first | (with_reducible first | exact HB.out | apply qL | apply qJ | apply qK | refine qI ?_ GE102.out) | exact HB.out)⟩
      ·rw [if_neg c6] at H
       have c6b0 : (((rd_T59 l0 x10_1).f0).toList == a1.toList) = false := beq_eq_false_iff_ne.mpr c6
       have c6b1 : (((rd_T59 l0 x10_1).f0).toList != a1.toList) = true := bne_iff_ne.mpr c6
       have H' := qH H
       clear H
       have p101 : 0 ≤ (x10_1 : Int) := of_decide_eq_true zz0
       have q101 : x10_1 < (l0.length : Int) := of_decide_eq_true zz0
       obtain ⟨ad101, e101, hx101_0, hx101_1⟩ := at_T59 HR0.out x10_1 p101 q101
       cases e101
       replace hx101_0 := (HB.out.cell (qO w _ hx101_0)).trans hx101_0
       replace hx101_1 := (HB.out.cell (qO w _ hx101_1)).trans hx101_1
       replace p101 := eq_true p101
       replace q101 := eq_true q101
       go_wp2_with (first | ((with_reducible refine gate_dst (N := 7) rfl ?_); refine box_event ?hg (N := 7) ?hd (cs := #[.string (⟨#[]⟩ : ByteArray), .string (⟨#[]⟩ : ByteArray)]) (t := 59) ?hr ?_; (case hd => rfl); (case hg => rfl); (case hr => first | (go_simp; done) | (go_simp; rfl) | (go_simp; simp [IntKind.wrap_u32]; done)); intro gb102 hg w9 hbox hb; have n0_ := qH (below_step zz2 hb); have n1_ := qH (hbox); have n2_ := qH ((by rw [hg]; exact (below_size zz2) : w.heap.size ≤ gb102)); have n3_ := n2_; clear HB; have HB := n0_; have BK102 := n1_; have GW102 := n2_; have GE102 := n3_; clear n0_ n1_ n2_ n3_; clear hb hbox hg; obtain ⟨hcz10_0, hcz10_1⟩ := qc2 BK102.out; obtain ⟨hfz10_0, hfz10_1⟩ := qf2 BK102.out))
       go_roundg k1
       case measure => have := HK1.out; omega
       case rel => exact ⟨(wrap64 (x10_1 + 1)), zz3, H', ⟨by have := HK1.out; omega⟩, ⟨by repeat (first | (with_reducible first | exact HB.out | apply qL | apply qJ | apply qK | refine qI ?_ GE102.out) | exact HB.out)⟩⟩
     ·rw [if_neg c5] at H
      exact absurd H zz65
    ·rw [if_neg c4] at H
     exact absurd H zz65
   ·rw [if_neg c3] at H
    have c3b0 : decide (x10_1 < (l0.length : Int)) = false := decide_eq_false c3
    clear c3
    simp only [Option.some.injEq, Prod.mk.injEq] at H
    obtain ⟨rfl, rfl⟩ := H
    go_wp2
    go_ret2
    exact ⟨by first | rfl | (simp [errW_none, errW_some] <;> rfl) | (simp [*, errW_none, errW_some] <;> rfl), by repeat (first | (with_reducible first | exact HB.out | apply qL | apply qJ | apply qK) | exact HB.out)⟩

/-! ### codicillaw29_alive: function 9 -/
def codicillaw29_alive.f (k : Nat)  : Option (Bool) := (http_Read.f (⟨#[71, 69, 84, 32, 47, 97, 32, 72, 84, 84, 80, 47, 49, 46, 49, 13, 10, 88, 58, 32, 49, 13, 10, 13, 10, 109, 111, 114, 101]⟩ : ByteArray)).bind fun bt103 => (if 0 ≤ 24 then (if 24 ≤ 25 then ((http_Read.f ((⟨#[71, 69, 84, 32, 47, 97, 32, 72, 84, 84, 80, 47, 49, 46, 49, 13, 10, 88, 58, 32, 49, 13, 10, 13, 10]⟩ : ByteArray).extract 0 24)).bind fun bt112 => ((http_Read.f (⟨#[71, 69, 84, 32, 47, 97, 32, 72, 84, 84, 80, 47, 49, 46, 48, 13, 10, 13, 10]⟩ : ByteArray)).bind fun bt121 => ((http_Path.f (⟨#[47, 97, 37, 50, 48, 98, 47, 99, 63, 120, 61, 49, 38, 121]⟩ : ByteArray)).bind fun bt130 => ((http_Write.f 200 ([] : List (S59)) (⟨#[111, 107]⟩ : ByteArray)).bind fun bt137 => ((http_Told.f bt137.1).bind fun bt139 => ((http_Get.f k bt103.2.2.1 (⟨#[120]⟩ : ByteArray)).bind fun bt147 => (if bt103.1.toList = ([71, 69, 84] : List UInt8) then (if bt103.2.1.toList = ([47, 97] : List UInt8) then (if bt103.2.2.2.2.1 = 25 then (if bt103.2.2.2.2.2 = 0 then (if bt112.2.2.2.2.2 = 290 then (if bt121.2.2.2.2.2 = 291 then (if (bt130.1.length : Int) = 2 then (if 0 < (bt130.1.length : Int) then (if (rdOf ByteArray.empty bt130.1 0).toList = ([97, 32, 98] : List UInt8) then (if (bt130.2.1.length : Int) = 2 then (if 1 < (bt130.2.1.length : Int) then (if ((rd_T59 bt130.2.1 1).f0).toList = ([121] : List UInt8) then (if bt130.2.2 = 0 then (if bt137.1.toList = ([72, 84, 84, 80, 47, 49, 46, 49, 32, 50, 48, 48, 32, 79, 75, 13, 10, 99, 111, 110, 116, 101, 110, 116, 45, 108, 101, 110, 103, 116, 104, 58, 32, 50, 13, 10, 13, 10, 111, 107] : List UInt8) then (if bt137.2 = 0 then (if bt139.1 = 200 then (if bt139.2.2.1.toList = ([111, 107] : List UInt8) then (if bt139.2.2.2.1 = (bt137.1.size : Int) then (if bt139.2.2.2.2 = 0 then (if bt147.1.toList = ([49] : List UInt8) then (some bt147.2) else (some false)) else (some false)) else (some false)) else (some false)) else (some false)) else (some false)) else (some false)) else (some false)) else (some false)) else (none)) else (some false)) else (some false)) else (none)) else (some false)) else (some false)) else (some false)) else (some false)) else (some false)) else (some false)) else (some false)))))))) else (none)) else (none))
theorem codicillaw29_alive.mono : ∀ k, LeO (codicillaw29_alive.f k ) (codicillaw29_alive.f (k + 1) ) := by
 intro  k
 unfold codicillaw29_alive.f
 repeat' first
   | (with_reducible exact http_Get.mono _ _ _)
   | (with_reducible exact LeO.refl _)
   | (with_reducible exact LeO.none _)
   | (with_reducible refine LeO.ite ?_ ?_)
   | (with_reducible refine LeO.bind ?_ (fun _ => ?_))
   | exact http_Get.mono _ _ _
   | exact LeO.none _
   | refine LeO.ite ?_ ?_
   | refine LeO.bind ?_ (fun _ => ?_)
set_option maxHeartbeats 8000000 in
set_option maxRecDepth 100000 in
theorem codicillaw29_alive.calls1 (k : Nat)  (r : Bool) (w : World) (h : codicillaw29_alive.f k  = some r) (hTrue : Aside0 (r = true)) (HL : Laid0 w) :
  Calls Tryz.prog 9 #[] w fun e w' => e = .returned (.bool r) ∧ Below w.heap.size w w' := by
 have hu25 := Tryz.underlying25
 have hu32 := Tryz.underlying32
 have HB := qH (Below.refl w.heap.size w)
 have H : ((http_Read.f (⟨#[71, 69, 84, 32, 47, 97, 32, 72, 84, 84, 80, 47, 49, 46, 49, 13, 10, 88, 58, 32, 49, 13, 10, 13, 10, 109, 111, 114, 101]⟩ : ByteArray)).bind fun bt103 => (if 0 ≤ 24 then (if 24 ≤ 25 then ((http_Read.f ((⟨#[71, 69, 84, 32, 47, 97, 32, 72, 84, 84, 80, 47, 49, 46, 49, 13, 10, 88, 58, 32, 49, 13, 10, 13, 10]⟩ : ByteArray).extract 0 24)).bind fun bt112 => ((http_Read.f (⟨#[71, 69, 84, 32, 47, 97, 32, 72, 84, 84, 80, 47, 49, 46, 48, 13, 10, 13, 10]⟩ : ByteArray)).bind fun bt121 => ((http_Path.f (⟨#[47, 97, 37, 50, 48, 98, 47, 99, 63, 120, 61, 49, 38, 121]⟩ : ByteArray)).bind fun bt130 => ((http_Write.f 200 ([] : List (S59)) (⟨#[111, 107]⟩ : ByteArray)).bind fun bt137 => ((http_Told.f bt137.1).bind fun bt139 => ((http_Get.f k bt103.2.2.1 (⟨#[120]⟩ : ByteArray)).bind fun bt147 => (if bt103.1.toList = ([71, 69, 84] : List UInt8) then (if bt103.2.1.toList = ([47, 97] : List UInt8) then (if bt103.2.2.2.2.1 = 25 then (if bt103.2.2.2.2.2 = 0 then (if bt112.2.2.2.2.2 = 290 then (if bt121.2.2.2.2.2 = 291 then (if (bt130.1.length : Int) = 2 then (if 0 < (bt130.1.length : Int) then (if (rdOf ByteArray.empty bt130.1 0).toList = ([97, 32, 98] : List UInt8) then (if (bt130.2.1.length : Int) = 2 then (if 1 < (bt130.2.1.length : Int) then (if ((rd_T59 bt130.2.1 1).f0).toList = ([121] : List UInt8) then (if bt130.2.2 = 0 then (if bt137.1.toList = ([72, 84, 84, 80, 47, 49, 46, 49, 32, 50, 48, 48, 32, 79, 75, 13, 10, 99, 111, 110, 116, 101, 110, 116, 45, 108, 101, 110, 103, 116, 104, 58, 32, 50, 13, 10, 13, 10, 111, 107] : List UInt8) then (if bt137.2 = 0 then (if bt139.1 = 200 then (if bt139.2.2.1.toList = ([111, 107] : List UInt8) then (if bt139.2.2.2.1 = (bt137.1.size : Int) then (if bt139.2.2.2.2 = 0 then (if bt147.1.toList = ([49] : List UInt8) then (some bt147.2) else (some false)) else (some false)) else (some false)) else (some false)) else (some false)) else (some false)) else (some false)) else (some false)) else (some false)) else (none)) else (some false)) else (some false)) else (none)) else (some false)) else (some false)) else (some false)) else (some false)) else (some false)) else (some false)) else (some false)))))))) else (none)) else (none))) = some r := h
 clear h
 replace H := Option.bind_eq_some_iff.mp H
 obtain ⟨⟨t103, t104, t105, t108, t109, t110⟩, A10, H⟩ := H
 (try dsimp only at H)
 have A1 := qH A10
 clear A10
 by_cases c2 : 0 ≤ 24
 ·rw [if_pos c2] at H
  have c2b0 := eq_true c2
  have c2b1 : decide (0 ≤ 24) = true := decide_eq_true c2
  clear c2
  by_cases c3 : 24 ≤ 25
  ·rw [if_pos c3] at H
   have c3b0 := eq_true c3
   have c3b1 : decide (24 ≤ 25) = true := decide_eq_true c3
   clear c3
   replace H := Option.bind_eq_some_iff.mp H
   obtain ⟨⟨t112, t113, t114, t117, t118, t119⟩, A40, H⟩ := H
   (try dsimp only at H)
   have A4 := qH A40
   clear A40
   replace H := Option.bind_eq_some_iff.mp H
   obtain ⟨⟨t121, t122, t123, t126, t127, t128⟩, A50, H⟩ := H
   (try dsimp only at H)
   have A5 := qH A50
   clear A50
   replace H := Option.bind_eq_some_iff.mp H
   obtain ⟨⟨t130, t131, t132⟩, A60, H⟩ := H
   (try dsimp only at H)
   have A6 := qH A60
   clear A60
   replace H := Option.bind_eq_some_iff.mp H
   obtain ⟨⟨t137, t138⟩, A70, H⟩ := H
   (try dsimp only at H)
   have A7 := qH A70
   clear A70
   replace H := Option.bind_eq_some_iff.mp H
   obtain ⟨⟨t139, t140, t143, t144, t145⟩, A80, H⟩ := H
   (try dsimp only at H)
   have A8 := qH A80
   clear A80
   replace H := Option.bind_eq_some_iff.mp H
   obtain ⟨⟨t147, t148⟩, A90, H⟩ := H
   (try dsimp only at H)
   have A9 := qH A90
   clear A90
   by_cases c10 : t103.toList = ([71, 69, 84] : List UInt8)
   ·rw [if_pos c10] at H
    have c10b0 : (t103.toList == ([71, 69, 84] : List UInt8)) = true := beq_iff_eq.mpr c10
    have c10b1 : (t103.toList != ([71, 69, 84] : List UInt8)) = false := bne_eq_false_iff_eq.mpr c10
    clear c10
    by_cases c11 : t104.toList = ([47, 97] : List UInt8)
    ·rw [if_pos c11] at H
     have c11b0 : (t104.toList == ([47, 97] : List UInt8)) = true := beq_iff_eq.mpr c11
     have c11b1 : (t104.toList != ([47, 97] : List UInt8)) = false := bne_eq_false_iff_eq.mpr c11
     clear c11
     by_cases c12 : t109 = 25
     ·rw [if_pos c12] at H
      have c12b0 : (t109 == 25) = true := beq_iff_eq.mpr c12
      have c12b1 : (t109 != 25) = false := bne_eq_false_iff_eq.mpr c12
      clear c12
      by_cases c13 : t110 = 0
      ·rw [if_pos c13] at H
       have c13b0 : (t110 == 0) = true := beq_iff_eq.mpr c13
       have c13b1 : (t110 != 0) = false := bne_eq_false_iff_eq.mpr c13
       clear c13
       by_cases c14 : t119 = 290
       ·rw [if_pos c14] at H
        have c14b0 : (t119 == 290) = true := beq_iff_eq.mpr c14
        have c14b1 : (t119 != 290) = false := bne_eq_false_iff_eq.mpr c14
        clear c14
        by_cases c15 : t128 = 291
        ·rw [if_pos c15] at H
         have c15b0 : (t128 == 291) = true := beq_iff_eq.mpr c15
         have c15b1 : (t128 != 291) = false := bne_eq_false_iff_eq.mpr c15
         clear c15
         by_cases c16 : (t130.length : Int) = 2
         ·rw [if_pos c16] at H
          have c16b0 : ((t130.length : Int) == 2) = true := beq_iff_eq.mpr c16
          have c16b1 : ((t130.length : Int) != 2) = false := bne_eq_false_iff_eq.mpr c16
          clear c16
          by_cases c17 : 0 < (t130.length : Int)
          ·rw [if_pos c17] at H
           have c17b0 : decide (0 < (t130.length : Int)) = true := decide_eq_true c17
           have c17b1 : decide (0 < t130.length) = true := decide_eq_true zz42
           clear c17
           by_cases c18 : (rdOf ByteArray.empty t130 0).toList = ([97, 32, 98] : List UInt8)
           ·rw [if_pos c18] at H
            have c18b0 : ((rdOf ByteArray.empty t130 0).toList == ([97, 32, 98] : List UInt8)) = true := beq_iff_eq.mpr c18
            have c18b1 : ((rdOf ByteArray.empty t130 0).toList != ([97, 32, 98] : List UInt8)) = false := bne_eq_false_iff_eq.mpr c18
            clear c18
            by_cases c19 : (t131.length : Int) = 2
            ·rw [if_pos c19] at H
             have c19b0 : ((t131.length : Int) == 2) = true := beq_iff_eq.mpr c19
             have c19b1 : ((t131.length : Int) != 2) = false := bne_eq_false_iff_eq.mpr c19
             clear c19
             by_cases c20 : 1 < (t131.length : Int)
             ·rw [if_pos c20] at H
              have c20b0 : decide (1 < (t131.length : Int)) = true := decide_eq_true c20
              have c20b1 : decide (1 < t131.length) = true := decide_eq_true zz42
              clear c20
              by_cases c21 : ((rd_T59 t131 1).f0).toList = ([121] : List UInt8)
              ·rw [if_pos c21] at H
               have c21b0 : (((rd_T59 t131 1).f0).toList == ([121] : List UInt8)) = true := beq_iff_eq.mpr c21
               have c21b1 : (((rd_T59 t131 1).f0).toList != ([121] : List UInt8)) = false := bne_eq_false_iff_eq.mpr c21
               clear c21
               by_cases c22 : t132 = 0
               ·rw [if_pos c22] at H
                have c22b0 : (t132 == 0) = true := beq_iff_eq.mpr c22
                have c22b1 : (t132 != 0) = false := bne_eq_false_iff_eq.mpr c22
                clear c22
                by_cases c23 : t137.toList = ([72, 84, 84, 80, 47, 49, 46, 49, 32, 50, 48, 48, 32, 79, 75, 13, 10, 99, 111, 110, 116, 101, 110, 116, 45, 108, 101, 110, 103, 116, 104, 58, 32, 50, 13, 10, 13, 10, 111, 107] : List UInt8)
                ·rw [if_pos c23] at H
                 have c23b0 : (t137.toList == ([72, 84, 84, 80, 47, 49, 46, 49, 32, 50, 48, 48, 32, 79, 75, 13, 10, 99, 111, 110, 116, 101, 110, 116, 45, 108, 101, 110, 103, 116, 104, 58, 32, 50, 13, 10, 13, 10, 111, 107] : List UInt8)) = true := beq_iff_eq.mpr c23
                 have c23b1 : (t137.toList != ([72, 84, 84, 80, 47, 49, 46, 49, 32, 50, 48, 48, 32, 79, 75, 13, 10, 99, 111, 110, 116, 101, 110, 116, 45, 108, 101, 110, 103, 116, 104, 58, 32, 50, 13, 10, 13, 10, 111, 107] : List UInt8)) = false := bne_eq_false_iff_eq.mpr c23
                 clear c23
                 by_cases c24 : t138 = 0
                 ·rw [if_pos c24] at H
                  have c24b0 : (t138 == 0) = true := beq_iff_eq.mpr c24
                  have c24b1 : (t138 != 0) = false := bne_eq_false_iff_eq.mpr c24
                  clear c24
                  by_cases c25 : t139 = 200
                  ·rw [if_pos c25] at H
                   have c25b0 : (t139 == 200) = true := beq_iff_eq.mpr c25
                   have c25b1 : (t139 != 200) = false := bne_eq_false_iff_eq.mpr c25
                   clear c25
                   by_cases c26 : t143.toList = ([111, 107] : List UInt8)
                   ·rw [if_pos c26] at H
                    have c26b0 : (t143.toList == ([111, 107] : List UInt8)) = true := beq_iff_eq.mpr c26
                    have c26b1 : (t143.toList != ([111, 107] : List UInt8)) = false := bne_eq_false_iff_eq.mpr c26
                    clear c26
                    by_cases c27 : t144 = (t137.size : Int)
                    ·rw [if_pos c27] at H
                     have c27b0 : (t144 == (t137.size : Int)) = true := beq_iff_eq.mpr c27
                     have c27b1 : (t144 != (t137.size : Int)) = false := bne_eq_false_iff_eq.mpr c27
                     clear c27
                     by_cases c28 : t145 = 0
                     ·rw [if_pos c28] at H
                      have c28b0 : (t145 == 0) = true := beq_iff_eq.mpr c28
                      have c28b1 : (t145 != 0) = false := bne_eq_false_iff_eq.mpr c28
                      clear c28
                      by_cases c29 : t147.toList = ([49] : List UInt8)
                      ·rw [if_pos c29] at H
                       have c29b0 : (t147.toList == ([49] : List UInt8)) = true := beq_iff_eq.mpr c29
                       have c29b1 : (t147.toList != ([49] : List UInt8)) = false := bne_eq_false_iff_eq.mpr c29
                       clear c29
                       obtain rfl := Option.some.inj H
                       simp only [Option.some.injEq, Prod.mk.injEq] at H
                       obtain ⟨rfl⟩ := H
                       go_enter Tryz.func9, Tryz.ntmps9
                       go_wp2_with (first | ((with_reducible refine gate_callee (f := 10) rfl ?_); refine goesL_ (some 21) rfl rfl Tryz.func10 (by kernel_rfl) rfl #[.string (⟨#[71, 69, 84, 32, 47, 97, 32, 72, 84, 84, 80, 47, 49, 46, 49, 13, 10, 88, 58, 32, 49, 13, 10, 13, 10, 109, 111, 114, 101]⟩ : ByteArray)] rfl zz4 ?_; (with_reducible refine (http_Read.calls (⟨#[71, 69, 84, 32, 47, 97, 32, 72, 84, 84, 80, 47, 49, 46, 49, 13, 10, 88, 58, 32, 49, 13, 10, 13, 10, 109, 111, 114, 101]⟩ : ByteArray) t103 t104 t105 t108 t109 t110 _ A1.out (HL.later zz25)).mono ?_); rintro e w30 ⟨v106, rfl, ho0, hb⟩; refine ⟨_, rfl, ?_⟩; have n0_ := qH (Kd.R_lower ho0 (below_size zz2)); have n1_ := qH (below_step zz2 hb); clear HB; have HO107 := n0_; have HB := n1_; clear n0_ n1_; (try clear hb); (try clear hb2); (try clear hk); (try clear hi); (try clear ho0)) | ((with_reducible refine gate_dst (N := 1) rfl ?_); (try (refine gate_guard (by rfl) ?_; dsimp only)); refine box_event ?hg (N := 1) ?hd (cs := #[.string (⟨#[]⟩ : ByteArray), .string (⟨#[]⟩ : ByteArray), .slice none 0 0, .string (⟨#[]⟩ : ByteArray)]) (t := 25) ?hr ?_; (case hd => rfl); (case hg => rfl); (case hr => first | (go_simp; done) | (go_simp; rfl) | (go_simp; simp [IntKind.wrap_u32]; done)); intro gb111 hg w31 hbox hb; have n0_ := qH (Kd.R_below zz47 hb); have n1_ := qH (below_step zz2 hb); have n2_ := qH (hbox); have n3_ := qH ((by rw [hg]; exact (below_size zz2) : w.heap.size ≤ gb111)); have n4_ := n3_; clear HO107; clear HB; have HO107 := n0_; have HB := n1_; have BK111 := n2_; have GW111 := n3_; have GE111 := n4_; clear n0_ n1_ n2_ n3_ n4_; clear hb hbox hg; obtain ⟨hcz32_0, hcz32_1, hcz32_2, hcz32_3⟩ := qc4 BK111.out; obtain ⟨hfz32_0, hfz32_1, hfz32_2, hfz32_3⟩ := qf4 BK111.out; obtain ⟨Ao33, co33, eo33⟩ := Kd.R_slice HO107.out; subst eo33) | ((with_reducible refine gate_callee (f := 10) rfl ?_); refine goesL_ (some 27) rfl rfl Tryz.func10 (by kernel_rfl) rfl #[.string ((⟨#[71, 69, 84, 32, 47, 97, 32, 72, 84, 84, 80, 47, 49, 46, 49, 13, 10, 88, 58, 32, 49, 13, 10, 13, 10]⟩ : ByteArray).extract 0 24)] rfl zz4 ?_; (with_reducible refine (http_Read.calls ((⟨#[71, 69, 84, 32, 47, 97, 32, 72, 84, 84, 80, 47, 49, 46, 49, 13, 10, 88, 58, 32, 49, 13, 10, 13, 10]⟩ : ByteArray).extract 0 24) t112 t113 t114 t117 t118 t119 _ A4.out (HL.later zz25)).mono ?_); rintro e w34 ⟨v115, rfl, ho0, hb⟩; refine ⟨_, rfl, ?_⟩; have n0_ := qH (Kd.R_elder' zz55 (Kd.R_base ho0) hb); have n1_ := qH (Kd.R_lower (Kd.R_new' ho0 (Kd.R_lt zz55)) (below_size zz66)); have n2_ := qH (qD (g := gb111) (o := .cells #[.string t103, .string t104, .slice Ao33 t105.length co33, .string t108] 25 (0, 0)) (by (with_reducible repeat first | apply qA | apply qC | apply qB); refine blk_put (cs := #[.string t103, .string t104, .slice Ao33 t105.length co33, .string (⟨#[]⟩ : ByteArray)]) ?_ 3 _ rfl; (with_reducible repeat first | apply qA | apply qC | apply qB); refine blk_put (cs := #[.string t103, .string t104, .slice none 0 0, .string (⟨#[]⟩ : ByteArray)]) ?_ 2 _ rfl; (with_reducible repeat first | apply qA | apply qC | apply qB); refine blk_put (cs := #[.string t103, .string (⟨#[]⟩ : ByteArray), .slice none 0 0, .string (⟨#[]⟩ : ByteArray)]) ?_ 1 _ rfl; (with_reducible repeat first | apply qA | apply qC | apply qB); refine blk_put (cs := #[.string (⟨#[]⟩ : ByteArray), .string (⟨#[]⟩ : ByteArray), .slice none 0 0, .string (⟨#[]⟩ : ByteArray)]) ?_ 0 _ rfl; (with_reducible repeat first | apply qA | apply qC | apply qB); exact BK111.out) hb); have n3_ := qH (below_step zz66 hb); clear HO107; clear BK111; clear HB; have HO107 := n0_; have HO116 := n1_; have BK111 := n2_; have HB := n3_; clear n0_ n1_ n2_ n3_; (try clear hb); (try clear hb2); (try clear hk); (try clear hi); (try clear ho0)) | ((with_reducible refine gate_dst (N := 4) rfl ?_); (try (refine gate_guard (by rfl) ?_; dsimp only)); refine box_event ?hg (N := 4) ?hd (cs := #[.string (⟨#[]⟩ : ByteArray), .string (⟨#[]⟩ : ByteArray), .slice none 0 0, .string (⟨#[]⟩ : ByteArray)]) (t := 25) ?hr ?_; (case hd => rfl); (case hg => rfl); (case hr => first | (go_simp; done) | (go_simp; rfl) | (go_simp; simp [IntKind.wrap_u32]; done)); intro gb120 hg w35 hbox hb; have n0_ := qH (Kd.R_below zz47 hb); have n1_ := qH (Kd.R_below zz53 hb); have n2_ := qH (qD (g := gb111) zz43 hb); have n3_ := qH (below_step zz66 hb); have n4_ := qH (hbox); have n5_ := qH ((by rw [hg]; exact (below_size zz66) : w.heap.size ≤ gb120)); have n6_ := n5_; have n7_ := qH ((by rw [hg]; exact qN (blk_lt (g := gb111) zz43) : gb111 ≠ gb120)); have n8_ := qH ((by rw [hg]; exact Nat.ne_of_gt (blk_lt (g := gb111) zz43) : gb120 ≠ gb111)); clear HO107; clear HO116; clear BK111; clear HB; have HO107 := n0_; have HO116 := n1_; have BK111 := n2_; have HB := n3_; have BK120 := n4_; have GW120 := n5_; have GE120 := n6_; have NB111_120 := n7_; have NB120_111 := n8_; clear n0_ n1_ n2_ n3_ n4_ n5_ n6_ n7_ n8_; clear hb hbox hg; have hnb36 := NB120_111.out; have hnc36 := NB111_120.out; obtain ⟨hcz37_0, hcz37_1, hcz37_2, hcz37_3⟩ := qc4 BK120.out; obtain ⟨hfz37_0, hfz37_1, hfz37_2, hfz37_3⟩ := qf4 BK120.out; obtain ⟨Ao38, co38, eo38⟩ := Kd.R_slice HO116.out; subst eo38) | ((with_reducible refine gate_callee (f := 10) rfl ?_); refine goesL_ (some 32) rfl rfl Tryz.func10 (by kernel_rfl) rfl #[.string (⟨#[71, 69, 84, 32, 47, 97, 32, 72, 84, 84, 80, 47, 49, 46, 48, 13, 10, 13, 10]⟩ : ByteArray)] rfl zz4 ?_; (with_reducible refine (http_Read.calls (⟨#[71, 69, 84, 32, 47, 97, 32, 72, 84, 84, 80, 47, 49, 46, 48, 13, 10, 13, 10]⟩ : ByteArray) t121 t122 t123 t126 t127 t128 _ A5.out (HL.later zz25)).mono ?_); rintro e w39 ⟨v124, rfl, ho0, hb⟩; refine ⟨_, rfl, ?_⟩; have n0_ := qH (Kd.R_elder' zz56 (Kd.R_base ho0) hb); have n1_ := qH (Kd.R_elder' zz57 (Kd.R_base ho0) hb); have n2_ := qH (Kd.R_lower (Kd.R_new' (Kd.R_new' ho0 (Kd.R_lt zz56)) (Kd.R_lt zz57)) (below_size zz62)); have n3_ := qH (qD (g := gb111) (o := .cells #[.string t103, .string t104, .slice Ao33 t105.length co33, .string t108] 25 (0, 0)) (by (with_reducible repeat first | apply qA | apply qC | apply qB); refine qG ?_ NB111_120.out _; (with_reducible repeat first | apply qA | apply qC | apply qB); refine qG ?_ NB111_120.out _; (with_reducible repeat first | apply qA | apply qC | apply qB); refine qG ?_ NB111_120.out _; (with_reducible repeat first | apply qA | apply qC | apply qB); refine qG ?_ NB111_120.out _; (with_reducible repeat first | apply qA | apply qC | apply qB); exact BK111.out) hb); have n4_ := qH (qD (g := gb120) (o := .cells #[.string t112, .string t113, .slice Ao38 t114.length co38, .string t117] 25 (0, 0)) (by (with_reducible repeat first | apply qA | apply qC | apply qB); refine blk_put (cs := #[.string t112, .string t113, .slice Ao38 t114.length co38, .string (⟨#[]⟩ : ByteArray)]) ?_ 3 _ rfl; (with_reducible repeat first | apply qA | apply qC | apply qB); refine blk_put (cs := #[.string t112, .string t113, .slice none 0 0, .string (⟨#[]⟩ : ByteArray)]) ?_ 2 _ rfl; (with_reducible repeat first | apply qA | apply qC | apply qB); refine blk_put (cs := #[.string t112, .string (⟨#[]⟩ : ByteArray), .slice none 0 0, .string (⟨#[]⟩ : ByteArray)]) ?_ 1 _ rfl; (with_reducible repeat first | apply qA | apply qC | apply qB); refine blk_put (cs := #[.string (⟨#[]⟩ : ByteArray), .string (⟨#[]⟩ : ByteArray), .slice none 0 0, .string (⟨#[]⟩ : ByteArray)]) ?_ 0 _ rfl; (with_reducible repeat first | apply qA | apply qC | apply qB); exact BK120.out) hb); have n5_ := qH (below_step zz62 hb); clear HO107; clear HO116; clear BK111; clear BK120; clear HB; have HO107 := n0_; have HO116 := n1_; have HO125 := n2_; have BK111 := n3_; have BK120 := n4_; have HB := n5_; clear n0_ n1_ n2_ n3_ n4_ n5_; (try clear hb); (try clear hb2); (try clear hk); (try clear hi); (try clear ho0)) | ((with_reducible refine gate_dst (N := 7) rfl ?_); (try (refine gate_guard (by rfl) ?_; dsimp only)); refine box_event ?hg (N := 7) ?hd (cs := #[.string (⟨#[]⟩ : ByteArray), .string (⟨#[]⟩ : ByteArray), .slice none 0 0, .string (⟨#[]⟩ : ByteArray)]) (t := 25) ?hr ?_; (case hd => rfl); (case hg => rfl); (case hr => first | (go_simp; done) | (go_simp; rfl) | (go_simp; simp [IntKind.wrap_u32]; done)); intro gb129 hg w40 hbox hb; have n0_ := qH (Kd.R_below zz47 hb); have n1_ := qH (Kd.R_below zz53 hb); have n2_ := qH (Kd.R_below zz63 hb); have n3_ := qH (qD (g := gb111) zz43 hb); have n4_ := qH (qD (g := gb120) zz49 hb); have n5_ := qH (below_step zz62 hb); have n6_ := qH (hbox); have n7_ := qH ((by rw [hg]; exact (below_size zz62) : w.heap.size ≤ gb129)); have n8_ := n7_; have n9_ := qH ((by rw [hg]; exact qN (blk_lt (g := gb111) zz43) : gb111 ≠ gb129)); have n10_ := qH ((by rw [hg]; exact Nat.ne_of_gt (blk_lt (g := gb111) zz43) : gb129 ≠ gb111)); have n11_ := qH ((by rw [hg]; exact qN (blk_lt (g := gb120) zz49) : gb120 ≠ gb129)); have n12_ := qH ((by rw [hg]; exact Nat.ne_of_gt (blk_lt (g := gb120) zz49) : gb129 ≠ gb120)); clear HO107; clear HO116; clear HO125; clear BK111; clear BK120; clear HB; have HO107 := n0_; have HO116 := n1_; have HO125 := n2_; have BK111 := n3_; have BK120 := n4_; have HB := n5_; have BK129 := n6_; have GW129 := n7_; have GE129 := n8_; have NB111_129 := n9_; have NB129_111 := n10_; have NB120_129 := n11_; have NB129_120 := n12_; clear n0_ n1_ n2_ n3_ n4_ n5_ n6_ n7_ n8_ n9_ n10_ n11_ n12_; clear hb hbox hg; have hnb41 := NB129_111.out; have hnc41 := NB111_129.out; have hnb42 := NB129_120.out; have hnc42 := NB120_129.out; obtain ⟨hcz43_0, hcz43_1, hcz43_2, hcz43_3⟩ := qc4 BK129.out; obtain ⟨hfz43_0, hfz43_1, hfz43_2, hfz43_3⟩ := qf4 BK129.out; obtain ⟨Ao44, co44, eo44⟩ := Kd.R_slice HO125.out; subst eo44) | ((with_reducible refine gate_callee (f := 16) rfl ?_); refine goesL_ (some 37) rfl rfl Tryz.func16 (by kernel_rfl) rfl #[.string (⟨#[47, 97, 37, 50, 48, 98, 47, 99, 63, 120, 61, 49, 38, 121]⟩ : ByteArray)] rfl zz4 ?_; (with_reducible refine (http_Path.calls (⟨#[47, 97, 37, 50, 48, 98, 47, 99, 63, 120, 61, 49, 38, 121]⟩ : ByteArray) t130 t131 t132 _ A6.out (HL.later zz25)).mono ?_); rintro e w45 ⟨v133, v135, rfl, ho0, ho1, hb⟩; refine ⟨_, rfl, ?_⟩; have n0_ := qH (Kd.R_elder' zz58 (Kd.R_base ho1) hb); have n1_ := qH (Kd.R_elder' zz59 (Kd.R_base ho1) hb); have n2_ := qH (Kd.R_elder' zz60 (Kd.R_base ho1) hb); have n3_ := qH (Kd.R_lower ho0 (below_size zz24)); have n4_ := qH (Kd.R_lower (Kd.R_new' (Kd.R_new' (Kd.R_new' ho1 (Kd.R_lt zz58)) (Kd.R_lt zz59)) (Kd.R_lt zz60)) (below_size zz24)); have n5_ := qH (qD (g := gb111) (o := .cells #[.string t103, .string t104, .slice Ao33 t105.length co33, .string t108] 25 (0, 0)) (by (with_reducible repeat first | apply qA | apply qC | apply qB); refine qG ?_ NB111_129.out _; (with_reducible repeat first | apply qA | apply qC | apply qB); refine qG ?_ NB111_129.out _; (with_reducible repeat first | apply qA | apply qC | apply qB); refine qG ?_ NB111_129.out _; (with_reducible repeat first | apply qA | apply qC | apply qB); refine qG ?_ NB111_129.out _; (with_reducible repeat first | apply qA | apply qC | apply qB); exact BK111.out) hb); have n6_ := qH (qD (g := gb120) (o := .cells #[.string t112, .string t113, .slice Ao38 t114.length co38, .string t117] 25 (0, 0)) (by (with_reducible repeat first | apply qA | apply qC | apply qB); refine qG ?_ NB120_129.out _; (with_reducible repeat first | apply qA | apply qC | apply qB); refine qG ?_ NB120_129.out _; (with_reducible repeat first | apply qA | apply qC | apply qB); refine qG ?_ NB120_129.out _; (with_reducible repeat first | apply qA | apply qC | apply qB); refine qG ?_ NB120_129.out _; (with_reducible repeat first | apply qA | apply qC | apply qB); exact BK120.out) hb); have n7_ := qH (qD (g := gb129) (o := .cells #[.string t121, .string t122, .slice Ao44 t123.length co44, .string t126] 25 (0, 0)) (by (with_reducible repeat first | apply qA | apply qC | apply qB); refine blk_put (cs := #[.string t121, .string t122, .slice Ao44 t123.length co44, .string (⟨#[]⟩ : ByteArray)]) ?_ 3 _ rfl; (with_reducible repeat first | apply qA | apply qC | apply qB); refine blk_put (cs := #[.string t121, .string t122, .slice none 0 0, .string (⟨#[]⟩ : ByteArray)]) ?_ 2 _ rfl; (with_reducible repeat first | apply qA | apply qC | apply qB); refine blk_put (cs := #[.string t121, .string (⟨#[]⟩ : ByteArray), .slice none 0 0, .string (⟨#[]⟩ : ByteArray)]) ?_ 1 _ rfl; (with_reducible repeat first | apply qA | apply qC | apply qB); refine blk_put (cs := #[.string (⟨#[]⟩ : ByteArray), .string (⟨#[]⟩ : ByteArray), .slice none 0 0, .string (⟨#[]⟩ : ByteArray)]) ?_ 0 _ rfl; (with_reducible repeat first | apply qA | apply qC | apply qB); exact BK129.out) hb); have n8_ := qH (below_step zz24 hb); clear HO107; clear HO116; clear HO125; clear BK111; clear BK120; clear BK129; clear HB; have HO107 := n0_; have HO116 := n1_; have HO125 := n2_; have HO134 := n3_; have HO136 := n4_; have BK111 := n5_; have BK120 := n6_; have BK129 := n7_; have HB := n8_; clear n0_ n1_ n2_ n3_ n4_ n5_ n6_ n7_ n8_; (try clear hb); (try clear hb2); (try clear hk); (try clear hi); (try clear ho0); (try clear ho1)) | ((with_reducible refine gate_callee (f := 22) rfl ?_); refine goesL_ (some 43) rfl rfl Tryz.func22 (by kernel_rfl) rfl #[.agg #[.int .i64 200, .slice none 0 0, .string (⟨#[111, 107]⟩ : ByteArray)]] rfl zz4 ?_; (refine (http_Write.calls 200 _ _ ([] : List (S59)) (⟨#[111, 107]⟩ : ByteArray) t137 t138 _ ?side1 ?side2 A7.out (HL.later zz25)).mono ?_); (case side1 => exact Kd.C_nil _ _); (case side2 => exact Nat.le_refl _); rintro e w46 ⟨rfl, hb⟩; refine ⟨_, rfl, ?_⟩; have n0_ := qH (Kd.R_below zz47 hb); have n1_ := qH (Kd.R_below zz53 hb); have n2_ := qH (Kd.R_below zz63 hb); have n3_ := qH (Kd.R_below zz76 hb); have n4_ := qH (Kd.R_below zz72 hb); have n5_ := qH (qD (g := gb111) zz43 hb); have n6_ := qH (qD (g := gb120) zz49 hb); have n7_ := qH (qD (g := gb129) zz71 hb); have n8_ := qH (below_step zz24 hb); clear HO107; clear HO116; clear HO125; clear HO134; clear HO136; clear BK111; clear BK120; clear BK129; clear HB; have HO107 := n0_; have HO116 := n1_; have HO125 := n2_; have HO134 := n3_; have HO136 := n4_; have BK111 := n5_; have BK120 := n6_; have BK129 := n7_; have HB := n8_; clear n0_ n1_ n2_ n3_ n4_ n5_ n6_ n7_ n8_; (try clear hb); (try clear hb2); (try clear hk); (try clear hi)) | ((with_reducible refine gate_callee (f := 12) rfl ?_); refine goesL_ (some 48) rfl rfl Tryz.func12 (by kernel_rfl) rfl #[.string t137] rfl zz4 ?_; (with_reducible refine (http_Told.calls t137 t139 t140 t143 t144 t145 _ A8.out (HL.later zz25)).mono ?_); rintro e w47 ⟨v141, rfl, ho0, hb⟩; refine ⟨_, rfl, ?_⟩; have n0_ := qH (Kd.R_elder' zz47 (Kd.R_base ho0) hb); have n1_ := qH (Kd.R_elder' zz53 (Kd.R_base ho0) hb); have n2_ := qH (Kd.R_elder' zz63 (Kd.R_base ho0) hb); have n3_ := qH (Kd.R_below zz76 hb); have n4_ := qH (Kd.R_elder' zz72 (Kd.R_base ho0) hb); have n5_ := qH (Kd.R_lower (Kd.R_new' (Kd.R_new' (Kd.R_new' (Kd.R_new' ho0 (Kd.R_lt zz47)) (Kd.R_lt zz53)) (Kd.R_lt zz63)) (Kd.R_lt zz72)) (below_size zz24)); have n6_ := qH (qD (g := gb111) zz43 hb); have n7_ := qH (qD (g := gb120) zz49 hb); have n8_ := qH (qD (g := gb129) zz71 hb); have n9_ := qH (below_step zz24 hb); clear HO107; clear HO116; clear HO125; clear HO134; clear HO136; clear BK111; clear BK120; clear BK129; clear HB; have HO107 := n0_; have HO116 := n1_; have HO125 := n2_; have HO134 := n3_; have HO136 := n4_; have HO142 := n5_; have BK111 := n6_; have BK120 := n7_; have BK129 := n8_; have HB := n9_; clear n0_ n1_ n2_ n3_ n4_ n5_ n6_ n7_ n8_ n9_; (try clear hb); (try clear hb2); (try clear hk); (try clear hi); (try clear ho0)) | ((with_reducible refine gate_dst (N := 15) rfl ?_); (try (refine gate_guard (by rfl) ?_; dsimp only)); refine box_event ?hg (N := 15) ?hd (cs := #[.int .i64 0, .slice none 0 0, .string (⟨#[]⟩ : ByteArray)]) (t := 32) ?hr ?_; (case hd => rfl); (case hg => rfl); (case hr => first | (go_simp; done) | (go_simp; rfl) | (go_simp; simp [IntKind.wrap_u32]; done)); intro gb146 hg w48 hbox hb; have n0_ := qH (Kd.R_below zz47 hb); have n1_ := qH (Kd.R_below zz53 hb); have n2_ := qH (Kd.R_below zz63 hb); have n3_ := qH (Kd.R_below zz76 hb); have n4_ := qH (Kd.R_below zz72 hb); have n5_ := qH (Kd.R_below (by (with_reducible repeat (first | apply Kd.R_alloc | apply Kd.R_drewN | apply Kd.R_drew)); exact HO142.out) hb); have n6_ := qH (qD (g := gb111) zz43 hb); have n7_ := qH (qD (g := gb120) zz49 hb); have n8_ := qH (qD (g := gb129) zz71 hb); have n9_ := qH (below_step zz24 hb); have n10_ := qH (hbox); have n11_ := qH ((by rw [hg]; exact (below_size zz24) : w.heap.size ≤ gb146)); have n12_ := n11_; have n13_ := qH ((by rw [hg]; exact qN (blk_lt (g := gb111) zz43) : gb111 ≠ gb146)); have n14_ := qH ((by rw [hg]; exact Nat.ne_of_gt (blk_lt (g := gb111) zz43) : gb146 ≠ gb111)); have n15_ := qH ((by rw [hg]; exact qN (blk_lt (g := gb120) zz49) : gb120 ≠ gb146)); have n16_ := qH ((by rw [hg]; exact Nat.ne_of_gt (blk_lt (g := gb120) zz49) : gb146 ≠ gb120)); have n17_ := qH ((by rw [hg]; exact qN (blk_lt (g := gb129) zz71) : gb129 ≠ gb146)); have n18_ := qH ((by rw [hg]; exact Nat.ne_of_gt (blk_lt (g := gb129) zz71) : gb146 ≠ gb129)); clear HO107; clear HO116; clear HO125; clear HO134; clear HO136; clear HO142; clear BK111; clear BK120; clear BK129; clear HB; have HO107 := n0_; have HO116 := n1_; have HO125 := n2_; have HO134 := n3_; have HO136 := n4_; have HO142 := n5_; have BK111 := n6_; have BK120 := n7_; have BK129 := n8_; have HB := n9_; have BK146 := n10_; have GW146 := n11_; have GE146 := n12_; have NB111_146 := n13_; have NB146_111 := n14_; have NB120_146 := n15_; have NB146_120 := n16_; have NB129_146 := n17_; have NB146_129 := n18_; clear n0_ n1_ n2_ n3_ n4_ n5_ n6_ n7_ n8_ n9_ n10_ n11_ n12_ n13_ n14_ n15_ n16_ n17_ n18_; clear hb hbox hg; have hnb49 := NB146_111.out; have hnc49 := NB111_146.out; have hnb50 := NB146_120.out; have hnc50 := NB120_146.out; have hnb51 := NB146_129.out; have hnc51 := NB129_146.out; obtain ⟨hcz52_0, hcz52_1, hcz52_2⟩ := qc3 BK146.out; obtain ⟨hfz52_0, hfz52_1, hfz52_2⟩ := qf3 BK146.out; obtain ⟨Ao53, co53, eo53⟩ := Kd.R_slice HO142.out; subst eo53; obtain ⟨hcz54_0, hcz54_1, hcz54_2, hcz54_3⟩ := qc4 BK111.out; obtain ⟨hfz54_0, hfz54_1, hfz54_2, hfz54_3⟩ := qf4 BK111.out) | ((with_reducible refine gate_callee (f := 24) rfl ?_); refine goesL_ (some 55) rfl rfl Tryz.func24 (by kernel_rfl) rfl #[.slice Ao33 t105.length co33, .string (⟨#[120]⟩ : ByteArray)] rfl zz4 ?_; (with_reducible refine (http_Get.calls k _ _ t105 (⟨#[120]⟩ : ByteArray) t147 t148 _ ?side1 ?side2 A9.out).mono ?_); (case side1 => refine (Kd.R_reads' (e := 59) (base := w.heap.size) (ok := fun k_ => ((((True ∧ some k_ ≠ (.slice Ao38 t114.length co38 : Value).ownBlock) ∧ some k_ ≠ (.slice Ao44 t123.length co44 : Value).ownBlock) ∧ some k_ ≠ (v135 : Value).ownBlock) ∧ some k_ ≠ (.slice Ao53 t140.length co53 : Value).ownBlock)) (n := t105.length) (c := co33) ?_).2.2; exact zz64); (case side2 => exact (Kd.R_reads' HO107.out).2.1); rintro e w55 ⟨rfl, hb⟩; refine ⟨_, rfl, ?_⟩; have n0_ := qH (Kd.R_below zz64 hb); have n1_ := qH (Kd.R_below (by (with_reducible repeat (first | apply Kd.R_alloc | apply Kd.R_drewN | apply Kd.R_drew)); exact (Kd.R_mono (Kd.R_far (p := ⟨gb146, 2, none⟩) (Kd.R_far (p := ⟨gb146, 1, none⟩) (Kd.R_far (p := ⟨gb146, 0, none⟩) (Kd.R_types HO116.out BK146.out zz73) (fun _ hk => hk.2) (.int .i64 t139)) (fun _ hk => hk.2) (.slice Ao53 t140.length co53)) (fun _ hk => hk.2) (.string t143)) (fun _ h_ => h_.1))) hb); have n2_ := qH (Kd.R_below (by (with_reducible repeat (first | apply Kd.R_alloc | apply Kd.R_drewN | apply Kd.R_drew)); exact (Kd.R_mono (Kd.R_far (p := ⟨gb146, 2, none⟩) (Kd.R_far (p := ⟨gb146, 1, none⟩) (Kd.R_far (p := ⟨gb146, 0, none⟩) (Kd.R_types HO125.out BK146.out zz73) (fun _ hk => hk.2) (.int .i64 t139)) (fun _ hk => hk.2) (.slice Ao53 t140.length co53)) (fun _ hk => hk.2) (.string t143)) (fun _ h_ => h_.1))) hb); have n3_ := qH (Kd.R_below (by (with_reducible repeat (first | apply Kd.R_alloc | apply Kd.R_drewN | apply Kd.R_drew)); exact (Kd.R_mono (Kd.R_far (p := ⟨gb146, 2, none⟩) (Kd.R_far (p := ⟨gb146, 1, none⟩) (Kd.R_far (p := ⟨gb146, 0, none⟩) (Kd.R_types HO134.out BK146.out zz73) (fun _ hk => hk.2) (.int .i64 t139)) (fun _ hk => hk.2) (.slice Ao53 t140.length co53)) (fun _ hk => hk.2) (.string t143)) (fun _ h_ => h_.1))) hb); have n4_ := qH (Kd.R_below (by (with_reducible repeat (first | apply Kd.R_alloc | apply Kd.R_drewN | apply Kd.R_drew)); exact (Kd.R_mono (Kd.R_far (p := ⟨gb146, 2, none⟩) (Kd.R_far (p := ⟨gb146, 1, none⟩) (Kd.R_far (p := ⟨gb146, 0, none⟩) (Kd.R_types HO136.out BK146.out zz73) (fun _ hk => hk.2) (.int .i64 t139)) (fun _ hk => hk.2) (.slice Ao53 t140.length co53)) (fun _ hk => hk.2) (.string t143)) (fun _ h_ => h_.1))) hb); have n5_ := qH (Kd.R_below (by (with_reducible repeat (first | apply Kd.R_alloc | apply Kd.R_drewN | apply Kd.R_drew)); exact (Kd.R_mono (Kd.R_far (p := ⟨gb146, 2, none⟩) (Kd.R_far (p := ⟨gb146, 1, none⟩) (Kd.R_far (p := ⟨gb146, 0, none⟩) (Kd.R_types HO142.out BK146.out zz73) (fun _ hk => hk.2) (.int .i64 t139)) (fun _ hk => hk.2) (.slice Ao53 t140.length co53)) (fun _ hk => hk.2) (.string t143)) (fun _ h_ => h_.1))) hb); have n6_ := qH (qD (g := gb111) (o := .cells #[.string t103, .string t104, .slice Ao33 t105.length co33, .string t108] 25 (0, 0)) (by (with_reducible repeat first | apply qA | apply qC | apply qB); refine qG ?_ NB111_146.out _; (with_reducible repeat first | apply qA | apply qC | apply qB); refine qG ?_ NB111_146.out _; (with_reducible repeat first | apply qA | apply qC | apply qB); refine qG ?_ NB111_146.out _; (with_reducible repeat first | apply qA | apply qC | apply qB); exact BK111.out) hb); have n7_ := qH (qD (g := gb120) (o := .cells #[.string t112, .string t113, .slice Ao38 t114.length co38, .string t117] 25 (0, 0)) (by (with_reducible repeat first | apply qA | apply qC | apply qB); refine qG ?_ NB120_146.out _; (with_reducible repeat first | apply qA | apply qC | apply qB); refine qG ?_ NB120_146.out _; (with_reducible repeat first | apply qA | apply qC | apply qB); refine qG ?_ NB120_146.out _; (with_reducible repeat first | apply qA | apply qC | apply qB); exact BK120.out) hb); have n8_ := qH (qD (g := gb129) (o := .cells #[.string t121, .string t122, .slice Ao44 t123.length co44, .string t126] 25 (0, 0)) (by (with_reducible repeat first | apply qA | apply qC | apply qB); refine qG ?_ NB129_146.out _; (with_reducible repeat first | apply qA | apply qC | apply qB); refine qG ?_ NB129_146.out _; (with_reducible repeat first | apply qA | apply qC | apply qB); refine qG ?_ NB129_146.out _; (with_reducible repeat first | apply qA | apply qC | apply qB); exact BK129.out) hb); have n9_ := qH (qD (g := gb146) (o := .cells #[.int .i64 t139, .slice Ao53 t140.length co53, .string t143] 32 (0, 0)) (by (with_reducible repeat first | apply qA | apply qC | apply qB); refine blk_put (cs := #[.int .i64 t139, .slice Ao53 t140.length co53, .string (⟨#[]⟩ : ByteArray)]) ?_ 2 _ rfl; (with_reducible repeat first | apply qA | apply qC | apply qB); refine blk_put (cs := #[.int .i64 t139, .slice none 0 0, .string (⟨#[]⟩ : ByteArray)]) ?_ 1 _ rfl; (with_reducible repeat first | apply qA | apply qC | apply qB); refine blk_put (cs := #[.int .i64 0, .slice none 0 0, .string (⟨#[]⟩ : ByteArray)]) ?_ 0 _ rfl; (with_reducible repeat first | apply qA | apply qC | apply qB); exact BK146.out) hb); have n10_ := qH (below_step zz25 hb); clear HO107; clear HO116; clear HO125; clear HO134; clear HO136; clear HO142; clear BK111; clear BK120; clear BK129; clear BK146; clear HB; have HO107 := n0_; have HO116 := n1_; have HO125 := n2_; have HO134 := n3_; have HO136 := n4_; have HO142 := n5_; have BK111 := n6_; have BK120 := n7_; have BK129 := n8_; have BK146 := n9_; have HB := n10_; clear n0_ n1_ n2_ n3_ n4_ n5_ n6_ n7_ n8_ n9_ n10_; (try clear hb); (try clear hb2); (try clear hk); (try clear hi); obtain ⟨hcz56_0, hcz56_1, hcz56_2, hcz56_3⟩ := qc4 BK111.out; obtain ⟨hfz56_0, hfz56_1, hfz56_2, hfz56_3⟩ := qf4 BK111.out; obtain ⟨Ao57, co57, eo57⟩ := Kd.R_slice HO134.out; subst eo57; have p149 : 0 ≤ (0 : Int) := zz42; have q149 : 0 < (t130.length : Int) := of_decide_eq_true zz0; obtain ⟨ad149, e149, hx149_0⟩ := Kd.at_string (Kd.R_reads' HO134.out).2.2 0 p149 q149; cases e149; have qi149 : (0 < t130.length) = True := eq_true zz42; (try rw [show ((0 : Int)).toNat = 0 from rfl] at hx149_0); (try rw [Addr.add_zero'] at hx149_0); replace p149 := eq_true p149; replace q149 := eq_true q149; obtain ⟨Ao58, co58, eo58⟩ := Kd.R_slice HO136.out; subst eo58; have p150 : 0 ≤ (1 : Int) := zz42; have q150 : 1 < (t131.length : Int) := of_decide_eq_true zz0; obtain ⟨ad150, e150, hx150_0, hx150_1⟩ := at_T59 (Kd.R_reads' HO136.out).2.2 1 p150 q150; cases e150; (try simp only [show (1 : Int).toNat = 1 from rfl, Nat.reduceMul, Nat.reduceEqDiff, Go.Addr.add, ↓reduceIte] at hx150_0); (try simp only [show (1 : Int).toNat = 1 from rfl, Nat.reduceMul, Nat.reduceEqDiff, Go.Addr.add, ↓reduceIte] at hx150_1); have qi150 : (1 < t131.length) = True := eq_true zz42; (try rw [show ((1 : Int)).toNat = 1 from rfl] at hx150_0); (try rw [show 1 * 2 = 2 from rfl] at hx150_0); (try rw [show ((1 : Int)).toNat = 1 from rfl] at hx150_1); (try rw [show 1 * 2 = 2 from rfl] at hx150_1); replace p150 := eq_true p150; replace q150 := eq_true q150; obtain ⟨hcz59_0, hcz59_1, hcz59_2⟩ := qc3 BK146.out; obtain ⟨hfz59_0, hfz59_1, hfz59_2⟩ := qf3 BK146.out))
                       go_ret
                       exact ⟨by first | rfl | (simp [errW_none, errW_some] <;> rfl) | (simp [*, errW_none, errW_some] <;> rfl), by repeat (first | (with_reducible first | exact HB.out | apply qL | apply qJ | apply qK | refine qI ?_ GE111.out | refine qI ?_ GE120.out | refine qI ?_ GE129.out | refine qI ?_ GE146.out) | exact HB.out)⟩
                      ·rw [if_neg c29] at H
                       have c29b0 : (t147.toList == ([49] : List UInt8)) = false := beq_eq_false_iff_ne.mpr c29
                       have c29b1 : (t147.toList != ([49] : List UInt8)) = true := bne_iff_ne.mpr c29
                       obtain rfl := Option.some.inj H
                       exact absurd hTrue.out zz73
                     ·rw [if_neg c28] at H
                      have c28b0 : (t145 == 0) = false := beq_eq_false_iff_ne.mpr c28
                      have c28b1 : (t145 != 0) = true := bne_iff_ne.mpr c28
                      obtain rfl := Option.some.inj H
                      exact absurd hTrue.out zz73
                    ·rw [if_neg c27] at H
                     have c27b0 : (t144 == (t137.size : Int)) = false := beq_eq_false_iff_ne.mpr c27
                     have c27b1 : (t144 != (t137.size : Int)) = true := bne_iff_ne.mpr c27
                     obtain rfl := Option.some.inj H
                     exact absurd hTrue.out zz73
                   ·rw [if_neg c26] at H
                    have c26b0 : (t143.toList == ([111, 107] : List UInt8)) = false := beq_eq_false_iff_ne.mpr c26
                    have c26b1 : (t143.toList != ([111, 107] : List UInt8)) = true := bne_iff_ne.mpr c26
                    obtain rfl := Option.some.inj H
                    exact absurd hTrue.out zz73
                  ·rw [if_neg c25] at H
                   have c25b0 : (t139 == 200) = false := beq_eq_false_iff_ne.mpr c25
                   have c25b1 : (t139 != 200) = true := bne_iff_ne.mpr c25
                   obtain rfl := Option.some.inj H
                   exact absurd hTrue.out zz73
                 ·rw [if_neg c24] at H
                  have c24b0 : (t138 == 0) = false := beq_eq_false_iff_ne.mpr c24
                  have c24b1 : (t138 != 0) = true := bne_iff_ne.mpr c24
                  obtain rfl := Option.some.inj H
                  exact absurd hTrue.out zz73
                ·rw [if_neg c23] at H
                 have c23b0 : (t137.toList == ([72, 84, 84, 80, 47, 49, 46, 49, 32, 50, 48, 48, 32, 79, 75, 13, 10, 99, 111, 110, 116, 101, 110, 116, 45, 108, 101, 110, 103, 116, 104, 58, 32, 50, 13, 10, 13, 10, 111, 107] : List UInt8)) = false := beq_eq_false_iff_ne.mpr c23
                 have c23b1 : (t137.toList != ([72, 84, 84, 80, 47, 49, 46, 49, 32, 50, 48, 48, 32, 79, 75, 13, 10, 99, 111, 110, 116, 101, 110, 116, 45, 108, 101, 110, 103, 116, 104, 58, 32, 50, 13, 10, 13, 10, 111, 107] : List UInt8)) = true := bne_iff_ne.mpr c23
                 obtain rfl := Option.some.inj H
                 exact absurd hTrue.out zz73
               ·rw [if_neg c22] at H
                have c22b0 : (t132 == 0) = false := beq_eq_false_iff_ne.mpr c22
                have c22b1 : (t132 != 0) = true := bne_iff_ne.mpr c22
                obtain rfl := Option.some.inj H
                exact absurd hTrue.out zz73
              ·rw [if_neg c21] at H
               have c21b0 : (((rd_T59 t131 1).f0).toList == ([121] : List UInt8)) = false := beq_eq_false_iff_ne.mpr c21
               have c21b1 : (((rd_T59 t131 1).f0).toList != ([121] : List UInt8)) = true := bne_iff_ne.mpr c21
               obtain rfl := Option.some.inj H
               exact absurd hTrue.out zz73
             ·rw [if_neg c20] at H
              exact absurd H zz65
            ·rw [if_neg c19] at H
             have c19b0 : ((t131.length : Int) == 2) = false := beq_eq_false_iff_ne.mpr c19
             have c19b1 : ((t131.length : Int) != 2) = true := bne_iff_ne.mpr c19
             obtain rfl := Option.some.inj H
             exact absurd hTrue.out zz73
           ·rw [if_neg c18] at H
            have c18b0 : ((rdOf ByteArray.empty t130 0).toList == ([97, 32, 98] : List UInt8)) = false := beq_eq_false_iff_ne.mpr c18
            have c18b1 : ((rdOf ByteArray.empty t130 0).toList != ([97, 32, 98] : List UInt8)) = true := bne_iff_ne.mpr c18
            obtain rfl := Option.some.inj H
            exact absurd hTrue.out zz73
          ·rw [if_neg c17] at H
           exact absurd H zz65
         ·rw [if_neg c16] at H
          have c16b0 : ((t130.length : Int) == 2) = false := beq_eq_false_iff_ne.mpr c16
          have c16b1 : ((t130.length : Int) != 2) = true := bne_iff_ne.mpr c16
          obtain rfl := Option.some.inj H
          exact absurd hTrue.out zz73
        ·rw [if_neg c15] at H
         have c15b0 : (t128 == 291) = false := beq_eq_false_iff_ne.mpr c15
         have c15b1 : (t128 != 291) = true := bne_iff_ne.mpr c15
         obtain rfl := Option.some.inj H
         exact absurd hTrue.out zz73
       ·rw [if_neg c14] at H
        have c14b0 : (t119 == 290) = false := beq_eq_false_iff_ne.mpr c14
        have c14b1 : (t119 != 290) = true := bne_iff_ne.mpr c14
        obtain rfl := Option.some.inj H
        exact absurd hTrue.out zz73
      ·rw [if_neg c13] at H
       have c13b0 : (t110 == 0) = false := beq_eq_false_iff_ne.mpr c13
       have c13b1 : (t110 != 0) = true := bne_iff_ne.mpr c13
       obtain rfl := Option.some.inj H
       exact absurd hTrue.out zz73
     ·rw [if_neg c12] at H
      have c12b0 : (t109 == 25) = false := beq_eq_false_iff_ne.mpr c12
      have c12b1 : (t109 != 25) = true := bne_iff_ne.mpr c12
      obtain rfl := Option.some.inj H
      exact absurd hTrue.out zz73
    ·rw [if_neg c11] at H
     have c11b0 : (t104.toList == ([47, 97] : List UInt8)) = false := beq_eq_false_iff_ne.mpr c11
     have c11b1 : (t104.toList != ([47, 97] : List UInt8)) = true := bne_iff_ne.mpr c11
     obtain rfl := Option.some.inj H
     exact absurd hTrue.out zz73
   ·rw [if_neg c10] at H
    have c10b0 : (t103.toList == ([71, 69, 84] : List UInt8)) = false := beq_eq_false_iff_ne.mpr c10
    have c10b1 : (t103.toList != ([71, 69, 84] : List UInt8)) = true := bne_iff_ne.mpr c10
    obtain rfl := Option.some.inj H
    exact absurd hTrue.out zz73
  ·rw [if_neg c3] at H
   exact absurd H zz65
 ·rw [if_neg c2] at H
  exact absurd H zz65

end Go.Proofs.YtddjhmelniphgaaGreatDoor.Print
