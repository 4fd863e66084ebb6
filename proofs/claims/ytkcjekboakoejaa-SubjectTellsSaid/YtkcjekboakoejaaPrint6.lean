-- Written by wip/tools/xprint.py of this session's repo (the kit's print, run with external functions). Lean checks it.
import Derived.Test.YtkcjekboakoejaaPrint0
import Derived.Test.YtkcjekboakoejaaPrint4
import Derived.Test.YtkcjekboakoejaaPrint5
namespace Go.Proofs.Ytkcjekboakoejaa.Print
open Go.RowKit Go.Proofs.YtkcjekboakoejaaW.PrintWords Go.Proofs.YtkcjekboakoejaaW.PrintLast Go.Proofs.YtkcjekboakoejaaW.PrintMore
attribute [local go_sem] max2_int min2_int max_two min_two max_three min_three max_four min_four   -- for this text's walks alone
set_option linter.unusedVariables false
set_option linter.unusedSimpArgs false

/-! ### codicilref18_Hard: function 17 -/
def codicilref18_Hard.f (k : Nat) (a0_0 : ByteArray) (a0_1 : Int) (l0_2 : List (S30)) (a1 : Int) : Option (ByteArray × Int × (List (S30)) × Int) := (codicilref18_May.f k a0_0 a0_1 l0_2).bind fun t247 => (if t247 = 0 then ((codicilref18_at.f k a0_0 a0_1 l0_2 a1).bind fun t248 => (if t248 < 0 then (some ((⟨#[]⟩ : ByteArray), 0, ([] : List (S30)), 5)) else (if 0 ≤ t248 then (if t248 < (l0_2.length : Int) then (if ((rd_T30 l0_2 t248).f2 = true) then (if t248 ≤ (l0_2.length : Int) then ((some (l0_2.take (t248 : Int).toNat : List (S30))).bind fun y251 => (if ([] : List (S30)).length + y251.length < 8796093022208 then ((some (([] : List (S30)) ++ y251 : List (S30))).bind fun y255 => (if 0 ≤ (wrap64 (t248 + 1)) then (if (wrap64 (t248 + 1)) ≤ (l0_2.length : Int) then ((some (l0_2.drop ((wrap64 (t248 + 1)) : Int).toNat : List (S30))).bind fun y258 => (if y255.length + y258.length < 8796093022208 then (some (a0_0, a0_1, (y255 ++ y258), 0)) else (none))) else (none)) else (none))) else (none))) else (none)) else (some ((⟨#[]⟩ : ByteArray), 0, ([] : List (S30)), 3))) else (none)) else (none)))) else (some ((⟨#[]⟩ : ByteArray), 0, ([] : List (S30)), 8)))
theorem codicilref18_Hard.mono : ∀ a0 a1 a2 a3 k, LeO (codicilref18_Hard.f k a0 a1 a2 a3) (codicilref18_Hard.f (k + 1) a0 a1 a2 a3) := by
 intro a0 a1 a2 a3 k
 unfold codicilref18_Hard.f
 repeat' first
   | (with_reducible exact codicilref18_May.mono _ _ _ _)
   | (with_reducible exact codicilref18_at.mono _ _ _ _ _)
   | (with_reducible exact LeO.refl _)
   | (with_reducible exact LeO.none _)
   | (with_reducible refine LeO.ite ?_ ?_)
   | (with_reducible refine LeO.bind ?_ (fun _ => ?_))
   | exact codicilref18_May.mono _ _ _ _
   | exact codicilref18_at.mono _ _ _ _ _
   | exact LeO.none _
   | refine LeO.ite ?_ ?_
   | refine LeO.bind ?_ (fun _ => ?_)
def codicilref18_Hard.T9 : Bool × List (List Nat × List Nat) := (true, [([], []), ([0], [0]), ([], []), ([2], [2]), ([], []), ([3, 4], [3, 4]), ([1, 5], [1, 5]), ([0, 1, 2, 3, 4, 5, 6], []), ([7, 6, 6, 0, 1, 2, 3, 4, 5, 6], [6, 7])])
def codicilref18_Hard.B9 : List Nat := [0, 1, 0, 4, 0, 28, 63, 127, 255]
theorem codicilref18_Hard.tab9 : rtab .any (opsOf Try.f17 9) = codicilref18_Hard.T9 := by kernel_rfl
theorem codicilref18_Hard.bits9 : waitsOk codicilref18_Hard.T9.2 codicilref18_Hard.B9 = true := by kernel_rfl
def codicilref18_Hard.T10 : Bool × List (List Nat × List Nat) := (true, [([], []), ([0], [0]), ([], []), ([2], [2]), ([], []), ([4], [4]), ([3, 5], [3, 5]), ([1, 6], [1, 6]), ([0, 1, 2, 3, 4, 5, 6, 7], []), ([8, 7, 7, 0, 1, 2, 3, 4, 5, 6, 7], [7, 8])])
def codicilref18_Hard.B10 : List Nat := [0, 1, 0, 4, 0, 16, 60, 127, 255, 511]
theorem codicilref18_Hard.tab10 : rtab .any (opsOf Try.f17 10) = codicilref18_Hard.T10 := by kernel_rfl
theorem codicilref18_Hard.bits10 : waitsOk codicilref18_Hard.T10.2 codicilref18_Hard.B10 = true := by kernel_rfl
set_option maxHeartbeats 8000000 in
set_option maxRecDepth 100000 in
theorem codicilref18_Hard.calls (k : Nat) (a0_0 : ByteArray) (a0_1 : Int) (A0_2 : Option Addr) (c0_2 : Nat) (l0_2 : List (S30)) (a1 : Int) (r1 : ByteArray) (r2 : Int) (r3 : List (S30)) (r4 : Int) (w : World) (hr0_2 : Kd.C k30 w A0_2 l0_2.length l0_2) (hc0_2 : l0_2.length ≤ c0_2) (h : codicilref18_Hard.f k a0_0 a0_1 l0_2 a1 = some (r1, r2, r3, r4)) :
  Calls Try.prog 17 #[.agg #[.string a0_0, .int .i64 a0_1, .slice A0_2 l0_2.length c0_2], .int .i64 a1] w fun e w' => ∃ v2_ : Value, e = .returned (.tuple #[.agg #[.string r1, .int .i64 r2, v2_], .int .i64 r4]) ∧ Kd.R k30 30 w' w.heap.size (fun _ => True) v2_ r3 ∧ Below w.heap.size w w' := by
 have hu24 := Try.underlying24
 have HR0_2 := qH hr0_2
 have HC0_2 := qH hc0_2
 clear hr0_2 hc0_2
 have HB := qH (Below.refl w.heap.size w)
 have H : ((codicilref18_May.f k a0_0 a0_1 l0_2).bind fun t247 => (if t247 = 0 then ((codicilref18_at.f k a0_0 a0_1 l0_2 a1).bind fun t248 => (if t248 < 0 then (some ((⟨#[]⟩ : ByteArray), 0, ([] : List (S30)), 5)) else (if 0 ≤ t248 then (if t248 < (l0_2.length : Int) then (if ((rd_T30 l0_2 t248).f2 = true) then (if t248 ≤ (l0_2.length : Int) then ((some (l0_2.take (t248 : Int).toNat : List (S30))).bind fun y251 => (if ([] : List (S30)).length + y251.length < 8796093022208 then ((some (([] : List (S30)) ++ y251 : List (S30))).bind fun y255 => (if 0 ≤ (wrap64 (t248 + 1)) then (if (wrap64 (t248 + 1)) ≤ (l0_2.length : Int) then ((some (l0_2.drop ((wrap64 (t248 + 1)) : Int).toNat : List (S30))).bind fun y258 => (if y255.length + y258.length < 8796093022208 then (some (a0_0, a0_1, (y255 ++ y258), 0)) else (none))) else (none)) else (none))) else (none))) else (none)) else (some ((⟨#[]⟩ : ByteArray), 0, ([] : List (S30)), 3))) else (none)) else (none)))) else (some ((⟨#[]⟩ : ByteArray), 0, ([] : List (S30)), 8)))) = some (r1, r2, r3, r4) := h
 clear h
 replace H := Option.bind_eq_some_iff.mp H
 obtain ⟨t247, A30, H⟩ := H
 (try dsimp only at H)
 have A3 := qH A30
 clear A30
 by_cases c4 : t247 = 0
 ·rw [if_pos c4] at H
  have c4b0 : (t247 == 0) = true := beq_iff_eq.mpr c4
  have c4b1 : (t247 != 0) = false := bne_eq_false_iff_eq.mpr c4
  clear c4
  replace H := Option.bind_eq_some_iff.mp H
  obtain ⟨t248, A50, H⟩ := H
  (try dsimp only at H)
  have A5 := qH A50
  clear A50
  by_cases c6 : t248 < 0
  ·rw [if_pos c6] at H
   have c6b0 : decide (t248 < 0) = true := decide_eq_true c6
   clear c6
   simp only [Option.some.injEq, Prod.mk.injEq] at H
   obtain ⟨rfl, rfl, rfl, rfl⟩ := H
   go_enter Try.func17, Try.ntmps17
   go_wp2_with (first | ((with_reducible refine gate_dst (N := 2) rfl ?_); refine box_event ?hg (N := 2) ?hd (cs := #[.string a0_0, .int .i64 a0_1, .slice A0_2 l0_2.length c0_2]) (t := 24) ?hr ?_; (case hd => rfl); (case hg => rfl); (case hr => first | (go_simp; done) | (go_simp; rfl)); intro gb245 hg w7 hbox hb; have n0_ := qH (below_step (by repeat (first | (with_reducible first | exact HB.out | apply qL | apply qJ | apply qK) | exact HB.out)) hb); have n1_ := qH (hbox); have n2_ := qH ((by rw [hg]; exact (below_size (by repeat (first | (with_reducible first | exact HB.out | apply qL | apply qJ | apply qK) | exact HB.out))) : w.heap.size ≤ gb245)); have n3_ := n2_; clear HB; have HB := n0_; have BK245 := n1_; have GW245 := n2_; have GE245 := n3_; clear n0_ n1_ n2_ n3_; clear hb hbox hg) | ((with_reducible refine gate_dst (N := 4) rfl ?_); refine box_event ?hg (N := 4) ?hd (cs := #[.string (⟨#[]⟩ : ByteArray), .int .i64 0, .slice none 0 0]) (t := 24) ?hr ?_; (case hd => rfl); (case hg => rfl); (case hr => first | (go_simp; done) | (go_simp; rfl)); intro gb246 hg w8 hbox hb; have n0_ := qH (qD (g := gb245) (by (with_reducible repeat first | apply qA | apply qC | apply qB); exact BK245.out) hb); have n1_ := qH (below_step (by repeat (first | (with_reducible first | exact HB.out | apply qL | apply qJ | apply qK | refine qI ?_ GE245.out) | exact HB.out)) hb); have n2_ := qH (hbox); have n3_ := qH ((by rw [hg]; exact (below_size (by repeat (first | (with_reducible first | exact HB.out | apply qL | apply qJ | apply qK | refine qI ?_ GE245.out) | exact HB.out))) : w.heap.size ≤ gb246)); have n4_ := n3_; have n5_ := qH ((by rw [hg]; exact qN (blk_lt (g := gb245) (by (with_reducible repeat first | apply qA | apply qC | apply qB); exact BK245.out)) : gb245 ≠ gb246)); have n6_ := qH ((by rw [hg]; exact Nat.ne_of_gt (blk_lt (g := gb245) (by (with_reducible repeat first | apply qA | apply qC | apply qB); exact BK245.out)) : gb246 ≠ gb245)); clear BK245; clear HB; have BK245 := n0_; have HB := n1_; have BK246 := n2_; have GW246 := n3_; have GE246 := n4_; have NB245_246 := n5_; have NB246_245 := n6_; clear n0_ n1_ n2_ n3_ n4_ n5_ n6_; clear hb hbox hg; have hnb9 := NB245_246.out; have hnc9 := NB246_245.out; obtain ⟨hcz10_0, hcz10_1, hcz10_2⟩ := qc3 BK245.out; obtain ⟨hfz10_0, hfz10_1, hfz10_2⟩ := qf3 BK245.out) | ((with_reducible refine gate_callee (f := 29) rfl ?_); refine goesL_ (some 9) rfl rfl Try.func29 (by kernel_rfl) rfl #[.agg #[.string a0_0, .int .i64 a0_1, .slice A0_2 l0_2.length c0_2]] rfl (by (try simp only [List.map_toArray, List.map_cons, List.map_nil]); first | done | rfl | (simp only [List.length_drop, List.length_take]; rfl)) ?_; (with_reducible refine (codicilref18_May.calls k a0_0 a0_1 _ _ l0_2 t247 _ ?side1 ?side2 A3.out).mono ?_); (case side1 => repeat (first | exact (Kd.C_below HR0_2.out HB.out) | (with_reducible refine Kd.C_alloc ?_ _) | (with_reducible refine Kd.C_drewN ?_ _) | (with_reducible refine Kd.C_drew ?_))); (case side2 => exact HC0_2.out); rintro e w11 ⟨rfl, hb⟩; refine ⟨_, rfl, ?_⟩; have n0_ := qH (qD (g := gb245) (by (with_reducible repeat first | apply qA | apply qC | apply qB); exact BK245.out) hb); have n1_ := qH (qD (g := gb246) (o := .cells #[.string (⟨#[]⟩ : ByteArray), .int .i64 0, .slice none 0 0] 24 (0, 0)) (by (with_reducible repeat first | apply qA | apply qC | apply qB); exact BK246.out) hb); have n2_ := qH (below_step (by repeat (first | (with_reducible first | exact HB.out | apply qL | apply qJ | apply qK | refine qI ?_ GE245.out | refine qI ?_ GE246.out) | exact HB.out)) hb); clear BK245; clear BK246; clear HB; have BK245 := n0_; have BK246 := n1_; have HB := n2_; clear n0_ n1_ n2_; (try clear hb); (try clear hb2); (try clear hk); (try clear hi); obtain ⟨hcz12_0, hcz12_1, hcz12_2⟩ := qc3 BK245.out; obtain ⟨hfz12_0, hfz12_1, hfz12_2⟩ := qf3 BK245.out) | ((with_reducible refine gate_callee (f := 42) rfl ?_); refine goesL_ (some 14) rfl rfl Try.func42 (by kernel_rfl) rfl #[.agg #[.string a0_0, .int .i64 a0_1, .slice A0_2 l0_2.length c0_2], .int .i64 a1] rfl (by (try simp only [List.map_toArray, List.map_cons, List.map_nil]); first | done | rfl | (simp only [List.length_drop, List.length_take]; rfl)) ?_; (with_reducible refine (codicilref18_at.calls k a0_0 a0_1 _ _ l0_2 a1 t248 _ ?side1 ?side2 A5.out).mono ?_); (case side1 => repeat (first | exact (Kd.C_below HR0_2.out HB.out) | (with_reducible refine Kd.C_alloc ?_ _) | (with_reducible refine Kd.C_drewN ?_ _) | (with_reducible refine Kd.C_drew ?_))); (case side2 => exact HC0_2.out); rintro e w13 ⟨rfl, hb⟩; refine ⟨_, rfl, ?_⟩; have n0_ := qH (qD (g := gb245) (by (with_reducible repeat first | apply qA | apply qC | apply qB); exact BK245.out) hb); have n1_ := qH (qD (g := gb246) (o := .cells #[.string (⟨#[]⟩ : ByteArray), .int .i64 0, .slice none 0 0] 24 (0, 0)) (by (with_reducible repeat first | apply qA | apply qC | apply qB); exact BK246.out) hb); have n2_ := qH (below_step (by repeat (first | (with_reducible first | exact HB.out | apply qL | apply qJ | apply qK | refine qI ?_ GE245.out | refine qI ?_ GE246.out) | exact HB.out)) hb); clear BK245; clear BK246; clear HB; have BK245 := n0_; have BK246 := n1_; have HB := n2_; clear n0_ n1_ n2_; (try clear hb); (try clear hb2); (try clear hk); (try clear hi); obtain ⟨hcz14_0, hcz14_1, hcz14_2⟩ := qc3 BK246.out; obtain ⟨hfz14_0, hfz14_1, hfz14_2⟩ := qf3 BK246.out))
   refine bodyPost_ret (results_ct rfl _ _ gb246 24 #[.string (⟨#[]⟩ : ByteArray), .int .i64 0, .slice none 0 0] (0, 0) _ rfl (by (with_reducible repeat first | apply qA | apply qC | apply qB); refine blk_put (cs := #[.string (⟨#[]⟩ : ByteArray), .int .i64 0, .slice none 0 0]) ?_ 2 _ rfl; (with_reducible repeat first | apply qA | apply qC | apply qB); refine blk_put (cs := #[.string (⟨#[]⟩ : ByteArray), .int .i64 0, .slice none 0 0]) ?_ 1 _ rfl; (with_reducible repeat first | apply qA | apply qC | apply qB); refine blk_put (cs := #[.string (⟨#[]⟩ : ByteArray), .int .i64 0, .slice none 0 0]) ?_ 0 _ rfl; (with_reducible repeat first | apply qA | apply qC | apply qB); exact BK246.out) Try.underlying24 rfl (by kernel_rfl)) rfl ?_
   exact ⟨_, by first | rfl | (simp [errW_none, errW_some] <;> rfl) | (simp [*, errW_none, errW_some] <;> rfl), by first | exact Kd.R_nil _ _ _ _ _ | exact Kd.N_nil _ _ _ _ _ | exact Kd.V_nil _ _ _ _ _ | exact Kd.Q_nil _ _ _ _ _ | exact Kd.S_nil _ _ _ _ _, by repeat (first | (with_reducible first | exact HB.out | apply qL | apply qJ | apply qK | refine qI ?_ GE245.out | refine qI ?_ GE246.out) | exact HB.out)⟩
  ·rw [if_neg c6] at H
   have c6b0 : decide (t248 < 0) = false := decide_eq_false c6
   clear c6
   by_cases c15 : 0 ≤ t248
   ·rw [if_pos c15] at H
    have c15b0 : decide (0 ≤ t248) = true := decide_eq_true c15
    clear c15
    by_cases c16 : t248 < (l0_2.length : Int)
    ·rw [if_pos c16] at H
     have c16b0 : decide (t248 < (l0_2.length : Int)) = true := decide_eq_true c16
     clear c16
     obtain ⟨bq17, hbq17⟩ : ∃ b_ : Bool, b_ = ((rd_T30 l0_2 t248).f2) := ⟨_, rfl⟩
     replace H : (if (bq17 = true) then (if t248 ≤ (l0_2.length : Int) then ((some (l0_2.take (t248 : Int).toNat : List (S30))).bind fun y251 => (if ([] : List (S30)).length + y251.length < 8796093022208 then ((some (([] : List (S30)) ++ y251 : List (S30))).bind fun y255 => (if 0 ≤ (wrap64 (t248 + 1)) then (if (wrap64 (t248 + 1)) ≤ (l0_2.length : Int) then ((some (l0_2.drop ((wrap64 (t248 + 1)) : Int).toNat : List (S30))).bind fun y258 => (if y255.length + y258.length < 8796093022208 then (some (a0_0, a0_1, (y255 ++ y258), 0)) else (none))) else (none)) else (none))) else (none))) else (none)) else (some ((⟨#[]⟩ : ByteArray), 0, ([] : List (S30)), 3))) = some (r1, r2, r3, r4) := by rw [← hbq17] at H; exact H
     have Nbq17 := qH hbq17
     clear hbq17
     by_cases c18 : (bq17 = true)
     ·subst c18
      have H1 : (if t248 ≤ (l0_2.length : Int) then ((some (l0_2.take (t248 : Int).toNat : List (S30))).bind fun y251 => (if ([] : List (S30)).length + y251.length < 8796093022208 then ((some (([] : List (S30)) ++ y251 : List (S30))).bind fun y255 => (if 0 ≤ (wrap64 (t248 + 1)) then (if (wrap64 (t248 + 1)) ≤ (l0_2.length : Int) then ((some (l0_2.drop ((wrap64 (t248 + 1)) : Int).toNat : List (S30))).bind fun y258 => (if y255.length + y258.length < 8796093022208 then (some (a0_0, a0_1, (y255 ++ y258), 0)) else (none))) else (none)) else (none))) else (none))) else (none)) = some (r1, r2, r3, r4) := by rw [if_pos rfl] at H; exact H
      clear H
      have H := H1
      clear H1
      have c19b0 := eq_true (of_decide_eq_true (by first | (with_reducible assumption) | assumption) : 0 ≤ t248)
      by_cases c20 : t248 ≤ (l0_2.length : Int)
      ·rw [if_pos c20] at H
       have c20b0 := eq_true c20
       have c20b1 : decide (t248 ≤ (l0_2.length : Int)) = true := decide_eq_true c20
       clear c20
       obtain ⟨y251, hy251⟩ : ∃ y_ : List (S30), y_ = (l0_2.take (t248 : Int).toNat) := ⟨_, rfl⟩
       replace H : (if ([] : List (S30)).length + y251.length < 8796093022208 then ((some (([] : List (S30)) ++ y251 : List (S30))).bind fun y255 => (if 0 ≤ (wrap64 (t248 + 1)) then (if (wrap64 (t248 + 1)) ≤ (l0_2.length : Int) then ((some (l0_2.drop ((wrap64 (t248 + 1)) : Int).toNat : List (S30))).bind fun y258 => (if y255.length + y258.length < 8796093022208 then (some (a0_0, a0_1, (y255 ++ y258), 0)) else (none))) else (none)) else (none))) else (none)) = some (r1, r2, r3, r4) := by first | (rw [hy251]; with_reducible exact H) | (have H2_ := (Option.bind_some _ _).symm.trans H; rw [hy251]; with_reducible exact H2_) | (have H2_ := (Option.bind_some _ _).symm.trans H; with_reducible exact H2_) | with_reducible exact H | (rw [hy251]; exact H) | exact H
       have Ny251 := qH hy251
       clear hy251
       by_cases c21 : ([] : List (S30)).length + y251.length < 8796093022208
       ·rw [if_pos c21] at H
        have LMc21 := qH c21
        clear c21
        obtain ⟨y255, hy255⟩ : ∃ y_ : List (S30), y_ = (([] : List (S30)) ++ y251) := ⟨_, rfl⟩
        replace H : (if 0 ≤ (wrap64 (t248 + 1)) then (if (wrap64 (t248 + 1)) ≤ (l0_2.length : Int) then ((some (l0_2.drop ((wrap64 (t248 + 1)) : Int).toNat : List (S30))).bind fun y258 => (if y255.length + y258.length < 8796093022208 then (some (a0_0, a0_1, (y255 ++ y258), 0)) else (none))) else (none)) else (none)) = some (r1, r2, r3, r4) := by first | (rw [hy255]; with_reducible exact H) | (have H2_ := (Option.bind_some _ _).symm.trans H; rw [hy255]; with_reducible exact H2_) | (have H2_ := (Option.bind_some _ _).symm.trans H; with_reducible exact H2_) | with_reducible exact H | (rw [hy255]; exact H) | exact H
        have Ny255 := qH hy255
        clear hy255
        obtain ⟨ji22, hji22⟩ : ∃ j_ : Int, (wrap64 (t248 + 1)) = j_ := ⟨_, rfl⟩
        replace H : (if 0 ≤ (ji22) then (if (ji22) ≤ (l0_2.length : Int) then ((some (l0_2.drop ((ji22) : Int).toNat : List (S30))).bind fun y258 => (if y255.length + y258.length < 8796093022208 then (some (a0_0, a0_1, (y255 ++ y258), 0)) else (none))) else (none)) else (none)) = some (r1, r2, r3, r4) := by first | (rw [hji22] at H; exact H) | (simp only [hji22] at H ⊢; exact H)
        (try rw [hji22] at A3)
        (try rw [hji22] at A5)
        have hji22w : (IntKind.i64.wrap (t248 + 1)) = ji22 := (i64_w _).trans hji22
        by_cases c23 : 0 ≤ (ji22)
        ·rw [if_pos c23] at H
         have c23b0 := eq_true c23
         have c23b1 : decide (0 ≤ (ji22)) = true := decide_eq_true c23
         clear c23
         by_cases c24 : (ji22) ≤ (l0_2.length : Int)
         ·rw [if_pos c24] at H
          have c24b0 := eq_true c24
          have c24b1 : decide ((ji22) ≤ (l0_2.length : Int)) = true := decide_eq_true c24
          clear c24
          obtain ⟨y258, hy258⟩ : ∃ y_ : List (S30), y_ = (l0_2.drop ((ji22) : Int).toNat) := ⟨_, rfl⟩
          replace H : (if y255.length + y258.length < 8796093022208 then (some (a0_0, a0_1, (y255 ++ y258), 0)) else (none)) = some (r1, r2, r3, r4) := by first | (rw [hy258]; with_reducible exact H) | (have H2_ := (Option.bind_some _ _).symm.trans H; rw [hy258]; with_reducible exact H2_) | (have H2_ := (Option.bind_some _ _).symm.trans H; with_reducible exact H2_) | with_reducible exact H | (rw [hy258]; exact H) | exact H
          have Ny258 := qH hy258
          clear hy258
          by_cases c25 : y255.length + y258.length < 8796093022208
          ·rw [if_pos c25] at H
           have LMc25 := qH c25
           clear c25
           obtain ⟨y262, hy262⟩ : ∃ y_ : List (S30), y_ = (y255 ++ y258) := ⟨_, rfl⟩
           replace H : (some (a0_0, a0_1, y262, 0)) = some (r1, r2, r3, r4) := by first | (rw [hy262]; with_reducible exact H) | (have H2_ := (Option.bind_some _ _).symm.trans H; rw [hy262]; with_reducible exact H2_) | (have H2_ := (Option.bind_some _ _).symm.trans H; with_reducible exact H2_) | with_reducible exact H | (rw [hy262]; exact H) | exact H
           have Ny262 := qH hy262
           clear hy262
           simp only [Option.some.injEq, Prod.mk.injEq] at H
           obtain ⟨rfl, rfl, rfl, rfl⟩ := H
           go_enter Try.func17, Try.ntmps17
           try go_wp2_with (first | ((with_reducible refine gate_dst (N := 2) rfl ?_); refine box_event ?hg (N := 2) ?hd (cs := #[.string a0_0, .int .i64 a0_1, .slice A0_2 l0_2.length c0_2]) (t := 24) ?hr ?_; (case hd => rfl); (case hg => rfl); (case hr => first | (go_simp; done) | (go_simp; rfl)); intro gb245 hg w26 hbox hb; have n0_ := qH (below_step (by repeat (first | (with_reducible first | exact HB.out | apply qL | apply qJ | apply qK) | exact HB.out)) hb); have n1_ := qH (hbox); have n2_ := qH ((by rw [hg]; exact (below_size (by repeat (first | (with_reducible first | exact HB.out | apply qL | apply qJ | apply qK) | exact HB.out))) : w.heap.size ≤ gb245)); have n3_ := n2_; clear HB; have HB := n0_; have BK245 := n1_; have GW245 := n2_; have GE245 := n3_; clear n0_ n1_ n2_ n3_; clear hb hbox hg) | ((with_reducible refine gate_dst (N := 4) rfl ?_); refine box_event ?hg (N := 4) ?hd (cs := #[.string (⟨#[]⟩ : ByteArray), .int .i64 0, .slice none 0 0]) (t := 24) ?hr ?_; (case hd => rfl); (case hg => rfl); (case hr => first | (go_simp; done) | (go_simp; rfl)); intro gb246 hg w27 hbox hb; have n0_ := qH (qD (g := gb245) (by (with_reducible repeat first | apply qA | apply qC | apply qB); exact BK245.out) hb); have n1_ := qH (below_step (by repeat (first | (with_reducible first | exact HB.out | apply qL | apply qJ | apply qK | refine qI ?_ GE245.out) | exact HB.out)) hb); have n2_ := qH (hbox); have n3_ := qH ((by rw [hg]; exact (below_size (by repeat (first | (with_reducible first | exact HB.out | apply qL | apply qJ | apply qK | refine qI ?_ GE245.out) | exact HB.out))) : w.heap.size ≤ gb246)); have n4_ := n3_; have n5_ := qH ((by rw [hg]; exact qN (blk_lt (g := gb245) (by (with_reducible repeat first | apply qA | apply qC | apply qB); exact BK245.out)) : gb245 ≠ gb246)); have n6_ := qH ((by rw [hg]; exact Nat.ne_of_gt (blk_lt (g := gb245) (by (with_reducible repeat first | apply qA | apply qC | apply qB); exact BK245.out)) : gb246 ≠ gb245)); clear BK245; clear HB; have BK245 := n0_; have HB := n1_; have BK246 := n2_; have GW246 := n3_; have GE246 := n4_; have NB245_246 := n5_; have NB246_245 := n6_; clear n0_ n1_ n2_ n3_ n4_ n5_ n6_; clear hb hbox hg; have hnb28 := NB245_246.out; have hnc28 := NB246_245.out; obtain ⟨hcz29_0, hcz29_1, hcz29_2⟩ := qc3 BK245.out; obtain ⟨hfz29_0, hfz29_1, hfz29_2⟩ := qf3 BK245.out) | ((with_reducible refine gate_callee (f := 29) rfl ?_); refine goesL_ (some 9) rfl rfl Try.func29 (by kernel_rfl) rfl #[.agg #[.string a0_0, .int .i64 a0_1, .slice A0_2 l0_2.length c0_2]] rfl (by (try simp only [List.map_toArray, List.map_cons, List.map_nil]); first | done | rfl | (simp only [List.length_drop, List.length_take]; rfl)) ?_; (with_reducible refine (codicilref18_May.calls k a0_0 a0_1 _ _ l0_2 t247 _ ?side1 ?side2 A3.out).mono ?_); (case side1 => repeat (first | exact (Kd.C_below HR0_2.out HB.out) | (with_reducible refine Kd.C_alloc ?_ _) | (with_reducible refine Kd.C_drewN ?_ _) | (with_reducible refine Kd.C_drew ?_))); (case side2 => exact HC0_2.out); rintro e w30 ⟨rfl, hb⟩; refine ⟨_, rfl, ?_⟩; have n0_ := qH (qD (g := gb245) (by (with_reducible repeat first | apply qA | apply qC | apply qB); exact BK245.out) hb); have n1_ := qH (qD (g := gb246) (o := .cells #[.string (⟨#[]⟩ : ByteArray), .int .i64 0, .slice none 0 0] 24 (0, 0)) (by (with_reducible repeat first | apply qA | apply qC | apply qB); exact BK246.out) hb); have n2_ := qH (below_step (by repeat (first | (with_reducible first | exact HB.out | apply qL | apply qJ | apply qK | refine qI ?_ GE245.out | refine qI ?_ GE246.out) | exact HB.out)) hb); clear BK245; clear BK246; clear HB; have BK245 := n0_; have BK246 := n1_; have HB := n2_; clear n0_ n1_ n2_; (try clear hb); (try clear hb2); (try clear hk); (try clear hi); obtain ⟨hcz31_0, hcz31_1, hcz31_2⟩ := qc3 BK245.out; obtain ⟨hfz31_0, hfz31_1, hfz31_2⟩ := qf3 BK245.out) | ((with_reducible refine gate_callee (f := 42) rfl ?_); refine goesL_ (some 14) rfl rfl Try.func42 (by kernel_rfl) rfl #[.agg #[.string a0_0, .int .i64 a0_1, .slice A0_2 l0_2.length c0_2], .int .i64 a1] rfl (by (try simp only [List.map_toArray, List.map_cons, List.map_nil]); first | done | rfl | (simp only [List.length_drop, List.length_take]; rfl)) ?_; (with_reducible refine (codicilref18_at.calls k a0_0 a0_1 _ _ l0_2 a1 t248 _ ?side1 ?side2 A5.out).mono ?_); (case side1 => repeat (first | exact (Kd.C_below HR0_2.out HB.out) | (with_reducible refine Kd.C_alloc ?_ _) | (with_reducible refine Kd.C_drewN ?_ _) | (with_reducible refine Kd.C_drew ?_))); (case side2 => exact HC0_2.out); rintro e w32 ⟨rfl, hb⟩; refine ⟨_, rfl, ?_⟩; have n0_ := qH (qD (g := gb245) (by (with_reducible repeat first | apply qA | apply qC | apply qB); exact BK245.out) hb); have n1_ := qH (qD (g := gb246) (o := .cells #[.string (⟨#[]⟩ : ByteArray), .int .i64 0, .slice none 0 0] 24 (0, 0)) (by (with_reducible repeat first | apply qA | apply qC | apply qB); exact BK246.out) hb); have n2_ := qH (below_step (by repeat (first | (with_reducible first | exact HB.out | apply qL | apply qJ | apply qK | refine qI ?_ GE245.out | refine qI ?_ GE246.out) | exact HB.out)) hb); clear BK245; clear BK246; clear HB; have BK245 := n0_; have BK246 := n1_; have HB := n2_; clear n0_ n1_ n2_; (try clear hb); (try clear hb2); (try clear hk); (try clear hi); obtain ⟨hcz33_0, hcz33_1, hcz33_2⟩ := qc3 BK245.out; obtain ⟨hfz33_0, hfz33_1, hfz33_2⟩ := qf3 BK245.out; have p249 : 0 ≤ (t248 : Int) := of_decide_eq_true (by first | (with_reducible assumption) | assumption); have q249 : t248 < (l0_2.length : Int) := of_decide_eq_true (by first | (with_reducible assumption) | assumption); obtain ⟨ad249, e249, hx249_0, hx249_1, hx249_2⟩ := at_T30 HR0_2.out t248 p249 q249; (try rw [← Nbq17.out] at hx249_2); cases e249; replace hx249_0 := (HB.out.cell (qO w _ hx249_0)).trans hx249_0; replace hx249_1 := (HB.out.cell (qO w _ hx249_1)).trans hx249_1; replace hx249_2 := (HB.out.cell (qO w _ hx249_2)).trans hx249_2; replace p249 := eq_true p249; replace q249 := eq_true q249) | ((with_reducible refine gate_dst (N := 7) rfl ?_); refine box_event ?hg (N := 7) ?hd (cs := #[.string (⟨#[]⟩ : ByteArray), .int .i64 0, .slice none 0 0]) (t := 24) ?hr ?_; (case hd => rfl); (case hg => rfl); (case hr => first | (go_simp; done) | (go_simp; rfl)); intro gb250 hg w34 hbox hb; have n0_ := qH (qD (g := gb245) (by (with_reducible repeat first | apply qA | apply qC | apply qB); exact BK245.out) hb); have n1_ := qH (qD (g := gb246) (o := .cells #[.string (⟨#[]⟩ : ByteArray), .int .i64 0, .slice none 0 0] 24 (0, 0)) (by (with_reducible repeat first | apply qA | apply qC | apply qB); exact BK246.out) hb); have n2_ := qH (below_step (by repeat (first | (with_reducible first | exact HB.out | apply qL | apply qJ | apply qK | refine qI ?_ GE245.out | refine qI ?_ GE246.out) | exact HB.out)) hb); have n3_ := qH (hbox); have n4_ := qH ((by rw [hg]; exact (below_size (by repeat (first | (with_reducible first | exact HB.out | apply qL | apply qJ | apply qK | refine qI ?_ GE245.out | refine qI ?_ GE246.out) | exact HB.out))) : w.heap.size ≤ gb250)); have n5_ := n4_; have n6_ := qH ((by rw [hg]; exact qN (blk_lt (g := gb245) (by (with_reducible repeat first | apply qA | apply qC | apply qB); exact BK245.out)) : gb245 ≠ gb250)); have n7_ := qH ((by rw [hg]; exact Nat.ne_of_gt (blk_lt (g := gb245) (by (with_reducible repeat first | apply qA | apply qC | apply qB); exact BK245.out)) : gb250 ≠ gb245)); have n8_ := qH ((by rw [hg]; exact qN (blk_lt (g := gb246) (o := .cells #[.string (⟨#[]⟩ : ByteArray), .int .i64 0, .slice none 0 0] 24 (0, 0)) (by (with_reducible repeat first | apply qA | apply qC | apply qB); exact BK246.out)) : gb246 ≠ gb250)); have n9_ := qH ((by rw [hg]; exact Nat.ne_of_gt (blk_lt (g := gb246) (o := .cells #[.string (⟨#[]⟩ : ByteArray), .int .i64 0, .slice none 0 0] 24 (0, 0)) (by (with_reducible repeat first | apply qA | apply qC | apply qB); exact BK246.out)) : gb250 ≠ gb246)); clear BK245; clear BK246; clear HB; have BK245 := n0_; have BK246 := n1_; have HB := n2_; have BK250 := n3_; have GW250 := n4_; have GE250 := n5_; have NB245_250 := n6_; have NB250_245 := n7_; have NB246_250 := n8_; have NB250_246 := n9_; clear n0_ n1_ n2_ n3_ n4_ n5_ n6_ n7_ n8_ n9_; clear hb hbox hg; have hnb35 := NB250_245.out; have hnc35 := NB245_250.out; have hnb36 := NB250_246.out; have hnc36 := NB246_250.out; obtain ⟨hcz37_0, hcz37_1, hcz37_2⟩ := qc3 BK250.out; obtain ⟨hfz37_0, hfz37_1, hfz37_2⟩ := qf3 BK250.out))
           have n0_ : Aside0 ((((w34.setCell ⟨gb250, 0, none⟩ (.string a0_0)).setCell ⟨gb250, 1, none⟩ (.int .i64 a0_1)).setCell ⟨gb250, 2, none⟩ (.slice none 0 0)).heap[gb245]? = some (.cells #[.string a0_0, .int .i64 a0_1, .slice (some ad249) l0_2.length c0_2] 24 (0, 0))) := ⟨by (with_reducible repeat first | apply qA | apply qC | apply qB); refine qG ?_ NB245_250.out _; (with_reducible repeat first | apply qA | apply qC | apply qB); refine qG ?_ NB245_250.out _; (with_reducible repeat first | apply qA | apply qC | apply qB); refine qG ?_ NB245_250.out _; (with_reducible repeat first | apply qA | apply qC | apply qB); exact BK245.out⟩
           have n1_ : Aside0 ((((w34.setCell ⟨gb250, 0, none⟩ (.string a0_0)).setCell ⟨gb250, 1, none⟩ (.int .i64 a0_1)).setCell ⟨gb250, 2, none⟩ (.slice none 0 0)).heap[gb246]? = some (.cells #[.string (⟨#[]⟩ : ByteArray), .int .i64 0, .slice none 0 0] 24 (0, 0))) := ⟨by (with_reducible repeat first | apply qA | apply qC | apply qB); refine qG ?_ NB246_250.out _; (with_reducible repeat first | apply qA | apply qC | apply qB); refine qG ?_ NB246_250.out _; (with_reducible repeat first | apply qA | apply qC | apply qB); refine qG ?_ NB246_250.out _; (with_reducible repeat first | apply qA | apply qC | apply qB); exact BK246.out⟩
           have n2_ : Aside0 ((((w34.setCell ⟨gb250, 0, none⟩ (.string a0_0)).setCell ⟨gb250, 1, none⟩ (.int .i64 a0_1)).setCell ⟨gb250, 2, none⟩ (.slice none 0 0)).heap[gb250]? = some (.cells #[.string a0_0, .int .i64 a0_1, .slice none 0 0] 24 (0, 0))) := ⟨by (with_reducible repeat first | apply qA | apply qC | apply qB); refine blk_put (cs := #[.string a0_0, .int .i64 a0_1, .slice none 0 0]) ?_ 2 _ rfl; (with_reducible repeat first | apply qA | apply qC | apply qB); refine blk_put (cs := #[.string a0_0, .int .i64 0, .slice none 0 0]) ?_ 1 _ rfl; (with_reducible repeat first | apply qA | apply qC | apply qB); refine blk_put (cs := #[.string (⟨#[]⟩ : ByteArray), .int .i64 0, .slice none 0 0]) ?_ 0 _ rfl; (with_reducible repeat first | apply qA | apply qC | apply qB); exact BK250.out⟩
           have n3_ : Aside0 (Below w.heap.size w (((w34.setCell ⟨gb250, 0, none⟩ (.string a0_0)).setCell ⟨gb250, 1, none⟩ (.int .i64 a0_1)).setCell ⟨gb250, 2, none⟩ (.slice none 0 0))) := ⟨by repeat (first | (with_reducible first | exact HB.out | apply qL | apply qJ | apply qK | refine qI ?_ GE245.out | refine qI ?_ GE246.out | refine qI ?_ GE250.out) | exact HB.out)⟩
           (try clear BK245)
           (try clear BK246)
           (try clear BK250)
           (try clear HB)
           generalize (((w34.setCell ⟨gb250, 0, none⟩ (.string a0_0)).setCell ⟨gb250, 1, none⟩ (.int .i64 a0_1)).setCell ⟨gb250, 2, none⟩ (.slice none 0 0)) = w38 at n0_ n1_ n2_ n3_ ⊢
           have BK245 := n0_
           have BK246 := n1_
           have BK250 := n2_
           have HB := n3_
           clear n0_ n1_ n2_ n3_
           have n0_ := qH (qC BK245.out)
           have n1_ := qH (qC BK246.out)
           have n2_ := qH (qC BK250.out)
           have n3_ := qH (qK HB.out)
           clear BK245
           clear BK246
           clear BK250
           clear HB
           have BK245 := n0_
           have BK246 := n1_
           have BK250 := n2_
           have HB := n3_
           clear n0_ n1_ n2_ n3_
           have q40 : (t248 : Int) ≤ ((l0_2.length : Int) : Int) := of_decide_eq_true (by first | (with_reducible assumption) | assumption)
           obtain ⟨i040, hi040, _, hsz40, _⟩ := info_parts info30
           have hroom40 : l0_2.length ≤ c0_2 := HC0_2.out
           have hC40 : Kd.C k30 _ (some ad249) l0_2.length l0_2 := HR0_2.out
           have hcut40 := cut_to (P := Try.prog) 22 30 .i64 Try.underlying22 hi040 (some ad249) l0_2.length c0_2 t248 (of_decide_eq_true (by first | (with_reducible assumption) | assumption)) q40 hroom40
           have hr40 := Kd.C_take (m := (t248 : Int).toNat) hC40 (by omega)
           have hy40 : y251.length = (t248 : Int).toNat := (by rw [Ny251.out, List.length_take]; omega)
           rw [← Ny251.out] at hr40
           rw [← hy40] at hcut40
           have HR254 := qH hr40
           have HC254 := qH (show y251.length ≤ c0_2 from by omega)
           clear hr40 hC40 hroom40 hi040 hsz40
           have KY40 := qH hy40
           clear hy40
           replace q40 := eq_true q40
           refine start_ (n := 9) (S := fun w' => w'.cell? ⟨gb250, 0, none⟩ = some (.string a0_0) ∧ w'.cell? ⟨gb250, 1, none⟩ = some (.int .i64 a0_1) ∧ w'.cell? ⟨gb250, 2, none⟩ = some (.slice none 0 0) ∧ w'.cell? ⟨gb245, 0, none⟩ = some (.string a0_0) ∧ w'.cell? ⟨gb245, 1, none⟩ = some (.int .i64 a0_1) ∧ w'.cell? ⟨gb245, 2, none⟩ = some (.slice (some ad249) l0_2.length c0_2)) (ds := [8]) #[false, false, false, false, false, false, false, false, false] (by kernel_rfl) rfl rfl ⟨(qE BK250.out 0).trans rfl, (qE BK250.out 1).trans rfl, (qE BK250.out 2).trans rfl, (qE BK245.out 0).trans rfl, (qE BK245.out 1).trans rfl, (qE BK245.out 2).trans rfl⟩ (fun hHeld => ?_); refine with_tabW codicilref18_Hard.tab9 codicilref18_Hard.bits9 (fun HT_ HW_ => ?_)
           generalize w38.drew = w39 at BK245 BK246 BK250 HB HR254 hHeld ⊢
           refine pure_ (i := 0) (N := some 31) (v := ?_) (a' := ?_) #[true, false, false, false, false, false, false, false, false] rfl rfl (any_of HT_.out (by kernel_rfl)) (fun _ _ _ h => h) (Or.inl ⟨by rfl, ?_⟩) ?_ ?_
           rotate_left
           ·intro w'
            go_simp
            with_reducible rfl
           rotate_left
           ·simp only [Act.put, List.setIfInBounds_toArray, List.set_cons_zero, List.set_cons_succ, i64_w, i32_w]
            rfl
           refine pure_ (i := 2) (N := some 33) (v := ?_) (a' := ?_) #[true, false, true, false, false, false, false, false, false] rfl rfl (any_of HT_.out (by kernel_rfl)) (fun _ _ _ h => h) (Or.inl ⟨by rfl, ?_⟩) ?_ ?_
           rotate_left
           ·intro w'
            go_simp
            with_reducible rfl
           rotate_left
           ·simp only [Act.put, List.setIfInBounds_toArray, List.set_cons_zero, List.set_cons_succ, i64_w, i32_w]
            rfl
           refine pure_ (i := 4) (N := some 35) (v := ?_) (a' := ?_) #[true, false, true, false, true, false, false, false, false] rfl rfl (any_of HT_.out (by kernel_rfl)) (fun _ _ _ h => h) (Or.inl ⟨by rfl, ?_⟩) ?_ ?_
           rotate_left
           ·intro w'
            go_simp
            with_reducible rfl
           rotate_left
           ·simp only [Act.put, List.setIfInBounds_toArray, List.set_cons_zero, List.set_cons_succ, i64_w, i32_w]
            rfl
           refine take_ (i := 1) (N := some 32) (v := ?_) (a' := ?_) #[true, true, true, false, true, false, false, false, false] rfl rfl (take_ofW HT_.out HW_.out (by kernel_rfl)) (fun _ _ _ h => h) (Or.inl ⟨by rfl, ?_⟩) hHeld ?_ ?_
           rotate_left
           ·rintro w' ⟨s0, s1, s2, s3, s4, s5⟩
            go_simp
            with_reducible rfl
           rotate_left
           ·simp only [Act.put, List.setIfInBounds_toArray, List.set_cons_zero, List.set_cons_succ, i64_w, i32_w]
            rfl
           refine take_ (i := 3) (N := some 34) (v := ?_) (a' := ?_) #[true, true, true, true, true, false, false, false, false] rfl rfl (take_ofW HT_.out HW_.out (by kernel_rfl)) (fun _ _ _ h => h) (Or.inl ⟨by rfl, ?_⟩) hHeld ?_ ?_
           rotate_left
           ·rintro w' ⟨s0, s1, s2, s3, s4, s5⟩
            go_simp
            with_reducible rfl
           rotate_left
           ·simp only [Act.put, List.setIfInBounds_toArray, List.set_cons_zero, List.set_cons_succ, i64_w, i32_w]
            rfl
           refine pure_ (i := 5) (N := some 36) (v := ?_) (a' := ?_) #[true, true, true, true, true, true, false, false, false] rfl rfl (any_of HT_.out (by kernel_rfl)) (fun _ _ _ h => h) (Or.inl ⟨by rfl, ?_⟩) ?_ ?_
           rotate_left
           ·intro w'
            go_simp
            with_reducible rfl
           rotate_left
           ·simp only [Act.put, List.setIfInBounds_toArray, List.set_cons_zero, List.set_cons_succ, i64_w, i32_w]
            rfl
           refine one_ (i := 6) (N := some 37) #[true, true, true, true, true, true, true, false, false] rfl rfl (one_of HT_.out (by kernel_rfl)) (by decide) (fun K hK => ?_)
           refine Kd.R_append_rows_step k30 (w0 := w) w.heap.size (by rfl) (.tmp 32) (.tmp 36) 22 30 (.agg #[(.int .i64 0), (.int .u32 0), (.bool false)]) 16 rfl Try.underlying22 info30 rfl (by decide) (by omega) (.slice none 0 0) ([] : List (S30)) y251 _ _ _ (fun _ => True) (fun _ => False) rfl rfl ?aO ?aR (fun _ _ h => h) (fun _ h => h.elim) ?aF ?aB ?aS ?aL ?_
           (case aR => repeat (first | exact (Kd.C_below HR254.out HB.out) | (with_reducible refine Kd.C_alloc ?_ _) | (with_reducible refine Kd.C_drewN ?_ _) | (with_reducible refine Kd.C_drew ?_)))
           (case aB => exact (by repeat (first | (with_reducible first | exact HB.out | apply qL | apply qJ | apply qK | refine qI ?_ GE245.out | refine qI ?_ GE246.out | refine qI ?_ GE250.out) | exact HB.out)))
           (case aF => exact (fun _ _ => trivial))
           (case aO => exact ((Kd.R_nil _ _ _ _ (fun _ => True))))
           (case aS => exact (below_size (by repeat (first | (with_reducible first | exact HB.out | apply qL | apply qJ | apply qK | refine qI ?_ GE245.out | refine qI ?_ GE246.out | refine qI ?_ GE250.out) | exact HB.out))))
           (case aL => have := LMc21.out; omega)
           intro v256 w41 ho hb hg hat
           rw [← Ny255.out] at ho
           have n0_ := qH (blk_grown (g := gb245) (by (with_reducible repeat first | apply qA | apply qC | apply qB); exact BK245.out) hg (by simp [Value.ownBlock]))
           have n1_ := qH (blk_grown (g := gb246) (o := .cells #[.string (⟨#[]⟩ : ByteArray), .int .i64 0, .slice none 0 0] 24 (0, 0)) (by (with_reducible repeat first | apply qA | apply qC | apply qB); exact BK246.out) hg (by simp [Value.ownBlock]))
           have n2_ := qH (blk_grown (g := gb250) (by (with_reducible repeat first | apply qA | apply qC | apply qB); exact BK250.out) hg (by simp [Value.ownBlock]))
           have n3_ := qH (hb)
           have n4_ := qH (ho)
           clear BK245
           clear BK246
           clear BK250
           clear HB
           have BK245 := n0_
           have BK246 := n1_
           have BK250 := n2_
           have HB := n3_
           have HO257 := n4_
           clear n0_ n1_ n2_ n3_ n4_
           clear ho hb hg hat
           obtain ⟨Ao42, co42, eo42⟩ := Kd.R_slice HO257.out
           (first | subst eo42 | (injection eo42 with f1_ f2_ f3_; have f4_ := f1_.symm; have f5_ := f3_.symm; clear f1_ f2_ f3_; subst f4_; subst f5_))
           refine hK.out _ _ ⟨(qE BK250.out 0).trans rfl, (qE BK250.out 1).trans rfl, (qE BK250.out 2).trans rfl, (qE BK245.out 0).trans rfl, (qE BK245.out 1).trans rfl, (qE BK245.out 2).trans rfl⟩ (fun hHeld => ?_)
           clear hK K
           refine norm_ (a' := ?_) ?_ ?_
           rotate_left
           ·show Act.put _ (some 37) _ = _
            simp only [Act.put, List.setIfInBounds_toArray, List.set_cons_zero, List.set_cons_succ, i64_w, i32_w]
            rfl
           refine pure_ (i := 7) (N := some 38) (v := ?_) (a' := ?_) #[true, true, true, true, true, true, true, true, false] rfl rfl (any_of HT_.out (by kernel_rfl)) (fun _ _ _ h => h) (Or.inl ⟨by rfl, ?_⟩) ?_ ?_
           rotate_left
           ·intro w'
            go_simp
            with_reducible rfl
           rotate_left
           ·simp only [Act.put, List.setIfInBounds_toArray, List.set_cons_zero, List.set_cons_succ, i64_w, i32_w]
            rfl
           refine last_ (i := 8) (N := none) #[true, true, true, true, true, true, true, true, true] rfl rfl (one_of HT_.out (by kernel_rfl)) (by decide) (fun K hK => ?_)
           have hs43 : w41.cell? ⟨gb250, 2, none⟩ = some (.slice none 0 0) := (qE BK250.out 2).trans rfl
           have hfs43 := qF BK250.out 2
           have hns43_0 := NB245_250.out
           have hns43_1 := NB246_250.out
           have hms43_0 := NB250_245.out
           have hms43_1 := NB250_246.out
           refine skip_ (w1 := ?_) (by rfl) rfl ?_ ?_
           rotate_left
           ·go_simp
            rfl
           refine hK.out _ _ ?_
           clear hK K
           refine done_ (done_of HT_.out (by kernel_rfl)) ?_
           try go_wp2
           have n0_ : Aside0 (Kd.R k30 30 (w41.setCell ⟨gb250, 2, none⟩ (.slice Ao42 y255.length co42)) w.heap.size (fun _ => True) (.slice Ao42 y255.length co42) y255) := ⟨by (with_reducible repeat (first | apply Kd.R_alloc | apply Kd.R_drewN | apply Kd.R_drew)); exact Kd.R_mono (Kd.R_far (p := ⟨gb250, 2, none⟩) (Kd.R_types HO257.out BK250.out (by decide)) (fun _ hk => hk.2) (.slice Ao42 y255.length co42)) (fun _ hk => trivial)⟩
           have n1_ : Aside0 ((w41.setCell ⟨gb250, 2, none⟩ (.slice Ao42 y255.length co42)).heap[gb245]? = some (.cells #[.string a0_0, .int .i64 a0_1, .slice (some ad249) l0_2.length c0_2] 24 (0, 0))) := ⟨by (with_reducible repeat first | apply qA | apply qC | apply qB); refine qG ?_ NB245_250.out _; (with_reducible repeat first | apply qA | apply qC | apply qB); exact BK245.out⟩
           have n2_ : Aside0 ((w41.setCell ⟨gb250, 2, none⟩ (.slice Ao42 y255.length co42)).heap[gb246]? = some (.cells #[.string (⟨#[]⟩ : ByteArray), .int .i64 0, .slice none 0 0] 24 (0, 0))) := ⟨by (with_reducible repeat first | apply qA | apply qC | apply qB); refine qG ?_ NB246_250.out _; (with_reducible repeat first | apply qA | apply qC | apply qB); exact BK246.out⟩
           have n3_ : Aside0 ((w41.setCell ⟨gb250, 2, none⟩ (.slice Ao42 y255.length co42)).heap[gb250]? = some (.cells #[.string a0_0, .int .i64 a0_1, .slice Ao42 y255.length co42] 24 (0, 0))) := ⟨by (with_reducible repeat first | apply qA | apply qC | apply qB); refine blk_put (cs := #[.string a0_0, .int .i64 a0_1, .slice none 0 0]) ?_ 2 _ rfl; (with_reducible repeat first | apply qA | apply qC | apply qB); exact BK250.out⟩
           have n4_ : Aside0 (Below w.heap.size w (w41.setCell ⟨gb250, 2, none⟩ (.slice Ao42 y255.length co42))) := ⟨by repeat (first | (with_reducible first | exact HB.out | apply qL | apply qJ | apply qK | refine qI ?_ GE245.out | refine qI ?_ GE246.out | refine qI ?_ GE250.out) | exact HB.out)⟩
           (try clear HO257)
           (try clear BK245)
           (try clear BK246)
           (try clear BK250)
           (try clear HB)
           generalize (w41.setCell ⟨gb250, 2, none⟩ (.slice Ao42 y255.length co42)) = w44 at n0_ n1_ n2_ n3_ n4_ ⊢
           have HO257 := n0_
           have BK245 := n1_
           have BK246 := n2_
           have BK250 := n3_
           have HB := n4_
           clear n0_ n1_ n2_ n3_ n4_
           have n0_ := qH (Kd.R_drew HO257.out)
           have n1_ := qH (qC BK245.out)
           have n2_ := qH (qC BK246.out)
           have n3_ := qH (qC BK250.out)
           have n4_ := qH (qK HB.out)
           clear HO257
           clear BK245
           clear BK246
           clear BK250
           clear HB
           have HO257 := n0_
           have BK245 := n1_
           have BK246 := n2_
           have BK250 := n3_
           have HB := n4_
           clear n0_ n1_ n2_ n3_ n4_
           have q46 : ((ji22) : Int) ≤ ((l0_2.length : Int) : Int) := of_decide_eq_true (by first | (with_reducible assumption) | assumption)
           obtain ⟨i046, hi046, _, hsz46, _⟩ := info_parts info30
           have hroom46 : l0_2.length ≤ c0_2 := HC0_2.out
           have hC46 : Kd.C k30 _ (some ad249) l0_2.length l0_2 := HR0_2.out
           have q046 : (0 : Int) ≤ ((ji22) : Int) := of_decide_eq_true (by first | (with_reducible assumption) | assumption)
           have hcut46 := cut_from (P := Try.prog) 22 30 .i64 Try.underlying22 hi046 3 hsz46 (some ad249) l0_2.length c0_2 (ji22) q046 q46
           have hr46 := Kd.C_drop (m := ((ji22) : Int).toNat) (c := c0_2) hC46 (by omega) hroom46
           obtain ⟨A46, hA46⟩ : ∃ A1, A1 = (if c0_2 = ((ji22) : Int).toNat then (some ad249) else ((some ad249) : Option Addr).map (·.add (((ji22) : Int).toNat * 3))) := ⟨_, rfl⟩
           obtain ⟨c46, hc46⟩ : ∃ c1, c1 = c0_2 - ((ji22) : Int).toNat := ⟨_, rfl⟩
           have hy46 : y258.length = l0_2.length - ((ji22) : Int).toNat := (by rw [Ny258.out, List.length_drop] <;> omega)
           rw [show (l0_2).drop ((ji22) : Int).toNat = y258 from Ny258.out.symm] at hr46
           replace hr46 : Kd.C k30 _ A46 y258.length y258 := (by rw [hA46]; exact hr46)
           rw [← hy46, ← hA46, ← hc46] at hcut46
           have HR261 := qH hr46
           have HC261 := qH (show y258.length ≤ c46 from by rw [hy46, hc46]; exact Nat.sub_le_sub_right hroom46 _)
           clear hr46 hC46 hroom46 hi046 hsz46 hc46
           have KY46 := qH hy46
           have KA46 := qH hA46
           clear hy46 hA46
           replace q46 := eq_true q46
           refine start_ (n := 10) (S := fun w' => w'.cell? ⟨gb250, 0, none⟩ = some (.string a0_0) ∧ w'.cell? ⟨gb250, 1, none⟩ = some (.int .i64 a0_1) ∧ w'.cell? ⟨gb250, 2, none⟩ = some (.slice Ao42 y255.length co42) ∧ w'.cell? ⟨gb245, 0, none⟩ = some (.string a0_0) ∧ w'.cell? ⟨gb245, 1, none⟩ = some (.int .i64 a0_1) ∧ w'.cell? ⟨gb245, 2, none⟩ = some (.slice (some ad249) l0_2.length c0_2)) (ds := [9]) #[false, false, false, false, false, false, false, false, false, false] (by kernel_rfl) rfl rfl ⟨(qE BK250.out 0).trans rfl, (qE BK250.out 1).trans rfl, (qE BK250.out 2).trans rfl, (qE BK245.out 0).trans rfl, (qE BK245.out 1).trans rfl, (qE BK245.out 2).trans rfl⟩ (fun hHeld => ?_); refine with_tabW codicilref18_Hard.tab10 codicilref18_Hard.bits10 (fun HT_ HW_ => ?_)
           generalize w44.drew = w45 at HO257 BK245 BK246 BK250 HB HR261 hHeld ⊢
           refine pure_ (i := 0) (N := some 39) (v := ?_) (a' := ?_) #[true, false, false, false, false, false, false, false, false, false] rfl rfl (any_of HT_.out (by kernel_rfl)) (fun _ _ _ h => h) (Or.inl ⟨by rfl, ?_⟩) ?_ ?_
           rotate_left
           ·intro w'
            go_simp
            with_reducible rfl
           rotate_left
           ·simp only [Act.put, List.setIfInBounds_toArray, List.set_cons_zero, List.set_cons_succ, i64_w, i32_w]
            rfl
           refine pure_ (i := 2) (N := some 41) (v := ?_) (a' := ?_) #[true, false, true, false, false, false, false, false, false, false] rfl rfl (any_of HT_.out (by kernel_rfl)) (fun _ _ _ h => h) (Or.inl ⟨by rfl, ?_⟩) ?_ ?_
           rotate_left
           ·intro w'
            go_simp
            with_reducible rfl
           rotate_left
           ·simp only [Act.put, List.setIfInBounds_toArray, List.set_cons_zero, List.set_cons_succ, i64_w, i32_w]
            rfl
           refine pure_ (i := 4) (N := some 43) (v := ?_) (a' := ?_) #[true, false, true, false, true, false, false, false, false, false] rfl rfl (any_of HT_.out (by kernel_rfl)) (fun _ _ _ h => h) (Or.inl ⟨by rfl, ?_⟩) ?_ ?_
           rotate_left
           ·intro w'
            go_simp
            with_reducible rfl
           rotate_left
           ·simp only [Act.put, List.setIfInBounds_toArray, List.set_cons_zero, List.set_cons_succ, i64_w, i32_w]
            rfl
           refine pure_ (i := 5) (N := some 44) (v := ?_) (a' := ?_) #[true, false, true, false, true, true, false, false, false, false] rfl rfl (any_of HT_.out (by kernel_rfl)) (fun _ _ _ h => h) (Or.inl ⟨by rfl, ?_⟩) ?_ ?_
           rotate_left
           ·intro w'
            go_simp
            with_reducible rfl
           rotate_left
           ·simp only [Act.put, List.setIfInBounds_toArray, List.set_cons_zero, List.set_cons_succ, i64_w, i32_w]
            rfl
           refine take_ (i := 1) (N := some 40) (v := ?_) (a' := ?_) #[true, true, true, false, true, true, false, false, false, false] rfl rfl (take_ofW HT_.out HW_.out (by kernel_rfl)) (fun _ _ _ h => h) (Or.inl ⟨by rfl, ?_⟩) hHeld ?_ ?_
           rotate_left
           ·rintro w' ⟨s0, s1, s2, s3, s4, s5⟩
            go_simp
            with_reducible rfl
           rotate_left
           ·simp only [Act.put, List.setIfInBounds_toArray, List.set_cons_zero, List.set_cons_succ, i64_w, i32_w]
            rfl
           refine take_ (i := 3) (N := some 42) (v := ?_) (a' := ?_) #[true, true, true, true, true, true, false, false, false, false] rfl rfl (take_ofW HT_.out HW_.out (by kernel_rfl)) (fun _ _ _ h => h) (Or.inl ⟨by rfl, ?_⟩) hHeld ?_ ?_
           rotate_left
           ·rintro w' ⟨s0, s1, s2, s3, s4, s5⟩
            go_simp
            with_reducible rfl
           rotate_left
           ·simp only [Act.put, List.setIfInBounds_toArray, List.set_cons_zero, List.set_cons_succ, i64_w, i32_w]
            rfl
           refine pure_ (i := 6) (N := some 45) (v := ?_) (a' := ?_) #[true, true, true, true, true, true, true, false, false, false] rfl rfl (any_of HT_.out (by kernel_rfl)) (fun _ _ _ h => h) (Or.inl ⟨by rfl, ?_⟩) ?_ ?_
           rotate_left
           ·intro w'
            go_simp
            with_reducible rfl
           rotate_left
           ·simp only [Act.put, List.setIfInBounds_toArray, List.set_cons_zero, List.set_cons_succ, i64_w, i32_w]
            rfl
           refine one_ (i := 7) (N := some 46) #[true, true, true, true, true, true, true, true, false, false] rfl rfl (one_of HT_.out (by kernel_rfl)) (by decide) (fun K hK => ?_)
           refine Kd.R_append_rows_step k30 (w0 := w) w.heap.size (by rfl) (.tmp 40) (.tmp 45) 22 30 (.agg #[(.int .i64 0), (.int .u32 0), (.bool false)]) 16 rfl Try.underlying22 info30 rfl (by decide) (by omega) (.slice Ao42 y255.length co42) y255 y258 _ _ _ (fun _ => True) (fun _ => False) rfl rfl ?aO ?aR (fun _ _ h => h) (fun _ h => h.elim) ?aF ?aB ?aS ?aL ?_
           (case aR => repeat (first | exact (Kd.C_below HR261.out HB.out) | (with_reducible refine Kd.C_alloc ?_ _) | (with_reducible refine Kd.C_drewN ?_ _) | (with_reducible refine Kd.C_drew ?_)))
           (case aB => exact (by repeat (first | (with_reducible first | exact HB.out | apply qL | apply qJ | apply qK | refine qI ?_ GE245.out | refine qI ?_ GE246.out | refine qI ?_ GE250.out) | exact HB.out)))
           (case aF => exact (fun _ _ => trivial))
           (case aO => exact (by (with_reducible repeat (first | apply Kd.R_alloc | apply Kd.R_drewN | apply Kd.R_drew)); exact HO257.out))
           (case aS => exact (below_size (by repeat (first | (with_reducible first | exact HB.out | apply qL | apply qJ | apply qK | refine qI ?_ GE245.out | refine qI ?_ GE246.out | refine qI ?_ GE250.out) | exact HB.out))))
           (case aL => have := LMc25.out; omega)
           intro v263 w47 ho hb hg hat
           rw [← Ny262.out] at ho
           have n0_ := qH (blk_grown (g := gb245) (by (with_reducible repeat first | apply qA | apply qC | apply qB); exact BK245.out) hg (Kd.R_ne HO257.out BK245.out (by decide)))
           have n1_ := qH (blk_grown (g := gb246) (o := .cells #[.string (⟨#[]⟩ : ByteArray), .int .i64 0, .slice none 0 0] 24 (0, 0)) (by (with_reducible repeat first | apply qA | apply qC | apply qB); exact BK246.out) hg (Kd.R_ne HO257.out BK246.out (by decide)))
           have n2_ := qH (blk_grown (g := gb250) (by (with_reducible repeat first | apply qA | apply qC | apply qB); exact BK250.out) hg (Kd.R_ne HO257.out BK250.out (by decide)))
           have n3_ := qH (hb)
           have n4_ := qH (ho)
           clear BK245
           clear BK246
           clear BK250
           clear HB
           clear HO257
           have BK245 := n0_
           have BK246 := n1_
           have BK250 := n2_
           have HB := n3_
           have HO264 := n4_
           clear n0_ n1_ n2_ n3_ n4_
           clear ho hb hg hat
           obtain ⟨Ao48, co48, eo48⟩ := Kd.R_slice HO264.out
           (first | subst eo48 | (injection eo48 with f1_ f2_ f3_; have f4_ := f1_.symm; have f5_ := f3_.symm; clear f1_ f2_ f3_; subst f4_; subst f5_))
           refine hK.out _ _ ⟨(qE BK250.out 0).trans rfl, (qE BK250.out 1).trans rfl, (qE BK250.out 2).trans rfl, (qE BK245.out 0).trans rfl, (qE BK245.out 1).trans rfl, (qE BK245.out 2).trans rfl⟩ (fun hHeld => ?_)
           clear hK K
           refine norm_ (a' := ?_) ?_ ?_
           rotate_left
           ·show Act.put _ (some 46) _ = _
            simp only [Act.put, List.setIfInBounds_toArray, List.set_cons_zero, List.set_cons_succ, i64_w, i32_w]
            rfl
           refine pure_ (i := 8) (N := some 47) (v := ?_) (a' := ?_) #[true, true, true, true, true, true, true, true, true, false] rfl rfl (any_of HT_.out (by kernel_rfl)) (fun _ _ _ h => h) (Or.inl ⟨by rfl, ?_⟩) ?_ ?_
           rotate_left
           ·intro w'
            go_simp
            with_reducible rfl
           rotate_left
           ·simp only [Act.put, List.setIfInBounds_toArray, List.set_cons_zero, List.set_cons_succ, i64_w, i32_w]
            rfl
           refine last_ (i := 9) (N := none) #[true, true, true, true, true, true, true, true, true, true] rfl rfl (one_of HT_.out (by kernel_rfl)) (by decide) (fun K hK => ?_)
           have hs49 : w47.cell? ⟨gb250, 2, none⟩ = some (.slice Ao42 y255.length co42) := (qE BK250.out 2).trans rfl
           have hfs49 := qF BK250.out 2
           have hns49_0 := NB245_250.out
           have hns49_1 := NB246_250.out
           have hms49_0 := NB250_245.out
           have hms49_1 := NB250_246.out
           refine skip_ (w1 := ?_) (by rfl) rfl ?_ ?_
           rotate_left
           ·go_simp
            rfl
           refine hK.out _ _ ?_
           clear hK K
           refine done_ (done_of HT_.out (by kernel_rfl)) ?_
           have hcz50_0 : w47.cell? ⟨gb250, 0, none⟩ = some (.string a0_0) := (qE BK250.out 0).trans rfl
           have hcz50_1 : w47.cell? ⟨gb250, 1, none⟩ = some (.int .i64 a0_1) := (qE BK250.out 1).trans rfl
           have hcz50_2 : w47.cell? ⟨gb250, 2, none⟩ = some (.slice Ao42 y255.length co42) := (qE BK250.out 2).trans rfl
           have hfz50_0 := qF BK250.out 0
           have hfz50_1 := qF BK250.out 1
           have hfz50_2 := qF BK250.out 2
           have hcz51_0 : w47.cell? ⟨gb246, 0, none⟩ = some (.string (⟨#[]⟩ : ByteArray)) := (qE BK246.out 0).trans rfl
           have hcz51_1 : w47.cell? ⟨gb246, 1, none⟩ = some (.int .i64 0) := (qE BK246.out 1).trans rfl
           have hcz51_2 : w47.cell? ⟨gb246, 2, none⟩ = some (.slice none 0 0) := (qE BK246.out 2).trans rfl
           have hfz51_0 := qF BK246.out 0
           have hfz51_1 := qF BK246.out 1
           have hfz51_2 := qF BK246.out 2
           try go_wp2
           refine bodyPost_ret (results_ct rfl _ _ gb246 24 #[.string a0_0, .int .i64 a0_1, .slice Ao48 y262.length co48] (0, 0) _ rfl (by (with_reducible repeat first | apply qA | apply qC | apply qB); refine blk_put (cs := #[.string a0_0, .int .i64 a0_1, .slice none 0 0]) ?_ 2 _ rfl; (with_reducible repeat first | apply qA | apply qC | apply qB); refine blk_put (cs := #[.string a0_0, .int .i64 0, .slice none 0 0]) ?_ 1 _ rfl; (with_reducible repeat first | apply qA | apply qC | apply qB); refine blk_put (cs := #[.string (⟨#[]⟩ : ByteArray), .int .i64 0, .slice none 0 0]) ?_ 0 _ rfl; (with_reducible repeat first | apply qA | apply qC | apply qB); refine qG ?_ NB246_250.out _; (with_reducible repeat first | apply qA | apply qC | apply qB); exact BK246.out) Try.underlying24 rfl (by kernel_rfl)) rfl ?_
           exact ⟨_, by first | rfl | (simp [errW_none, errW_some] <;> rfl) | (simp only [← hji22]; first | rfl | (simp [errW_none, errW_some] <;> rfl)) | (simp [*, errW_none, errW_some] <;> rfl), by (with_reducible repeat (first | apply Kd.R_alloc | apply Kd.R_drewN | apply Kd.R_drew)); exact Kd.R_mono (Kd.R_far (p := ⟨gb246, 2, none⟩) (Kd.R_far (p := ⟨gb246, 1, none⟩) (Kd.R_far (p := ⟨gb246, 0, none⟩) (Kd.R_far (p := ⟨gb250, 2, none⟩) (Kd.R_types (Kd.R_types HO264.out BK250.out (by decide)) BK246.out (by decide)) (fun _ hk => hk.1.2) (.slice Ao48 y262.length co48)) (fun _ hk => hk.2) (.string a0_0)) (fun _ hk => hk.2) (.int .i64 a0_1)) (fun _ hk => hk.2) (.slice Ao48 y262.length co48)) (fun _ hk => trivial), by repeat (first | (with_reducible first | exact HB.out | apply qL | apply qJ | apply qK | refine qI ?_ GE245.out | refine qI ?_ GE246.out | refine qI ?_ GE250.out) | exact HB.out)⟩
          ·rw [if_neg c25] at H
           exact absurd H (by simp)
         ·rw [if_neg c24] at H
          exact absurd H (by simp)
        ·rw [if_neg c23] at H
         exact absurd H (by simp)
       ·rw [if_neg c21] at H
        exact absurd H (by simp)
      ·rw [if_neg c20] at H
       exact absurd H (by simp)
     ·replace c18 := Bool.eq_false_iff.mpr c18
      subst c18
      have H1 : (some ((⟨#[]⟩ : ByteArray), 0, ([] : List (S30)), 3)) = some (r1, r2, r3, r4) := by rw [if_neg (show ¬ (false = true) by decide)] at H; exact H
      clear H
      have H := H1
      clear H1
      simp only [Option.some.injEq, Prod.mk.injEq] at H
      obtain ⟨rfl, rfl, rfl, rfl⟩ := H
      go_enter Try.func17, Try.ntmps17
      go_wp2_with (first | ((with_reducible refine gate_dst (N := 2) rfl ?_); refine box_event ?hg (N := 2) ?hd (cs := #[.string a0_0, .int .i64 a0_1, .slice A0_2 l0_2.length c0_2]) (t := 24) ?hr ?_; (case hd => rfl); (case hg => rfl); (case hr => first | (go_simp; done) | (go_simp; rfl)); intro gb245 hg w52 hbox hb; have n0_ := qH (below_step (by repeat (first | (with_reducible first | exact HB.out | apply qL | apply qJ | apply qK) | exact HB.out)) hb); have n1_ := qH (hbox); have n2_ := qH ((by rw [hg]; exact (below_size (by repeat (first | (with_reducible first | exact HB.out | apply qL | apply qJ | apply qK) | exact HB.out))) : w.heap.size ≤ gb245)); have n3_ := n2_; clear HB; have HB := n0_; have BK245 := n1_; have GW245 := n2_; have GE245 := n3_; clear n0_ n1_ n2_ n3_; clear hb hbox hg) | ((with_reducible refine gate_dst (N := 4) rfl ?_); refine box_event ?hg (N := 4) ?hd (cs := #[.string (⟨#[]⟩ : ByteArray), .int .i64 0, .slice none 0 0]) (t := 24) ?hr ?_; (case hd => rfl); (case hg => rfl); (case hr => first | (go_simp; done) | (go_simp; rfl)); intro gb246 hg w53 hbox hb; have n0_ := qH (qD (g := gb245) (by (with_reducible repeat first | apply qA | apply qC | apply qB); exact BK245.out) hb); have n1_ := qH (below_step (by repeat (first | (with_reducible first | exact HB.out | apply qL | apply qJ | apply qK | refine qI ?_ GE245.out) | exact HB.out)) hb); have n2_ := qH (hbox); have n3_ := qH ((by rw [hg]; exact (below_size (by repeat (first | (with_reducible first | exact HB.out | apply qL | apply qJ | apply qK | refine qI ?_ GE245.out) | exact HB.out))) : w.heap.size ≤ gb246)); have n4_ := n3_; have n5_ := qH ((by rw [hg]; exact qN (blk_lt (g := gb245) (by (with_reducible repeat first | apply qA | apply qC | apply qB); exact BK245.out)) : gb245 ≠ gb246)); have n6_ := qH ((by rw [hg]; exact Nat.ne_of_gt (blk_lt (g := gb245) (by (with_reducible repeat first | apply qA | apply qC | apply qB); exact BK245.out)) : gb246 ≠ gb245)); clear BK245; clear HB; have BK245 := n0_; have HB := n1_; have BK246 := n2_; have GW246 := n3_; have GE246 := n4_; have NB245_246 := n5_; have NB246_245 := n6_; clear n0_ n1_ n2_ n3_ n4_ n5_ n6_; clear hb hbox hg; have hnb54 := NB245_246.out; have hnc54 := NB246_245.out; obtain ⟨hcz55_0, hcz55_1, hcz55_2⟩ := qc3 BK245.out; obtain ⟨hfz55_0, hfz55_1, hfz55_2⟩ := qf3 BK245.out) | ((with_reducible refine gate_callee (f := 29) rfl ?_); refine goesL_ (some 9) rfl rfl Try.func29 (by kernel_rfl) rfl #[.agg #[.string a0_0, .int .i64 a0_1, .slice A0_2 l0_2.length c0_2]] rfl (by (try simp only [List.map_toArray, List.map_cons, List.map_nil]); first | done | rfl | (simp only [List.length_drop, List.length_take]; rfl)) ?_; (with_reducible refine (codicilref18_May.calls k a0_0 a0_1 _ _ l0_2 t247 _ ?side1 ?side2 A3.out).mono ?_); (case side1 => repeat (first | exact (Kd.C_below HR0_2.out HB.out) | (with_reducible refine Kd.C_alloc ?_ _) | (with_reducible refine Kd.C_drewN ?_ _) | (with_reducible refine Kd.C_drew ?_))); (case side2 => exact HC0_2.out); rintro e w56 ⟨rfl, hb⟩; refine ⟨_, rfl, ?_⟩; have n0_ := qH (qD (g := gb245) (by (with_reducible repeat first | apply qA | apply qC | apply qB); exact BK245.out) hb); have n1_ := qH (qD (g := gb246) (o := .cells #[.string (⟨#[]⟩ : ByteArray), .int .i64 0, .slice none 0 0] 24 (0, 0)) (by (with_reducible repeat first | apply qA | apply qC | apply qB); exact BK246.out) hb); have n2_ := qH (below_step (by repeat (first | (with_reducible first | exact HB.out | apply qL | apply qJ | apply qK | refine qI ?_ GE245.out | refine qI ?_ GE246.out) | exact HB.out)) hb); clear BK245; clear BK246; clear HB; have BK245 := n0_; have BK246 := n1_; have HB := n2_; clear n0_ n1_ n2_; (try clear hb); (try clear hb2); (try clear hk); (try clear hi); obtain ⟨hcz57_0, hcz57_1, hcz57_2⟩ := qc3 BK245.out; obtain ⟨hfz57_0, hfz57_1, hfz57_2⟩ := qf3 BK245.out) | ((with_reducible refine gate_callee (f := 42) rfl ?_); refine goesL_ (some 14) rfl rfl Try.func42 (by kernel_rfl) rfl #[.agg #[.string a0_0, .int .i64 a0_1, .slice A0_2 l0_2.length c0_2], .int .i64 a1] rfl (by (try simp only [List.map_toArray, List.map_cons, List.map_nil]); first | done | rfl | (simp only [List.length_drop, List.length_take]; rfl)) ?_; (with_reducible refine (codicilref18_at.calls k a0_0 a0_1 _ _ l0_2 a1 t248 _ ?side1 ?side2 A5.out).mono ?_); (case side1 => repeat (first | exact (Kd.C_below HR0_2.out HB.out) | (with_reducible refine Kd.C_alloc ?_ _) | (with_reducible refine Kd.C_drewN ?_ _) | (with_reducible refine Kd.C_drew ?_))); (case side2 => exact HC0_2.out); rintro e w58 ⟨rfl, hb⟩; refine ⟨_, rfl, ?_⟩; have n0_ := qH (qD (g := gb245) (by (with_reducible repeat first | apply qA | apply qC | apply qB); exact BK245.out) hb); have n1_ := qH (qD (g := gb246) (o := .cells #[.string (⟨#[]⟩ : ByteArray), .int .i64 0, .slice none 0 0] 24 (0, 0)) (by (with_reducible repeat first | apply qA | apply qC | apply qB); exact BK246.out) hb); have n2_ := qH (below_step (by repeat (first | (with_reducible first | exact HB.out | apply qL | apply qJ | apply qK | refine qI ?_ GE245.out | refine qI ?_ GE246.out) | exact HB.out)) hb); clear BK245; clear BK246; clear HB; have BK245 := n0_; have BK246 := n1_; have HB := n2_; clear n0_ n1_ n2_; (try clear hb); (try clear hb2); (try clear hk); (try clear hi); obtain ⟨hcz59_0, hcz59_1, hcz59_2⟩ := qc3 BK245.out; obtain ⟨hfz59_0, hfz59_1, hfz59_2⟩ := qf3 BK245.out; have p249 : 0 ≤ (t248 : Int) := of_decide_eq_true (by first | (with_reducible assumption) | assumption); have q249 : t248 < (l0_2.length : Int) := of_decide_eq_true (by first | (with_reducible assumption) | assumption); obtain ⟨ad249, e249, hx249_0, hx249_1, hx249_2⟩ := at_T30 HR0_2.out t248 p249 q249; (try rw [← Nbq17.out] at hx249_2); cases e249; replace hx249_0 := (HB.out.cell (qO w _ hx249_0)).trans hx249_0; replace hx249_1 := (HB.out.cell (qO w _ hx249_1)).trans hx249_1; replace hx249_2 := (HB.out.cell (qO w _ hx249_2)).trans hx249_2; replace p249 := eq_true p249; replace q249 := eq_true q249; obtain ⟨hcz60_0, hcz60_1, hcz60_2⟩ := qc3 BK246.out; obtain ⟨hfz60_0, hfz60_1, hfz60_2⟩ := qf3 BK246.out))
      refine bodyPost_ret (results_ct rfl _ _ gb246 24 #[.string (⟨#[]⟩ : ByteArray), .int .i64 0, .slice none 0 0] (0, 0) _ rfl (by (with_reducible repeat first | apply qA | apply qC | apply qB); refine blk_put (cs := #[.string (⟨#[]⟩ : ByteArray), .int .i64 0, .slice none 0 0]) ?_ 2 _ rfl; (with_reducible repeat first | apply qA | apply qC | apply qB); refine blk_put (cs := #[.string (⟨#[]⟩ : ByteArray), .int .i64 0, .slice none 0 0]) ?_ 1 _ rfl; (with_reducible repeat first | apply qA | apply qC | apply qB); refine blk_put (cs := #[.string (⟨#[]⟩ : ByteArray), .int .i64 0, .slice none 0 0]) ?_ 0 _ rfl; (with_reducible repeat first | apply qA | apply qC | apply qB); exact BK246.out) Try.underlying24 rfl (by kernel_rfl)) rfl ?_
      exact ⟨_, by first | rfl | (simp [errW_none, errW_some] <;> rfl) | (simp [*, errW_none, errW_some] <;> rfl), by first | exact Kd.R_nil _ _ _ _ _ | exact Kd.N_nil _ _ _ _ _ | exact Kd.V_nil _ _ _ _ _ | exact Kd.Q_nil _ _ _ _ _ | exact Kd.S_nil _ _ _ _ _, by repeat (first | (with_reducible first | exact HB.out | apply qL | apply qJ | apply qK | refine qI ?_ GE245.out | refine qI ?_ GE246.out) | exact HB.out)⟩
    ·rw [if_neg c16] at H
     exact absurd H (by simp)
   ·rw [if_neg c15] at H
    exact absurd H (by simp)
 ·rw [if_neg c4] at H
  have c4b0 : (t247 == 0) = false := beq_eq_false_iff_ne.mpr c4
  have c4b1 : (t247 != 0) = true := bne_iff_ne.mpr c4
  simp only [Option.some.injEq, Prod.mk.injEq] at H
  obtain ⟨rfl, rfl, rfl, rfl⟩ := H
  go_enter Try.func17, Try.ntmps17
  go_wp2_with (first | ((with_reducible refine gate_dst (N := 2) rfl ?_); refine box_event ?hg (N := 2) ?hd (cs := #[.string a0_0, .int .i64 a0_1, .slice A0_2 l0_2.length c0_2]) (t := 24) ?hr ?_; (case hd => rfl); (case hg => rfl); (case hr => first | (go_simp; done) | (go_simp; rfl)); intro gb245 hg w61 hbox hb; have n0_ := qH (below_step (by repeat (first | (with_reducible first | exact HB.out | apply qL | apply qJ | apply qK) | exact HB.out)) hb); have n1_ := qH (hbox); have n2_ := qH ((by rw [hg]; exact (below_size (by repeat (first | (with_reducible first | exact HB.out | apply qL | apply qJ | apply qK) | exact HB.out))) : w.heap.size ≤ gb245)); have n3_ := n2_; clear HB; have HB := n0_; have BK245 := n1_; have GW245 := n2_; have GE245 := n3_; clear n0_ n1_ n2_ n3_; clear hb hbox hg) | ((with_reducible refine gate_dst (N := 4) rfl ?_); refine box_event ?hg (N := 4) ?hd (cs := #[.string (⟨#[]⟩ : ByteArray), .int .i64 0, .slice none 0 0]) (t := 24) ?hr ?_; (case hd => rfl); (case hg => rfl); (case hr => first | (go_simp; done) | (go_simp; rfl)); intro gb246 hg w62 hbox hb; have n0_ := qH (qD (g := gb245) (by (with_reducible repeat first | apply qA | apply qC | apply qB); exact BK245.out) hb); have n1_ := qH (below_step (by repeat (first | (with_reducible first | exact HB.out | apply qL | apply qJ | apply qK | refine qI ?_ GE245.out) | exact HB.out)) hb); have n2_ := qH (hbox); have n3_ := qH ((by rw [hg]; exact (below_size (by repeat (first | (with_reducible first | exact HB.out | apply qL | apply qJ | apply qK | refine qI ?_ GE245.out) | exact HB.out))) : w.heap.size ≤ gb246)); have n4_ := n3_; have n5_ := qH ((by rw [hg]; exact qN (blk_lt (g := gb245) (by (with_reducible repeat first | apply qA | apply qC | apply qB); exact BK245.out)) : gb245 ≠ gb246)); have n6_ := qH ((by rw [hg]; exact Nat.ne_of_gt (blk_lt (g := gb245) (by (with_reducible repeat first | apply qA | apply qC | apply qB); exact BK245.out)) : gb246 ≠ gb245)); clear BK245; clear HB; have BK245 := n0_; have HB := n1_; have BK246 := n2_; have GW246 := n3_; have GE246 := n4_; have NB245_246 := n5_; have NB246_245 := n6_; clear n0_ n1_ n2_ n3_ n4_ n5_ n6_; clear hb hbox hg; have hnb63 := NB245_246.out; have hnc63 := NB246_245.out; obtain ⟨hcz64_0, hcz64_1, hcz64_2⟩ := qc3 BK245.out; obtain ⟨hfz64_0, hfz64_1, hfz64_2⟩ := qf3 BK245.out) | ((with_reducible refine gate_callee (f := 29) rfl ?_); refine goesL_ (some 9) rfl rfl Try.func29 (by kernel_rfl) rfl #[.agg #[.string a0_0, .int .i64 a0_1, .slice A0_2 l0_2.length c0_2]] rfl (by (try simp only [List.map_toArray, List.map_cons, List.map_nil]); first | done | rfl | (simp only [List.length_drop, List.length_take]; rfl)) ?_; (with_reducible refine (codicilref18_May.calls k a0_0 a0_1 _ _ l0_2 t247 _ ?side1 ?side2 A3.out).mono ?_); (case side1 => repeat (first | exact (Kd.C_below HR0_2.out HB.out) | (with_reducible refine Kd.C_alloc ?_ _) | (with_reducible refine Kd.C_drewN ?_ _) | (with_reducible refine Kd.C_drew ?_))); (case side2 => exact HC0_2.out); rintro e w65 ⟨rfl, hb⟩; refine ⟨_, rfl, ?_⟩; have n0_ := qH (qD (g := gb245) (by (with_reducible repeat first | apply qA | apply qC | apply qB); exact BK245.out) hb); have n1_ := qH (qD (g := gb246) (o := .cells #[.string (⟨#[]⟩ : ByteArray), .int .i64 0, .slice none 0 0] 24 (0, 0)) (by (with_reducible repeat first | apply qA | apply qC | apply qB); exact BK246.out) hb); have n2_ := qH (below_step (by repeat (first | (with_reducible first | exact HB.out | apply qL | apply qJ | apply qK | refine qI ?_ GE245.out | refine qI ?_ GE246.out) | exact HB.out)) hb); clear BK245; clear BK246; clear HB; have BK245 := n0_; have BK246 := n1_; have HB := n2_; clear n0_ n1_ n2_; (try clear hb); (try clear hb2); (try clear hk); (try clear hi); obtain ⟨hcz66_0, hcz66_1, hcz66_2⟩ := qc3 BK246.out; obtain ⟨hfz66_0, hfz66_1, hfz66_2⟩ := qf3 BK246.out))
  refine bodyPost_ret (results_ct rfl _ _ gb246 24 #[.string (⟨#[]⟩ : ByteArray), .int .i64 0, .slice none 0 0] (0, 0) _ rfl (by (with_reducible repeat first | apply qA | apply qC | apply qB); refine blk_put (cs := #[.string (⟨#[]⟩ : ByteArray), .int .i64 0, .slice none 0 0]) ?_ 2 _ rfl; (with_reducible repeat first | apply qA | apply qC | apply qB); refine blk_put (cs := #[.string (⟨#[]⟩ : ByteArray), .int .i64 0, .slice none 0 0]) ?_ 1 _ rfl; (with_reducible repeat first | apply qA | apply qC | apply qB); refine blk_put (cs := #[.string (⟨#[]⟩ : ByteArray), .int .i64 0, .slice none 0 0]) ?_ 0 _ rfl; (with_reducible repeat first | apply qA | apply qC | apply qB); exact BK246.out) Try.underlying24 rfl (by kernel_rfl)) rfl ?_
  exact ⟨_, by first | rfl | (simp [errW_none, errW_some] <;> rfl) | (simp [*, errW_none, errW_some] <;> rfl), by first | exact Kd.R_nil _ _ _ _ _ | exact Kd.N_nil _ _ _ _ _ | exact Kd.V_nil _ _ _ _ _ | exact Kd.Q_nil _ _ _ _ _ | exact Kd.S_nil _ _ _ _ _, by repeat (first | (with_reducible first | exact HB.out | apply qL | apply qJ | apply qK | refine qI ?_ GE245.out | refine qI ?_ GE246.out) | exact HB.out)⟩

end Go.Proofs.Ytkcjekboakoejaa.Print
