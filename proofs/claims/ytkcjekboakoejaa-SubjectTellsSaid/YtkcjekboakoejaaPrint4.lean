-- Written by wip/tools/xprint.py of this session's repo (the kit's print, run with external functions). Lean checks it.
import Derived.Test.YtkcjekboakoejaaPrint0
import Derived.Test.YtkcjekboakoejaaPrint3
namespace Go.Proofs.Ytkcjekboakoejaa.Print
open Go.RowKit Go.Proofs.YtkcjekboakoejaaW.PrintWords Go.Proofs.YtkcjekboakoejaaW.PrintLast Go.Proofs.YtkcjekboakoejaaW.PrintMore
attribute [local go_sem] max2_int min2_int max_two min_two max_three min_three max_four min_four   -- for this text's walks alone
set_option linter.unusedVariables false
set_option linter.unusedSimpArgs false

/-! ### codicilref18_May: function 29 -/
mutual
def codicilref18_May.j0 : Nat → Bool → ByteArray → Int → List (S30) → Option (Int)
 | 0, _, _, _, _ => none
 | k + 1, x25, x207000, x207001, x207002 => if x25 = true then (some 8) else (codicilref18_May.l0 k 0 x207000 x207001 x207002)
def codicilref18_May.l0 : Nat → Int → ByteArray → Int → List (S30) → Option (Int)
 | 0, _, _, _, _ => none
 | k + 1, x3, x207000, x207001, x207002 => if x3 < (x207002.length : Int) then (if 0 ≤ x3 then (if ((rd_T30 x207002 x3).f0) < 1 then (codicilref18_May.j2 k x3 true x207000 x207001 x207002 ((rd_T30 x207002 x3).f0) ((rd_T30 x207002 x3).f1) ((rd_T30 x207002 x3).f2)) else (if ((rd_T30 x207002 x3).f0) ≥ x207001 then (codicilref18_May.j2 k x3 true x207000 x207001 x207002 ((rd_T30 x207002 x3).f0) ((rd_T30 x207002 x3).f1) ((rd_T30 x207002 x3).f2)) else (if ((rd_T30 x207002 x3).f1) = 0 then (codicilref18_May.j2 k x3 true x207000 x207001 x207002 ((rd_T30 x207002 x3).f0) ((rd_T30 x207002 x3).f1) ((rd_T30 x207002 x3).f2)) else (if x3 > 0 then (if 0 ≤ (wrap64 (x3 - 1)) then (if (wrap64 (x3 - 1)) < (x207002.length : Int) then (codicilref18_May.j2 k x3 (decide (((rd_T30 x207002 (wrap64 (x3 - 1))).f0) ≥ ((rd_T30 x207002 x3).f0))) x207000 x207001 x207002 ((rd_T30 x207002 x3).f0) ((rd_T30 x207002 x3).f1) ((rd_T30 x207002 x3).f2)) else (none)) else (none)) else (codicilref18_May.j2 k x3 false x207000 x207001 x207002 ((rd_T30 x207002 x3).f0) ((rd_T30 x207002 x3).f1) ((rd_T30 x207002 x3).f2)))))) else (none)) else (some 0)
def codicilref18_May.j2 : Nat → Int → Bool → ByteArray → Int → List (S30) → Int → Int → Bool → Option (Int)
 | 0, _, _, _, _, _, _, _, _ => none
 | k + 1, x3, x68, x207000, x207001, x207002, x210000, x210001, x210002 => if x68 = true then (some 8) else (codicilref18_May.l1 k x3 0 x207000 x207001 x207002 x210000 x210001 x210002)
def codicilref18_May.l1 : Nat → Int → Int → ByteArray → Int → List (S30) → Int → Int → Bool → Option (Int)
 | 0, _, _, _, _, _, _, _, _ => none
 | k + 1, x3, x5, x207000, x207001, x207002, x210000, x210001, x210002 => if x5 < x3 then (if x210002 = true then (codicilref18_May.l1 k x3 (wrap64 (x5 + 1)) x207000 x207001 x207002 x210000 x210001 x210002) else (if 0 ≤ x5 then (if x5 < (x207002.length : Int) then (if ((rd_T30 x207002 x5).f2 = true) then (codicilref18_May.l1 k x3 (wrap64 (x5 + 1)) x207000 x207001 x207002 x210000 x210001 x210002) else (if ((rd_T30 x207002 x5).f1) = x210001 then (some 8) else (codicilref18_May.l1 k x3 (wrap64 (x5 + 1)) x207000 x207001 x207002 x210000 x210001 x210002))) else (none)) else (none))) else (codicilref18_May.l0 k (wrap64 (x3 + 1)) x207000 x207001 x207002)
end
def codicilref18_May.f (k : Nat) (a0_0 : ByteArray) (a0_1 : Int) (l0_2 : List (S30)) : Option (Int) := (codicilref18_Name.f k a0_0).bind fun t207 => (if t207 = true then (if a0_1 < 1 then (codicilref18_May.j0 k true a0_0 a0_1 l0_2) else (if a0_1 > 1073741824 then (codicilref18_May.j0 k true a0_0 a0_1 l0_2) else (codicilref18_May.j0 k (decide ((l0_2.length : Int) > 64)) a0_0 a0_1 l0_2))) else (codicilref18_May.j0 k true a0_0 a0_1 l0_2))
theorem codicilref18_May.mono_l : ∀ k, (∀ y0 y1 y2 y3, LeO (codicilref18_May.j0 k y0 y1 y2 y3) (codicilref18_May.j0 (k + 1) y0 y1 y2 y3)) ∧ (∀ y0 y1 y2 y3, LeO (codicilref18_May.l0 k y0 y1 y2 y3) (codicilref18_May.l0 (k + 1) y0 y1 y2 y3)) ∧ (∀ y0 y1 y2 y3 y4 y5 y6 y7, LeO (codicilref18_May.j2 k y0 y1 y2 y3 y4 y5 y6 y7) (codicilref18_May.j2 (k + 1) y0 y1 y2 y3 y4 y5 y6 y7)) ∧ (∀ y0 y1 y2 y3 y4 y5 y6 y7, LeO (codicilref18_May.l1 k y0 y1 y2 y3 y4 y5 y6 y7) (codicilref18_May.l1 (k + 1) y0 y1 y2 y3 y4 y5 y6 y7))
 | 0 => ⟨fun _ _ _ _ r h => by simp [codicilref18_May.j0] at h, fun _ _ _ _ r h => by simp [codicilref18_May.l0] at h, fun _ _ _ _ _ _ _ _ r h => by simp [codicilref18_May.j2] at h, fun _ _ _ _ _ _ _ _ r h => by simp [codicilref18_May.l1] at h⟩
 | k + 1 => by
  obtain ⟨ih0, ih1, ih2, ih3⟩ := codicilref18_May.mono_l k
  refine ⟨?_, ?_, ?_, ?_⟩
  ·intro y0 y1 y2 y3
   unfold codicilref18_May.j0
   repeat' first
   | (with_reducible exact ih0 _ _ _ _)
   | (with_reducible exact ih1 _ _ _ _)
   | (with_reducible exact ih2 _ _ _ _ _ _ _ _)
   | (with_reducible exact ih3 _ _ _ _ _ _ _ _)
   | (with_reducible exact codicilref18_Name.mono _ _)
   | (with_reducible exact LeO.refl _)
   | (with_reducible exact LeO.none _)
   | (with_reducible refine LeO.ite ?_ ?_)
   | (with_reducible refine LeO.bind ?_ (fun _ => ?_))
   | exact ih0 _ _ _ _
   | exact ih1 _ _ _ _
   | exact ih2 _ _ _ _ _ _ _ _
   | exact ih3 _ _ _ _ _ _ _ _
   | exact codicilref18_Name.mono _ _
   | exact LeO.none _
   | refine LeO.ite ?_ ?_
   | refine LeO.bind ?_ (fun _ => ?_)
  ·intro y0 y1 y2 y3
   unfold codicilref18_May.l0
   repeat' first
   | (with_reducible exact ih0 _ _ _ _)
   | (with_reducible exact ih1 _ _ _ _)
   | (with_reducible exact ih2 _ _ _ _ _ _ _ _)
   | (with_reducible exact ih3 _ _ _ _ _ _ _ _)
   | (with_reducible exact codicilref18_Name.mono _ _)
   | (with_reducible exact LeO.refl _)
   | (with_reducible exact LeO.none _)
   | (with_reducible refine LeO.ite ?_ ?_)
   | (with_reducible refine LeO.bind ?_ (fun _ => ?_))
   | exact ih0 _ _ _ _
   | exact ih1 _ _ _ _
   | exact ih2 _ _ _ _ _ _ _ _
   | exact ih3 _ _ _ _ _ _ _ _
   | exact codicilref18_Name.mono _ _
   | exact LeO.none _
   | refine LeO.ite ?_ ?_
   | refine LeO.bind ?_ (fun _ => ?_)
  ·intro y0 y1 y2 y3 y4 y5 y6 y7
   unfold codicilref18_May.j2
   repeat' first
   | (with_reducible exact ih0 _ _ _ _)
   | (with_reducible exact ih1 _ _ _ _)
   | (with_reducible exact ih2 _ _ _ _ _ _ _ _)
   | (with_reducible exact ih3 _ _ _ _ _ _ _ _)
   | (with_reducible exact codicilref18_Name.mono _ _)
   | (with_reducible exact LeO.refl _)
   | (with_reducible exact LeO.none _)
   | (with_reducible refine LeO.ite ?_ ?_)
   | (with_reducible refine LeO.bind ?_ (fun _ => ?_))
   | exact ih0 _ _ _ _
   | exact ih1 _ _ _ _
   | exact ih2 _ _ _ _ _ _ _ _
   | exact ih3 _ _ _ _ _ _ _ _
   | exact codicilref18_Name.mono _ _
   | exact LeO.none _
   | refine LeO.ite ?_ ?_
   | refine LeO.bind ?_ (fun _ => ?_)
  ·intro y0 y1 y2 y3 y4 y5 y6 y7
   unfold codicilref18_May.l1
   repeat' first
   | (with_reducible exact ih0 _ _ _ _)
   | (with_reducible exact ih1 _ _ _ _)
   | (with_reducible exact ih2 _ _ _ _ _ _ _ _)
   | (with_reducible exact ih3 _ _ _ _ _ _ _ _)
   | (with_reducible exact codicilref18_Name.mono _ _)
   | (with_reducible exact LeO.refl _)
   | (with_reducible exact LeO.none _)
   | (with_reducible refine LeO.ite ?_ ?_)
   | (with_reducible refine LeO.bind ?_ (fun _ => ?_))
   | exact ih0 _ _ _ _
   | exact ih1 _ _ _ _
   | exact ih2 _ _ _ _ _ _ _ _
   | exact ih3 _ _ _ _ _ _ _ _
   | exact codicilref18_Name.mono _ _
   | exact LeO.none _
   | refine LeO.ite ?_ ?_
   | refine LeO.bind ?_ (fun _ => ?_)
theorem codicilref18_May.mono : ∀ a0 a1 a2 k, LeO (codicilref18_May.f k a0 a1 a2) (codicilref18_May.f (k + 1) a0 a1 a2) := by
 intro a0 a1 a2 k
 obtain ⟨ih0, ih1, ih2, ih3⟩ := codicilref18_May.mono_l k
 unfold codicilref18_May.f
 repeat' first
   | (with_reducible exact ih0 _ _ _ _)
   | (with_reducible exact ih1 _ _ _ _)
   | (with_reducible exact ih2 _ _ _ _ _ _ _ _)
   | (with_reducible exact ih3 _ _ _ _ _ _ _ _)
   | (with_reducible exact codicilref18_Name.mono _ _)
   | (with_reducible exact LeO.refl _)
   | (with_reducible exact LeO.none _)
   | (with_reducible refine LeO.ite ?_ ?_)
   | (with_reducible refine LeO.bind ?_ (fun _ => ?_))
   | exact ih0 _ _ _ _
   | exact ih1 _ _ _ _
   | exact ih2 _ _ _ _ _ _ _ _
   | exact ih3 _ _ _ _ _ _ _ _
   | exact codicilref18_Name.mono _ _
   | exact LeO.none _
   | refine LeO.ite ?_ ?_
   | refine LeO.bind ?_ (fun _ => ?_)
set_option maxHeartbeats 8000000 in
set_option maxRecDepth 100000 in
theorem codicilref18_May.calls (k : Nat) (a0_0 : ByteArray) (a0_1 : Int) (A0_2 : Option Addr) (c0_2 : Nat) (l0_2 : List (S30)) (r : Int) (w : World) (hr0_2 : Kd.C k30 w A0_2 l0_2.length l0_2) (hc0_2 : l0_2.length ≤ c0_2) (h : codicilref18_May.f k a0_0 a0_1 l0_2 = some r) :
  Calls Try.prog 29 #[.agg #[.string a0_0, .int .i64 a0_1, .slice A0_2 l0_2.length c0_2]] w fun e w' => e = .returned (.int .i64 r) ∧ Below w.heap.size w w' := by
 have hu24 := Try.underlying24
 have hu30 := Try.underlying30
 have HR0_2 := qH hr0_2
 have HC0_2 := qH hc0_2
 clear hr0_2 hc0_2
 have HB := qH (Below.refl w.heap.size w)
 have H : ((codicilref18_Name.f k a0_0).bind fun t207 => (if t207 = true then (if a0_1 < 1 then (codicilref18_May.j0 k true a0_0 a0_1 l0_2) else (if a0_1 > 1073741824 then (codicilref18_May.j0 k true a0_0 a0_1 l0_2) else (codicilref18_May.j0 k (decide ((l0_2.length : Int) > 64)) a0_0 a0_1 l0_2))) else (codicilref18_May.j0 k true a0_0 a0_1 l0_2))) = some r := h
 clear h
 have HC2 := qH H
 clear H
 go_enter Try.func29, Try.ntmps29
 go_upto_region 1 with (first | ((with_reducible refine gate_dst (N := 1) rfl ?_); (try (refine gate_guard (by rfl) ?_; dsimp only)); refine box_event ?hg (N := 1) ?hd (cs := #[.string a0_0, .int .i64 a0_1, .slice A0_2 l0_2.length c0_2]) (t := 24) ?hr ?_; (case hd => rfl); (case hg => rfl); (case hr => first | (go_simp; done) | (go_simp; rfl)); intro gb206 hg w3 hbox hb; have n0_ := qH (below_step (by repeat (first | (with_reducible first | exact HB.out | apply qL | apply qJ | apply qK) | exact HB.out)) hb); have n1_ := qH (hbox); have n2_ := qH ((by rw [hg]; exact (below_size (by repeat (first | (with_reducible first | exact HB.out | apply qL | apply qJ | apply qK) | exact HB.out))) : w.heap.size ≤ gb206)); have n3_ := n2_; clear HB; have HB := n0_; have BK206 := n1_; have GW206 := n2_; have GE206 := n3_; clear n0_ n1_ n2_ n3_; clear hb hbox hg))
 repeat (go_quiet (first | ((with_reducible refine gate_dst (N := 1) rfl ?_); (try (refine gate_guard (by rfl) ?_; dsimp only)); refine box_event ?hg (N := 1) ?hd (cs := #[.string a0_0, .int .i64 a0_1, .slice A0_2 l0_2.length c0_2]) (t := 24) ?hr ?_; (case hd => rfl); (case hg => rfl); (case hr => first | (go_simp; done) | (go_simp; rfl)); intro gb206 hg w3 hbox hb; have n0_ := qH (below_step (by repeat (first | (with_reducible first | exact HB.out | apply qL | apply qJ | apply qK) | exact HB.out)) hb); have n1_ := qH (hbox); have n2_ := qH ((by rw [hg]; exact (below_size (by repeat (first | (with_reducible first | exact HB.out | apply qL | apply qJ | apply qK) | exact HB.out))) : w.heap.size ≤ gb206)); have n3_ := n2_; clear HB; have HB := n0_; have BK206 := n1_; have GW206 := n2_; have GE206 := n3_; clear n0_ n1_ n2_ n3_; clear hb hbox hg)); go_upto_region 1 with (first | ((with_reducible refine gate_dst (N := 1) rfl ?_); (try (refine gate_guard (by rfl) ?_; dsimp only)); refine box_event ?hg (N := 1) ?hd (cs := #[.string a0_0, .int .i64 a0_1, .slice A0_2 l0_2.length c0_2]) (t := 24) ?hr ?_; (case hd => rfl); (case hg => rfl); (case hr => first | (go_simp; done) | (go_simp; rfl)); intro gb206 hg w3 hbox hb; have n0_ := qH (below_step (by repeat (first | (with_reducible first | exact HB.out | apply qL | apply qJ | apply qK) | exact HB.out)) hb); have n1_ := qH (hbox); have n2_ := qH ((by rw [hg]; exact (below_size (by repeat (first | (with_reducible first | exact HB.out | apply qL | apply qJ | apply qK) | exact HB.out))) : w.heap.size ≤ gb206)); have n3_ := n2_; clear HB; have HB := n0_; have BK206 := n1_; have GW206 := n2_; have GE206 := n3_; clear n0_ n1_ n2_ n3_; clear hb hbox hg)))
 (try simp only [Act.put, List.setIfInBounds_toArray, List.set_cons_zero, List.set_cons_succ])
 go_cut [25] (fun v25 wc => ∃ (kq : Nat) (x25_1 : Bool), v25 = .bool x25_1 ∧ Aside0 (codicilref18_May.j0 kq x25_1 a0_0 a0_1 l0_2 = some r) ∧ Aside0 (kq ≤ k) ∧ Aside0 (wc.heap[gb206]? = some (.cells #[.string a0_0, .int .i64 a0_1, (.slice A0_2 l0_2.length c0_2)] 24 (0, 0))) ∧ Aside0 (Below w.heap.size w wc))
 case first =>
  have H := HC2.out
  clear HC2
  replace H := Option.bind_eq_some_iff.mp H
  obtain ⟨t207, A40, H⟩ := H
  (try dsimp only at H)
  have A4 := qH A40
  clear A40
  by_cases c5 : t207 = true
  ·subst c5
   have H1 : (if a0_1 < 1 then (codicilref18_May.j0 k true a0_0 a0_1 l0_2) else (if a0_1 > 1073741824 then (codicilref18_May.j0 k true a0_0 a0_1 l0_2) else (codicilref18_May.j0 k (decide ((l0_2.length : Int) > 64)) a0_0 a0_1 l0_2))) = some r := by rw [if_pos rfl] at H; exact H
   clear H
   have H := H1
   clear H1
   by_cases c6 : a0_1 < 1
   ·rw [if_pos c6] at H
    have c6b0 : decide (a0_1 < 1) = true := decide_eq_true c6
    clear c6
    (first | rw [c6b0] | (simp only [i64_w, i32_w]; rw [c6b0]) | skip)
    have H' := qH H
    clear H
    have hcz7_0 : w3.cell? ⟨gb206, 0, none⟩ = some (.string a0_0) := (qE BK206.out 0).trans rfl
    have hcz7_1 : w3.cell? ⟨gb206, 1, none⟩ = some (.int .i64 a0_1) := (qE BK206.out 1).trans rfl
    have hcz7_2 : w3.cell? ⟨gb206, 2, none⟩ = some (.slice A0_2 l0_2.length c0_2) := (qE BK206.out 2).trans rfl
    have hfz7_0 := qF BK206.out 0
    have hfz7_1 := qF BK206.out 1
    have hfz7_2 := qF BK206.out 2
    go_wp2_with (first | (go_at_call 26; (with_reducible refine (codicilref18_Name.calls k a0_0 true _ A4.out).mono ?_); rintro e w' ⟨rfl, ⟨nd, rfl⟩⟩; (try first | exact ⟨rfl, _, World.drewN_drewN _ _ _⟩ | exact ⟨rfl, _, Eq.trans (World.drewN_drewN _ _ _) (congrArg (World.drewN _) (Nat.add_assoc _ _ _))⟩)))
    repeat (go_quiet (first | (go_at_call 26; (with_reducible refine (codicilref18_Name.calls k a0_0 true _ A4.out).mono ?_); rintro e w' ⟨rfl, ⟨nd, rfl⟩⟩; (try first | exact ⟨rfl, _, World.drewN_drewN _ _ _⟩ | exact ⟨rfl, _, Eq.trans (World.drewN_drewN _ _ _) (congrArg (World.drewN _) (Nat.add_assoc _ _ _))⟩))); try go_wp2_with (first | (go_at_call 26; (with_reducible refine (codicilref18_Name.calls k a0_0 true _ A4.out).mono ?_); rintro e w' ⟨rfl, ⟨nd, rfl⟩⟩; (try first | exact ⟨rfl, _, World.drewN_drewN _ _ _⟩ | exact ⟨rfl, _, Eq.trans (World.drewN_drewN _ _ _) (congrArg (World.drewN _) (Nat.add_assoc _ _ _))⟩))))
    go_meet
    case rel => exact ⟨_, (true), (by first | rfl | (simp; done) | (simp [*]; done)), H', ⟨by first | omega | exact Nat.le_refl _⟩, ⟨by (with_reducible repeat first | apply qA | apply qC | apply qB); exact BK206.out⟩, ⟨by repeat (first | (with_reducible first | exact HB.out | apply qL | apply qJ | apply qK | refine qI ?_ GE206.out) | exact HB.out)⟩⟩
   ·rw [if_neg c6] at H
    have c6b0 : decide (a0_1 < 1) = false := decide_eq_false c6
    clear c6
    (first | rw [c6b0] | (simp only [i64_w, i32_w]; rw [c6b0]) | skip)
    by_cases c8 : a0_1 > 1073741824
    ·rw [if_pos c8] at H
     have c8b0 : decide (1073741824 < a0_1) = true := decide_eq_true c8
     clear c8
     have H' := qH H
     clear H
     have hcz9_0 : w3.cell? ⟨gb206, 0, none⟩ = some (.string a0_0) := (qE BK206.out 0).trans rfl
     have hcz9_1 : w3.cell? ⟨gb206, 1, none⟩ = some (.int .i64 a0_1) := (qE BK206.out 1).trans rfl
     have hcz9_2 : w3.cell? ⟨gb206, 2, none⟩ = some (.slice A0_2 l0_2.length c0_2) := (qE BK206.out 2).trans rfl
     have hfz9_0 := qF BK206.out 0
     have hfz9_1 := qF BK206.out 1
     have hfz9_2 := qF BK206.out 2
     go_wp2_with (first | (go_at_call 26; (with_reducible refine (codicilref18_Name.calls k a0_0 true _ A4.out).mono ?_); rintro e w' ⟨rfl, ⟨nd, rfl⟩⟩; (try first | exact ⟨rfl, _, World.drewN_drewN _ _ _⟩ | exact ⟨rfl, _, Eq.trans (World.drewN_drewN _ _ _) (congrArg (World.drewN _) (Nat.add_assoc _ _ _))⟩)))
     repeat (go_quiet (first | (go_at_call 26; (with_reducible refine (codicilref18_Name.calls k a0_0 true _ A4.out).mono ?_); rintro e w' ⟨rfl, ⟨nd, rfl⟩⟩; (try first | exact ⟨rfl, _, World.drewN_drewN _ _ _⟩ | exact ⟨rfl, _, Eq.trans (World.drewN_drewN _ _ _) (congrArg (World.drewN _) (Nat.add_assoc _ _ _))⟩))); try go_wp2_with (first | (go_at_call 26; (with_reducible refine (codicilref18_Name.calls k a0_0 true _ A4.out).mono ?_); rintro e w' ⟨rfl, ⟨nd, rfl⟩⟩; (try first | exact ⟨rfl, _, World.drewN_drewN _ _ _⟩ | exact ⟨rfl, _, Eq.trans (World.drewN_drewN _ _ _) (congrArg (World.drewN _) (Nat.add_assoc _ _ _))⟩))))
     go_meet
     case rel => exact ⟨_, (true), (by first | rfl | (simp; done) | (simp [*]; done)), H', ⟨by first | omega | exact Nat.le_refl _⟩, ⟨by (with_reducible repeat first | apply qA | apply qC | apply qB); exact BK206.out⟩, ⟨by repeat (first | (with_reducible first | exact HB.out | apply qL | apply qJ | apply qK | refine qI ?_ GE206.out) | exact HB.out)⟩⟩
    ·rw [if_neg c8] at H
     have c8b0 : decide (1073741824 < a0_1) = false := decide_eq_false c8
     clear c8
     have H' := qH H
     clear H
     have hcz10_0 : w3.cell? ⟨gb206, 0, none⟩ = some (.string a0_0) := (qE BK206.out 0).trans rfl
     have hcz10_1 : w3.cell? ⟨gb206, 1, none⟩ = some (.int .i64 a0_1) := (qE BK206.out 1).trans rfl
     have hcz10_2 : w3.cell? ⟨gb206, 2, none⟩ = some (.slice A0_2 l0_2.length c0_2) := (qE BK206.out 2).trans rfl
     have hfz10_0 := qF BK206.out 0
     have hfz10_1 := qF BK206.out 1
     have hfz10_2 := qF BK206.out 2
     go_wp2_with (first | (go_at_call 26; (with_reducible refine (codicilref18_Name.calls k a0_0 true _ A4.out).mono ?_); rintro e w' ⟨rfl, ⟨nd, rfl⟩⟩; (try first | exact ⟨rfl, _, World.drewN_drewN _ _ _⟩ | exact ⟨rfl, _, Eq.trans (World.drewN_drewN _ _ _) (congrArg (World.drewN _) (Nat.add_assoc _ _ _))⟩)))
     repeat (go_quiet (first | (go_at_call 26; (with_reducible refine (codicilref18_Name.calls k a0_0 true _ A4.out).mono ?_); rintro e w' ⟨rfl, ⟨nd, rfl⟩⟩; (try first | exact ⟨rfl, _, World.drewN_drewN _ _ _⟩ | exact ⟨rfl, _, Eq.trans (World.drewN_drewN _ _ _) (congrArg (World.drewN _) (Nat.add_assoc _ _ _))⟩))); try go_wp2_with (first | (go_at_call 26; (with_reducible refine (codicilref18_Name.calls k a0_0 true _ A4.out).mono ?_); rintro e w' ⟨rfl, ⟨nd, rfl⟩⟩; (try first | exact ⟨rfl, _, World.drewN_drewN _ _ _⟩ | exact ⟨rfl, _, Eq.trans (World.drewN_drewN _ _ _) (congrArg (World.drewN _) (Nat.add_assoc _ _ _))⟩))))
     go_meet
     case rel => exact ⟨_, (decide ((l0_2.length : Int) > 64)), (by first | rfl | (simp; done) | (simp [*]; done)), H', ⟨by first | omega | exact Nat.le_refl _⟩, ⟨by (with_reducible repeat first | apply qA | apply qC | apply qB); exact BK206.out⟩, ⟨by repeat (first | (with_reducible first | exact HB.out | apply qL | apply qJ | apply qK | refine qI ?_ GE206.out) | exact HB.out)⟩⟩
  ·replace c5 := Bool.eq_false_iff.mpr c5
   subst c5
   have H1 : (codicilref18_May.j0 k true a0_0 a0_1 l0_2) = some r := by rw [if_neg (show ¬ (false = true) by decide)] at H; exact H
   clear H
   have H := H1
   clear H1
   have H' := qH H
   clear H
   have hcz11_0 : w3.cell? ⟨gb206, 0, none⟩ = some (.string a0_0) := (qE BK206.out 0).trans rfl
   have hcz11_1 : w3.cell? ⟨gb206, 1, none⟩ = some (.int .i64 a0_1) := (qE BK206.out 1).trans rfl
   have hcz11_2 : w3.cell? ⟨gb206, 2, none⟩ = some (.slice A0_2 l0_2.length c0_2) := (qE BK206.out 2).trans rfl
   have hfz11_0 := qF BK206.out 0
   have hfz11_1 := qF BK206.out 1
   have hfz11_2 := qF BK206.out 2
   go_wp2_with (first | (go_at_call 26; (with_reducible refine (codicilref18_Name.calls k a0_0 false _ A4.out).mono ?_); rintro e w' ⟨rfl, ⟨nd, rfl⟩⟩; (try first | exact ⟨rfl, _, World.drewN_drewN _ _ _⟩ | exact ⟨rfl, _, Eq.trans (World.drewN_drewN _ _ _) (congrArg (World.drewN _) (Nat.add_assoc _ _ _))⟩)))
   repeat (go_quiet (first | (go_at_call 26; (with_reducible refine (codicilref18_Name.calls k a0_0 false _ A4.out).mono ?_); rintro e w' ⟨rfl, ⟨nd, rfl⟩⟩; (try first | exact ⟨rfl, _, World.drewN_drewN _ _ _⟩ | exact ⟨rfl, _, Eq.trans (World.drewN_drewN _ _ _) (congrArg (World.drewN _) (Nat.add_assoc _ _ _))⟩))); try go_wp2_with (first | (go_at_call 26; (with_reducible refine (codicilref18_Name.calls k a0_0 false _ A4.out).mono ?_); rintro e w' ⟨rfl, ⟨nd, rfl⟩⟩; (try first | exact ⟨rfl, _, World.drewN_drewN _ _ _⟩ | exact ⟨rfl, _, Eq.trans (World.drewN_drewN _ _ _) (congrArg (World.drewN _) (Nat.add_assoc _ _ _))⟩))))
   go_meet
   case rel => exact ⟨_, (true), (by first | rfl | (simp; done) | (simp [*]; done)), H', ⟨by first | omega | exact Nat.le_refl _⟩, ⟨by (with_reducible repeat first | apply qA | apply qC | apply qB); exact BK206.out⟩, ⟨by repeat (first | (with_reducible first | exact HB.out | apply qL | apply qJ | apply qK | refine qI ?_ GE206.out) | exact HB.out)⟩⟩
 case rest =>
  clear HC2
  try clear c2
  try clear p2
  try clear c5
  try clear c6
  try clear c6b0
  try clear c8
  try clear c8b0
  try clear hcz10_0
  try clear hcz10_1
  try clear hcz10_2
  try clear hcz11_0
  try clear hcz11_1
  try clear hcz11_2
  try clear hcz7_0
  try clear hcz7_1
  try clear hcz7_2
  try clear hcz9_0
  try clear hcz9_1
  try clear hcz9_2
  try clear hfz10_0
  try clear hfz10_1
  try clear hfz10_2
  try clear hfz11_0
  try clear hfz11_1
  try clear hfz11_2
  try clear hfz7_0
  try clear hfz7_1
  try clear hfz7_2
  try clear hfz9_0
  try clear hfz9_1
  try clear hfz9_2
  obtain ⟨kq, x25_1, rfl, HA, HJ1, BK206, HB⟩ := hcut
  cases kq with
  | zero => exact absurd HA.out (by simp [codicilref18_May.j0])
  | succ kj1 =>
   have H := HA.out
   clear HA
   simp only [codicilref18_May.j0] at H
   by_cases c12 : x25_1 = true
   ·subst c12
    have H1 : (some 8) = some r := by rw [if_pos rfl] at H; exact H
    clear H
    have H := H1
    clear H1
    obtain rfl := Option.some.inj H
    simp only [Option.some.injEq, Prod.mk.injEq] at H
    obtain ⟨rfl⟩ := H
    go_wp2
    repeat (go_quiet (fail); try go_wp2)
    go_ret
    exact ⟨by first | rfl | (simp [errW_none, errW_some] <;> rfl) | (simp [*, errW_none, errW_some] <;> rfl), by repeat (first | (with_reducible first | exact HB.out | apply qL | apply qJ | apply qK | refine qI ?_ GE206.out) | exact HB.out)⟩
   ·replace c12 := Bool.eq_false_iff.mpr c12
    subst c12
    have H1 : (codicilref18_May.l0 kj1 0 a0_0 a0_1 l0_2) = some r := by rw [if_neg (show ¬ (false = true) by decide)] at H; exact H
    clear H
    have H := H1
    clear H1
    have H' := qH H
    clear H
    go_wp2
    repeat (go_quiet (fail); try go_wp2)
    go_loopg [3] kj1 (fun kq v3 w' => ∃ (x3_2 : Int), v3 = .int .i64 x3_2 ∧ Aside0 (codicilref18_May.l0 kq x3_2 a0_0 a0_1 l0_2 = some r) ∧ Aside0 (kq ≤ kj1) ∧ Aside0 (w'.heap[gb206]? = some (.cells #[.string a0_0, .int .i64 a0_1, (.slice A0_2 l0_2.length c0_2)] 24 (0, 0))) ∧ Aside0 (Below w.heap.size w w'))
    case atStart => exact ⟨(0), (by first | rfl | (simp; done) | (simp [*]; done)), H', ⟨Nat.le_refl _⟩, ⟨by (with_reducible repeat first | apply qA | apply qC | apply qB); exact BK206.out⟩, ⟨by repeat (first | (with_reducible first | exact HB.out | apply qL | apply qJ | apply qK | refine qI ?_ GE206.out) | exact HB.out)⟩⟩
    case round =>
     clear H'
     try clear c1
     try clear c2
     try clear p2
     try clear c5
     try clear c6
     try clear c6b0
     try clear c8
     try clear c8b0
     try clear c12
     try clear hcz10_0
     try clear hcz10_1
     try clear hcz10_2
     try clear hcz11_0
     try clear hcz11_1
     try clear hcz11_2
     try clear hcz7_0
     try clear hcz7_1
     try clear hcz7_2
     try clear hcz9_0
     try clear hcz9_1
     try clear hcz9_2
     try clear hfz10_0
     try clear hfz10_1
     try clear hfz10_2
     try clear hfz11_0
     try clear hfz11_1
     try clear hfz11_2
     try clear hfz7_0
     try clear hfz7_1
     try clear hfz7_2
     try clear hfz9_0
     try clear hfz9_1
     try clear hfz9_2
     try clear p2
     obtain ⟨x3_2, rfl, HA, HK2, BK206, HB⟩ := hrel
     cases gk with
     | zero => exact absurd HA.out (by simp [codicilref18_May.l0])
     | succ k2 =>
      have H := HA.out
      clear HA
      simp only [codicilref18_May.l0] at H
      by_cases c13 : x3_2 < (l0_2.length : Int)
      ·rw [if_pos c13] at H
       have c13b0 : decide (x3_2 < (l0_2.length : Int)) = true := decide_eq_true c13
       clear c13
       by_cases c14 : 0 ≤ x3_2
       ·rw [if_pos c14] at H
        have c14b0 : decide (0 ≤ x3_2) = true := decide_eq_true c14
        clear c14
        have HC15 := qH H
        clear H
        have hcz16_0 : wr.cell? ⟨gb206, 0, none⟩ = some (.string a0_0) := (qE BK206.out 0).trans rfl
        have hcz16_1 : wr.cell? ⟨gb206, 1, none⟩ = some (.int .i64 a0_1) := (qE BK206.out 1).trans rfl
        have hcz16_2 : wr.cell? ⟨gb206, 2, none⟩ = some (.slice A0_2 l0_2.length c0_2) := (qE BK206.out 2).trans rfl
        have hfz16_0 := qF BK206.out 0
        have hfz16_1 := qF BK206.out 1
        have hfz16_2 := qF BK206.out 2
        have p208 : 0 ≤ (x3_2 : Int) := of_decide_eq_true (by first | (with_reducible assumption) | assumption)
        have q208 : x3_2 < (l0_2.length : Int) := of_decide_eq_true (by first | (with_reducible assumption) | assumption)
        obtain ⟨ad208, e208, hx208_0, hx208_1, hx208_2⟩ := at_T30 HR0_2.out x3_2 p208 q208
        cases e208
        replace hx208_0 := (HB.out.cell (qO w _ hx208_0)).trans hx208_0
        replace hx208_1 := (HB.out.cell (qO w _ hx208_1)).trans hx208_1
        replace hx208_2 := (HB.out.cell (qO w _ hx208_2)).trans hx208_2
        replace p208 := eq_true p208
        replace q208 := eq_true q208
        go_upto_region 7 with (first | ((with_reducible refine gate_dst (N := 4) rfl ?_); (try (refine gate_guard (by rfl) ?_; dsimp only)); refine box_event ?hg (N := 4) ?hd (cs := #[.int .i64 0, .int .u32 0, .bool false]) (t := 30) ?hr ?_; (case hd => rfl); (case hg => rfl); (case hr => first | (go_simp; done) | (go_simp; rfl)); intro gb209 hg w17 hbox hb; have n0_ := qH (qD (g := gb206) (by (with_reducible repeat first | apply qA | apply qC | apply qB); exact BK206.out) hb); have n1_ := qH (below_step (by repeat (first | (with_reducible first | exact HB.out | apply qL | apply qJ | apply qK | refine qI ?_ GE206.out) | exact HB.out)) hb); have n2_ := qH (hbox); have n3_ := qH ((by rw [hg]; exact (below_size (by repeat (first | (with_reducible first | exact HB.out | apply qL | apply qJ | apply qK | refine qI ?_ GE206.out) | exact HB.out))) : w.heap.size ≤ gb209)); have n4_ := n3_; have n5_ := qH ((by rw [hg]; exact qN (blk_lt (g := gb206) (by (with_reducible repeat first | apply qA | apply qC | apply qB); exact BK206.out)) : gb206 ≠ gb209)); have n6_ := qH ((by rw [hg]; exact Nat.ne_of_gt (blk_lt (g := gb206) (by (with_reducible repeat first | apply qA | apply qC | apply qB); exact BK206.out)) : gb209 ≠ gb206)); clear BK206; clear HB; have BK206 := n0_; have HB := n1_; have BK209 := n2_; have GW209 := n3_; have GE209 := n4_; have NB206_209 := n5_; have NB209_206 := n6_; clear n0_ n1_ n2_ n3_ n4_ n5_ n6_; clear hb hbox hg; have hnb18 := NB209_206.out; have hnc18 := NB206_209.out; obtain ⟨hcz19_0, hcz19_1, hcz19_2⟩ := qc3 BK209.out; obtain ⟨hfz19_0, hfz19_1, hfz19_2⟩ := qf3 BK209.out))
        repeat (go_quiet (first | ((with_reducible refine gate_dst (N := 4) rfl ?_); (try (refine gate_guard (by rfl) ?_; dsimp only)); refine box_event ?hg (N := 4) ?hd (cs := #[.int .i64 0, .int .u32 0, .bool false]) (t := 30) ?hr ?_; (case hd => rfl); (case hg => rfl); (case hr => first | (go_simp; done) | (go_simp; rfl)); intro gb209 hg w17 hbox hb; have n0_ := qH (qD (g := gb206) (by (with_reducible repeat first | apply qA | apply qC | apply qB); exact BK206.out) hb); have n1_ := qH (below_step (by repeat (first | (with_reducible first | exact HB.out | apply qL | apply qJ | apply qK | refine qI ?_ GE206.out) | exact HB.out)) hb); have n2_ := qH (hbox); have n3_ := qH ((by rw [hg]; exact (below_size (by repeat (first | (with_reducible first | exact HB.out | apply qL | apply qJ | apply qK | refine qI ?_ GE206.out) | exact HB.out))) : w.heap.size ≤ gb209)); have n4_ := n3_; have n5_ := qH ((by rw [hg]; exact qN (blk_lt (g := gb206) (by (with_reducible repeat first | apply qA | apply qC | apply qB); exact BK206.out)) : gb206 ≠ gb209)); have n6_ := qH ((by rw [hg]; exact Nat.ne_of_gt (blk_lt (g := gb206) (by (with_reducible repeat first | apply qA | apply qC | apply qB); exact BK206.out)) : gb209 ≠ gb206)); clear BK206; clear HB; have BK206 := n0_; have HB := n1_; have BK209 := n2_; have GW209 := n3_; have GE209 := n4_; have NB206_209 := n5_; have NB209_206 := n6_; clear n0_ n1_ n2_ n3_ n4_ n5_ n6_; clear hb hbox hg; have hnb18 := NB209_206.out; have hnc18 := NB206_209.out; obtain ⟨hcz19_0, hcz19_1, hcz19_2⟩ := qc3 BK209.out; obtain ⟨hfz19_0, hfz19_1, hfz19_2⟩ := qf3 BK209.out)); go_upto_region 7 with (first | ((with_reducible refine gate_dst (N := 4) rfl ?_); (try (refine gate_guard (by rfl) ?_; dsimp only)); refine box_event ?hg (N := 4) ?hd (cs := #[.int .i64 0, .int .u32 0, .bool false]) (t := 30) ?hr ?_; (case hd => rfl); (case hg => rfl); (case hr => first | (go_simp; done) | (go_simp; rfl)); intro gb209 hg w17 hbox hb; have n0_ := qH (qD (g := gb206) (by (with_reducible repeat first | apply qA | apply qC | apply qB); exact BK206.out) hb); have n1_ := qH (below_step (by repeat (first | (with_reducible first | exact HB.out | apply qL | apply qJ | apply qK | refine qI ?_ GE206.out) | exact HB.out)) hb); have n2_ := qH (hbox); have n3_ := qH ((by rw [hg]; exact (below_size (by repeat (first | (with_reducible first | exact HB.out | apply qL | apply qJ | apply qK | refine qI ?_ GE206.out) | exact HB.out))) : w.heap.size ≤ gb209)); have n4_ := n3_; have n5_ := qH ((by rw [hg]; exact qN (blk_lt (g := gb206) (by (with_reducible repeat first | apply qA | apply qC | apply qB); exact BK206.out)) : gb206 ≠ gb209)); have n6_ := qH ((by rw [hg]; exact Nat.ne_of_gt (blk_lt (g := gb206) (by (with_reducible repeat first | apply qA | apply qC | apply qB); exact BK206.out)) : gb209 ≠ gb206)); clear BK206; clear HB; have BK206 := n0_; have HB := n1_; have BK209 := n2_; have GW209 := n3_; have GE209 := n4_; have NB206_209 := n5_; have NB209_206 := n6_; clear n0_ n1_ n2_ n3_ n4_ n5_ n6_; clear hb hbox hg; have hnb18 := NB209_206.out; have hnc18 := NB206_209.out; obtain ⟨hcz19_0, hcz19_1, hcz19_2⟩ := qc3 BK209.out; obtain ⟨hfz19_0, hfz19_1, hfz19_2⟩ := qf3 BK209.out)))
        (try simp only [Act.put, List.setIfInBounds_toArray, List.set_cons_zero, List.set_cons_succ])
        go_cut [68] (fun v68 wc => ∃ (kq : Nat) (x68_14 : Bool), v68 = .bool x68_14 ∧ Aside0 (codicilref18_May.j2 kq x3_2 x68_14 a0_0 a0_1 l0_2 ((rd_T30 l0_2 x3_2).f0) ((rd_T30 l0_2 x3_2).f1) ((rd_T30 l0_2 x3_2).f2) = some r) ∧ Aside0 (kq ≤ k2) ∧ Aside0 (wc.heap[gb206]? = some (.cells #[.string a0_0, .int .i64 a0_1, (.slice (some ad208) l0_2.length c0_2)] 24 (0, 0))) ∧ Aside0 (wc.heap[gb209]? = some (.cells #[.int .i64 ((rd_T30 l0_2 x3_2).f0), .int .u32 ((rd_T30 l0_2 x3_2).f1), .bool ((rd_T30 l0_2 x3_2).f2)] 30 (0, 0))) ∧ Aside0 (Below w.heap.size w wc))
        case first =>
         have H := HC15.out
         clear HC15
         by_cases c20 : ((rd_T30 l0_2 x3_2).f0) < 1
         ·rw [if_pos c20] at H
          have c20b0 : decide (((rd_T30 l0_2 x3_2).f0) < 1) = true := decide_eq_true c20
          clear c20
          (first | rw [c20b0] | (simp only [i64_w, i32_w]; rw [c20b0]) | skip)
          have H' := qH H
          clear H
          have hnb21 := NB209_206.out
          have hnc21 := NB206_209.out
          have hcz22_0 : w17.cell? ⟨gb209, 0, none⟩ = some (.int .i64 0) := (qE BK209.out 0).trans rfl
          have hcz22_1 : w17.cell? ⟨gb209, 1, none⟩ = some (.int .u32 0) := (qE BK209.out 1).trans rfl
          have hcz22_2 : w17.cell? ⟨gb209, 2, none⟩ = some (.bool false) := (qE BK209.out 2).trans rfl
          have hfz22_0 := qF BK209.out 0
          have hfz22_1 := qF BK209.out 1
          have hfz22_2 := qF BK209.out 2
          go_wp2
          repeat (go_quiet (fail); try go_wp2)
          go_meet
          case rel => exact ⟨_, (true), (by first | rfl | (simp; done) | (simp [*]; done)), H', ⟨by have := HJ1.out; have := HK2.out; first | omega | exact Nat.le_refl _⟩, ⟨by (with_reducible repeat first | apply qA | apply qC | apply qB); refine qG ?_ NB206_209.out _; (with_reducible repeat first | apply qA | apply qC | apply qB); refine qG ?_ NB206_209.out _; (with_reducible repeat first | apply qA | apply qC | apply qB); refine qG ?_ NB206_209.out _; (with_reducible repeat first | apply qA | apply qC | apply qB); exact BK206.out⟩, ⟨by (with_reducible repeat first | apply qA | apply qC | apply qB); refine blk_put (cs := #[.int .i64 ((rd_T30 l0_2 x3_2).f0), .int .u32 ((rd_T30 l0_2 x3_2).f1), .bool false]) ?_ 2 _ rfl; (with_reducible repeat first | apply qA | apply qC | apply qB); refine blk_put (cs := #[.int .i64 ((rd_T30 l0_2 x3_2).f0), .int .u32 0, .bool false]) ?_ 1 _ rfl; (with_reducible repeat first | apply qA | apply qC | apply qB); refine blk_put (cs := #[.int .i64 0, .int .u32 0, .bool false]) ?_ 0 _ rfl; (with_reducible repeat first | apply qA | apply qC | apply qB); exact BK209.out⟩, ⟨by repeat (first | (with_reducible first | exact HB.out | apply qL | apply qJ | apply qK | refine qI ?_ GE206.out | refine qI ?_ GE209.out) | exact HB.out)⟩⟩
         ·rw [if_neg c20] at H
          have c20b0 : decide (((rd_T30 l0_2 x3_2).f0) < 1) = false := decide_eq_false c20
          clear c20
          (first | rw [c20b0] | (simp only [i64_w, i32_w]; rw [c20b0]) | skip)
          by_cases c23 : ((rd_T30 l0_2 x3_2).f0) ≥ a0_1
          ·rw [if_pos c23] at H
           have c23b0 : decide (a0_1 ≤ ((rd_T30 l0_2 x3_2).f0)) = true := decide_eq_true c23
           clear c23
           have H' := qH H
           clear H
           have hnb24 := NB209_206.out
           have hnc24 := NB206_209.out
           have hcz25_0 : w17.cell? ⟨gb209, 0, none⟩ = some (.int .i64 0) := (qE BK209.out 0).trans rfl
           have hcz25_1 : w17.cell? ⟨gb209, 1, none⟩ = some (.int .u32 0) := (qE BK209.out 1).trans rfl
           have hcz25_2 : w17.cell? ⟨gb209, 2, none⟩ = some (.bool false) := (qE BK209.out 2).trans rfl
           have hfz25_0 := qF BK209.out 0
           have hfz25_1 := qF BK209.out 1
           have hfz25_2 := qF BK209.out 2
           have hcz26_0 : w17.cell? ⟨gb206, 0, none⟩ = some (.string a0_0) := (qE BK206.out 0).trans rfl
           have hcz26_1 : w17.cell? ⟨gb206, 1, none⟩ = some (.int .i64 a0_1) := (qE BK206.out 1).trans rfl
           have hcz26_2 : w17.cell? ⟨gb206, 2, none⟩ = some (.slice (some ad208) l0_2.length c0_2) := (qE BK206.out 2).trans rfl
           have hfz26_0 := qF BK206.out 0
           have hfz26_1 := qF BK206.out 1
           have hfz26_2 := qF BK206.out 2
           go_wp2
           repeat (go_quiet (fail); try go_wp2)
           go_meet
           case rel => exact ⟨_, (true), (by first | rfl | (simp; done) | (simp [*]; done)), H', ⟨by have := HJ1.out; have := HK2.out; first | omega | exact Nat.le_refl _⟩, ⟨by (with_reducible repeat first | apply qA | apply qC | apply qB); refine qG ?_ NB206_209.out _; (with_reducible repeat first | apply qA | apply qC | apply qB); refine qG ?_ NB206_209.out _; (with_reducible repeat first | apply qA | apply qC | apply qB); refine qG ?_ NB206_209.out _; (with_reducible repeat first | apply qA | apply qC | apply qB); exact BK206.out⟩, ⟨by (with_reducible repeat first | apply qA | apply qC | apply qB); refine blk_put (cs := #[.int .i64 ((rd_T30 l0_2 x3_2).f0), .int .u32 ((rd_T30 l0_2 x3_2).f1), .bool false]) ?_ 2 _ rfl; (with_reducible repeat first | apply qA | apply qC | apply qB); refine blk_put (cs := #[.int .i64 ((rd_T30 l0_2 x3_2).f0), .int .u32 0, .bool false]) ?_ 1 _ rfl; (with_reducible repeat first | apply qA | apply qC | apply qB); refine blk_put (cs := #[.int .i64 0, .int .u32 0, .bool false]) ?_ 0 _ rfl; (with_reducible repeat first | apply qA | apply qC | apply qB); exact BK209.out⟩, ⟨by repeat (first | (with_reducible first | exact HB.out | apply qL | apply qJ | apply qK | refine qI ?_ GE206.out | refine qI ?_ GE209.out) | exact HB.out)⟩⟩
          ·rw [if_neg c23] at H
           have c23b0 : decide (a0_1 ≤ ((rd_T30 l0_2 x3_2).f0)) = false := decide_eq_false c23
           clear c23
           by_cases c27 : ((rd_T30 l0_2 x3_2).f1) = 0
           ·rw [if_pos c27] at H
            have c27b0 : (((rd_T30 l0_2 x3_2).f1) == 0) = true := beq_iff_eq.mpr c27
            have c27b1 : (((rd_T30 l0_2 x3_2).f1) != 0) = false := bne_eq_false_iff_eq.mpr c27
            clear c27
            have H' := qH H
            clear H
            have hnb28 := NB209_206.out
            have hnc28 := NB206_209.out
            have hcz29_0 : w17.cell? ⟨gb209, 0, none⟩ = some (.int .i64 0) := (qE BK209.out 0).trans rfl
            have hcz29_1 : w17.cell? ⟨gb209, 1, none⟩ = some (.int .u32 0) := (qE BK209.out 1).trans rfl
            have hcz29_2 : w17.cell? ⟨gb209, 2, none⟩ = some (.bool false) := (qE BK209.out 2).trans rfl
            have hfz29_0 := qF BK209.out 0
            have hfz29_1 := qF BK209.out 1
            have hfz29_2 := qF BK209.out 2
            have hcz30_0 : w17.cell? ⟨gb206, 0, none⟩ = some (.string a0_0) := (qE BK206.out 0).trans rfl
            have hcz30_1 : w17.cell? ⟨gb206, 1, none⟩ = some (.int .i64 a0_1) := (qE BK206.out 1).trans rfl
            have hcz30_2 : w17.cell? ⟨gb206, 2, none⟩ = some (.slice (some ad208) l0_2.length c0_2) := (qE BK206.out 2).trans rfl
            have hfz30_0 := qF BK206.out 0
            have hfz30_1 := qF BK206.out 1
            have hfz30_2 := qF BK206.out 2
            go_wp2
            repeat (go_quiet (fail); try go_wp2)
            go_meet
            case rel => exact ⟨_, (true), (by first | rfl | (simp; done) | (simp [*]; done)), H', ⟨by have := HJ1.out; have := HK2.out; first | omega | exact Nat.le_refl _⟩, ⟨by (with_reducible repeat first | apply qA | apply qC | apply qB); refine qG ?_ NB206_209.out _; (with_reducible repeat first | apply qA | apply qC | apply qB); refine qG ?_ NB206_209.out _; (with_reducible repeat first | apply qA | apply qC | apply qB); refine qG ?_ NB206_209.out _; (with_reducible repeat first | apply qA | apply qC | apply qB); exact BK206.out⟩, ⟨by (with_reducible repeat first | apply qA | apply qC | apply qB); refine blk_put (cs := #[.int .i64 ((rd_T30 l0_2 x3_2).f0), .int .u32 ((rd_T30 l0_2 x3_2).f1), .bool false]) ?_ 2 _ rfl; (with_reducible repeat first | apply qA | apply qC | apply qB); refine blk_put (cs := #[.int .i64 ((rd_T30 l0_2 x3_2).f0), .int .u32 0, .bool false]) ?_ 1 _ rfl; (with_reducible repeat first | apply qA | apply qC | apply qB); refine blk_put (cs := #[.int .i64 0, .int .u32 0, .bool false]) ?_ 0 _ rfl; (with_reducible repeat first | apply qA | apply qC | apply qB); exact BK209.out⟩, ⟨by repeat (first | (with_reducible first | exact HB.out | apply qL | apply qJ | apply qK | refine qI ?_ GE206.out | refine qI ?_ GE209.out) | exact HB.out)⟩⟩
           ·rw [if_neg c27] at H
            have c27b0 : (((rd_T30 l0_2 x3_2).f1) == 0) = false := beq_eq_false_iff_ne.mpr c27
            have c27b1 : (((rd_T30 l0_2 x3_2).f1) != 0) = true := bne_iff_ne.mpr c27
            by_cases c31 : x3_2 > 0
            ·rw [if_pos c31] at H
             have c31b0 : decide (0 < x3_2) = true := decide_eq_true c31
             clear c31
             obtain ⟨ji32, hji32⟩ : ∃ j_ : Int, (wrap64 (x3_2 - 1)) = j_ := ⟨_, rfl⟩
             replace H : (if 0 ≤ (ji32) then (if (ji32) < (l0_2.length : Int) then (codicilref18_May.j2 k2 x3_2 (decide (((rd_T30 l0_2 (ji32)).f0) ≥ ((rd_T30 l0_2 x3_2).f0))) a0_0 a0_1 l0_2 ((rd_T30 l0_2 x3_2).f0) ((rd_T30 l0_2 x3_2).f1) ((rd_T30 l0_2 x3_2).f2)) else (none)) else (none)) = some r := by first | (rw [hji32] at H; exact H) | (simp only [hji32] at H ⊢; exact H)
             have hji32w : (IntKind.i64.wrap (x3_2 - 1)) = ji32 := (i64_w _).trans hji32
             by_cases c33 : 0 ≤ (ji32)
             ·rw [if_pos c33] at H
              have c33b0 : decide (0 ≤ (ji32)) = true := decide_eq_true c33
              clear c33
              by_cases c34 : (ji32) < (l0_2.length : Int)
              ·rw [if_pos c34] at H
               have c34b0 : decide ((ji32) < (l0_2.length : Int)) = true := decide_eq_true c34
               clear c34
               have H' := qH H
               clear H
               have hnb35 := NB209_206.out
               have hnc35 := NB206_209.out
               have hcz36_0 : w17.cell? ⟨gb209, 0, none⟩ = some (.int .i64 0) := (qE BK209.out 0).trans rfl
               have hcz36_1 : w17.cell? ⟨gb209, 1, none⟩ = some (.int .u32 0) := (qE BK209.out 1).trans rfl
               have hcz36_2 : w17.cell? ⟨gb209, 2, none⟩ = some (.bool false) := (qE BK209.out 2).trans rfl
               have hfz36_0 := qF BK209.out 0
               have hfz36_1 := qF BK209.out 1
               have hfz36_2 := qF BK209.out 2
               have hcz37_0 : w17.cell? ⟨gb206, 0, none⟩ = some (.string a0_0) := (qE BK206.out 0).trans rfl
               have hcz37_1 : w17.cell? ⟨gb206, 1, none⟩ = some (.int .i64 a0_1) := (qE BK206.out 1).trans rfl
               have hcz37_2 : w17.cell? ⟨gb206, 2, none⟩ = some (.slice (some ad208) l0_2.length c0_2) := (qE BK206.out 2).trans rfl
               have hfz37_0 := qF BK206.out 0
               have hfz37_1 := qF BK206.out 1
               have hfz37_2 := qF BK206.out 2
               have p210 : 0 ≤ ((ji32) : Int) := of_decide_eq_true (by first | (with_reducible assumption) | assumption)
               have q210 : (ji32) < (l0_2.length : Int) := of_decide_eq_true (by first | (with_reducible assumption) | assumption)
               obtain ⟨ad210, e210, hx210_0, hx210_1, hx210_2⟩ := at_T30 HR0_2.out (ji32) p210 q210
               obtain rfl : ad208 = ad210 := (by injection e210)
               have hn210_0 : ad208.block ≠ gb209 := qN (qM (by have := qO _ _ hx210_0; first | rwa [qP] at this | exact this) GW209.out)
               have hn210_1 : ad208.block ≠ gb209 := qN (qM (by have := qO _ _ hx210_0; first | rwa [qP] at this | exact this) GW209.out)
               have hn210_2 : ad208.block ≠ gb209 := qN (qM (by have := qO _ _ hx210_0; first | rwa [qP] at this | exact this) GW209.out)
               replace hx210_0 := (HB.out.cell (qO w _ hx210_0)).trans hx210_0
               replace hx210_1 := (HB.out.cell (qO w _ hx210_1)).trans hx210_1
               replace hx210_2 := (HB.out.cell (qO w _ hx210_2)).trans hx210_2
               replace hx210_0 := (cell_far (p := ⟨gb209, 0, none⟩) (by first | (rw [qP]; exact hn210_0) | (show (Addr.add _ _).block ≠ _; rw [qP]; exact hn210_0) | exact hn210_0) (.int .i64 ((rd_T30 l0_2 x3_2).f0))).trans hx210_0
               replace hx210_1 := (cell_far (p := ⟨gb209, 0, none⟩) (by first | (rw [qP]; exact hn210_0) | (show (Addr.add _ _).block ≠ _; rw [qP]; exact hn210_0) | exact hn210_0) (.int .i64 ((rd_T30 l0_2 x3_2).f0))).trans hx210_1
               replace hx210_2 := (cell_far (p := ⟨gb209, 0, none⟩) (by first | (rw [qP]; exact hn210_0) | (show (Addr.add _ _).block ≠ _; rw [qP]; exact hn210_0) | exact hn210_0) (.int .i64 ((rd_T30 l0_2 x3_2).f0))).trans hx210_2
               replace hx210_0 := (cell_far (p := ⟨gb209, 1, none⟩) (by first | (rw [qP]; exact hn210_1) | (show (Addr.add _ _).block ≠ _; rw [qP]; exact hn210_1) | exact hn210_1) (.int .u32 ((rd_T30 l0_2 x3_2).f1))).trans hx210_0
               replace hx210_1 := (cell_far (p := ⟨gb209, 1, none⟩) (by first | (rw [qP]; exact hn210_1) | (show (Addr.add _ _).block ≠ _; rw [qP]; exact hn210_1) | exact hn210_1) (.int .u32 ((rd_T30 l0_2 x3_2).f1))).trans hx210_1
               replace hx210_2 := (cell_far (p := ⟨gb209, 1, none⟩) (by first | (rw [qP]; exact hn210_1) | (show (Addr.add _ _).block ≠ _; rw [qP]; exact hn210_1) | exact hn210_1) (.int .u32 ((rd_T30 l0_2 x3_2).f1))).trans hx210_2
               replace hx210_0 := (cell_far (p := ⟨gb209, 2, none⟩) (by first | (rw [qP]; exact hn210_2) | (show (Addr.add _ _).block ≠ _; rw [qP]; exact hn210_2) | exact hn210_2) (.bool ((rd_T30 l0_2 x3_2).f2))).trans hx210_0
               replace hx210_1 := (cell_far (p := ⟨gb209, 2, none⟩) (by first | (rw [qP]; exact hn210_2) | (show (Addr.add _ _).block ≠ _; rw [qP]; exact hn210_2) | exact hn210_2) (.bool ((rd_T30 l0_2 x3_2).f2))).trans hx210_1
               replace hx210_2 := (cell_far (p := ⟨gb209, 2, none⟩) (by first | (rw [qP]; exact hn210_2) | (show (Addr.add _ _).block ≠ _; rw [qP]; exact hn210_2) | exact hn210_2) (.bool ((rd_T30 l0_2 x3_2).f2))).trans hx210_2
               (try have hy210_0 := fun (n_ : Nat) => (show (((((w17.drewN n_).setCell ⟨gb209, 0, none⟩ (.int .i64 ((rd_T30 l0_2 x3_2).f0))).setCell ⟨gb209, 1, none⟩ (.int .u32 ((rd_T30 l0_2 x3_2).f1))).setCell ⟨gb209, 2, none⟩ (.bool ((rd_T30 l0_2 x3_2).f2)))).cell? _ = some _ from hx210_0))
               (try have hy210_1 := fun (n_ : Nat) => (show (((((w17.drewN n_).setCell ⟨gb209, 0, none⟩ (.int .i64 ((rd_T30 l0_2 x3_2).f0))).setCell ⟨gb209, 1, none⟩ (.int .u32 ((rd_T30 l0_2 x3_2).f1))).setCell ⟨gb209, 2, none⟩ (.bool ((rd_T30 l0_2 x3_2).f2)))).cell? _ = some _ from hx210_1))
               (try have hy210_2 := fun (n_ : Nat) => (show (((((w17.drewN n_).setCell ⟨gb209, 0, none⟩ (.int .i64 ((rd_T30 l0_2 x3_2).f0))).setCell ⟨gb209, 1, none⟩ (.int .u32 ((rd_T30 l0_2 x3_2).f1))).setCell ⟨gb209, 2, none⟩ (.bool ((rd_T30 l0_2 x3_2).f2)))).cell? _ = some _ from hx210_2))
               clear hn210_0
               clear hn210_1
               clear hn210_2
               replace p210 := eq_true p210
               replace q210 := eq_true q210
               go_wp2
               repeat (go_quiet (fail); try go_wp2)
               go_meet
               case rel => exact ⟨_, (decide (((rd_T30 l0_2 (ji32)).f0) ≥ ((rd_T30 l0_2 x3_2).f0))), (by first | rfl | (simp; done) | (simp only [← hji32] <;> (first | rfl | simp)) | (simp [*]; done)), H', ⟨by have := HJ1.out; have := HK2.out; first | omega | exact Nat.le_refl _⟩, ⟨by (with_reducible repeat first | apply qA | apply qC | apply qB); refine qG ?_ NB206_209.out _; (with_reducible repeat first | apply qA | apply qC | apply qB); refine qG ?_ NB206_209.out _; (with_reducible repeat first | apply qA | apply qC | apply qB); refine qG ?_ NB206_209.out _; (with_reducible repeat first | apply qA | apply qC | apply qB); exact BK206.out⟩, ⟨by (with_reducible repeat first | apply qA | apply qC | apply qB); refine blk_put (cs := #[.int .i64 ((rd_T30 l0_2 x3_2).f0), .int .u32 ((rd_T30 l0_2 x3_2).f1), .bool false]) ?_ 2 _ rfl; (with_reducible repeat first | apply qA | apply qC | apply qB); refine blk_put (cs := #[.int .i64 ((rd_T30 l0_2 x3_2).f0), .int .u32 0, .bool false]) ?_ 1 _ rfl; (with_reducible repeat first | apply qA | apply qC | apply qB); refine blk_put (cs := #[.int .i64 0, .int .u32 0, .bool false]) ?_ 0 _ rfl; (with_reducible repeat first | apply qA | apply qC | apply qB); exact BK209.out⟩, ⟨by repeat (first | (with_reducible first | exact HB.out | apply qL | apply qJ | apply qK | refine qI ?_ GE206.out | refine qI ?_ GE209.out) | exact HB.out)⟩⟩
              ·rw [if_neg c34] at H
               exact absurd H (by simp)
             ·rw [if_neg c33] at H
              exact absurd H (by simp)
            ·rw [if_neg c31] at H
             have c31b0 : decide (0 < x3_2) = false := decide_eq_false c31
             clear c31
             have H' := qH H
             clear H
             have hnb38 := NB209_206.out
             have hnc38 := NB206_209.out
             have hcz39_0 : w17.cell? ⟨gb209, 0, none⟩ = some (.int .i64 0) := (qE BK209.out 0).trans rfl
             have hcz39_1 : w17.cell? ⟨gb209, 1, none⟩ = some (.int .u32 0) := (qE BK209.out 1).trans rfl
             have hcz39_2 : w17.cell? ⟨gb209, 2, none⟩ = some (.bool false) := (qE BK209.out 2).trans rfl
             have hfz39_0 := qF BK209.out 0
             have hfz39_1 := qF BK209.out 1
             have hfz39_2 := qF BK209.out 2
             have hcz40_0 : w17.cell? ⟨gb206, 0, none⟩ = some (.string a0_0) := (qE BK206.out 0).trans rfl
             have hcz40_1 : w17.cell? ⟨gb206, 1, none⟩ = some (.int .i64 a0_1) := (qE BK206.out 1).trans rfl
             have hcz40_2 : w17.cell? ⟨gb206, 2, none⟩ = some (.slice (some ad208) l0_2.length c0_2) := (qE BK206.out 2).trans rfl
             have hfz40_0 := qF BK206.out 0
             have hfz40_1 := qF BK206.out 1
             have hfz40_2 := qF BK206.out 2
             go_wp2
             repeat (go_quiet (fail); try go_wp2)
             go_meet
             case rel => exact ⟨_, (false), (by first | rfl | (simp; done) | (simp [*]; done)), H', ⟨by have := HJ1.out; have := HK2.out; first | omega | exact Nat.le_refl _⟩, ⟨by (with_reducible repeat first | apply qA | apply qC | apply qB); refine qG ?_ NB206_209.out _; (with_reducible repeat first | apply qA | apply qC | apply qB); refine qG ?_ NB206_209.out _; (with_reducible repeat first | apply qA | apply qC | apply qB); refine qG ?_ NB206_209.out _; (with_reducible repeat first | apply qA | apply qC | apply qB); exact BK206.out⟩, ⟨by (with_reducible repeat first | apply qA | apply qC | apply qB); refine blk_put (cs := #[.int .i64 ((rd_T30 l0_2 x3_2).f0), .int .u32 ((rd_T30 l0_2 x3_2).f1), .bool false]) ?_ 2 _ rfl; (with_reducible repeat first | apply qA | apply qC | apply qB); refine blk_put (cs := #[.int .i64 ((rd_T30 l0_2 x3_2).f0), .int .u32 0, .bool false]) ?_ 1 _ rfl; (with_reducible repeat first | apply qA | apply qC | apply qB); refine blk_put (cs := #[.int .i64 0, .int .u32 0, .bool false]) ?_ 0 _ rfl; (with_reducible repeat first | apply qA | apply qC | apply qB); exact BK209.out⟩, ⟨by repeat (first | (with_reducible first | exact HB.out | apply qL | apply qJ | apply qK | refine qI ?_ GE206.out | refine qI ?_ GE209.out) | exact HB.out)⟩⟩
        case rest =>
         clear HC15
         try clear c1
         try clear c2
         try clear p2
         try clear q2
         try clear hx2
         try clear c3
         try clear c5
         try clear c6
         try clear c6b0
         try clear p6
         try clear c8
         try clear c8b0
         try clear c12
         try clear c13
         try clear c13b0
         try clear c14
         try clear c14b0
         try clear c18
         try clear c20
         try clear c20b0
         try clear p20
         try clear q20
         try clear hx20
         try clear c21
         try clear p21
         try clear q21
         try clear hx21
         try clear c23
         try clear c23b0
         try clear c24
         try clear c27
         try clear c27b0
         try clear c27b1
         try clear c28
         try clear c29
         try clear c31
         try clear c31b0
         try clear c33
         try clear c33b0
         try clear c34
         try clear c34b0
         try clear c35
         try clear c38
         try clear hcz10_0
         try clear hcz10_1
         try clear hcz10_2
         try clear hcz11_0
         try clear hcz11_1
         try clear hcz11_2
         try clear hcz16_0
         try clear hcz16_1
         try clear hcz16_2
         try clear hcz19_0
         try clear hcz19_1
         try clear hcz19_2
         try clear hcz22_0
         try clear hcz22_1
         try clear hcz22_2
         try clear hcz25_0
         try clear hcz25_1
         try clear hcz25_2
         try clear hcz26_0
         try clear hcz26_1
         try clear hcz26_2
         try clear hcz29_0
         try clear hcz29_1
         try clear hcz29_2
         try clear hcz30_0
         try clear hcz30_1
         try clear hcz30_2
         try clear hcz36_0
         try clear hcz36_1
         try clear hcz36_2
         try clear hcz37_0
         try clear hcz37_1
         try clear hcz37_2
         try clear hcz39_0
         try clear hcz39_1
         try clear hcz39_2
         try clear hcz40_0
         try clear hcz40_1
         try clear hcz40_2
         try clear hcz7_0
         try clear hcz7_1
         try clear hcz7_2
         try clear hcz9_0
         try clear hcz9_1
         try clear hcz9_2
         try clear hfz10_0
         try clear hfz10_1
         try clear hfz10_2
         try clear hfz11_0
         try clear hfz11_1
         try clear hfz11_2
         try clear hfz16_0
         try clear hfz16_1
         try clear hfz16_2
         try clear hfz19_0
         try clear hfz19_1
         try clear hfz19_2
         try clear hfz22_0
         try clear hfz22_1
         try clear hfz22_2
         try clear hfz25_0
         try clear hfz25_1
         try clear hfz25_2
         try clear hfz26_0
         try clear hfz26_1
         try clear hfz26_2
         try clear hfz29_0
         try clear hfz29_1
         try clear hfz29_2
         try clear hfz30_0
         try clear hfz30_1
         try clear hfz30_2
         try clear hfz36_0
         try clear hfz36_1
         try clear hfz36_2
         try clear hfz37_0
         try clear hfz37_1
         try clear hfz37_2
         try clear hfz39_0
         try clear hfz39_1
         try clear hfz39_2
         try clear hfz40_0
         try clear hfz40_1
         try clear hfz40_2
         try clear hfz7_0
         try clear hfz7_1
         try clear hfz7_2
         try clear hfz9_0
         try clear hfz9_1
         try clear hfz9_2
         try clear hx208_0
         try clear hx208_1
         try clear hx208_2
         try clear hx210_0
         try clear hx210_1
         try clear hx210_2
         try clear p2
         try clear p208
         try clear p210
         try clear q208
         try clear q210
         obtain ⟨kq, x68_14, rfl, HA, HJ14, BK206, BK209, HB⟩ := hcut
         cases kq with
         | zero => exact absurd HA.out (by simp [codicilref18_May.j2])
         | succ kj14 =>
          have H := HA.out
          clear HA
          simp only [codicilref18_May.j2] at H
          by_cases c41 : x68_14 = true
          ·subst c41
           have H1 : (some 8) = some r := by rw [if_pos rfl] at H; exact H
           clear H
           have H := H1
           clear H1
           obtain rfl := Option.some.inj H
           simp only [Option.some.injEq, Prod.mk.injEq] at H
           obtain ⟨rfl⟩ := H
           go_wp2
           repeat (go_quiet (fail); try go_wp2)
           go_ret
           exact ⟨by first | rfl | (simp [errW_none, errW_some] <;> rfl) | (simp [*, errW_none, errW_some] <;> rfl), by repeat (first | (with_reducible first | exact HB.out | apply qL | apply qJ | apply qK | refine qI ?_ GE206.out | refine qI ?_ GE209.out) | exact HB.out)⟩
          ·replace c41 := Bool.eq_false_iff.mpr c41
           subst c41
           have H1 : (codicilref18_May.l1 kj14 x3_2 0 a0_0 a0_1 l0_2 ((rd_T30 l0_2 x3_2).f0) ((rd_T30 l0_2 x3_2).f1) ((rd_T30 l0_2 x3_2).f2)) = some r := by rw [if_neg (show ¬ (false = true) by decide)] at H; exact H
           clear H
           have H := H1
           clear H1
           have H' := qH H
           clear H
           go_wp2
           repeat (go_quiet (fail); try go_wp2)
           go_loopg [5] kj14 (fun kq v5 w' => ∃ (x5_4 : Int), v5 = .int .i64 x5_4 ∧ Aside0 (codicilref18_May.l1 kq x3_2 x5_4 a0_0 a0_1 l0_2 ((rd_T30 l0_2 x3_2).f0) ((rd_T30 l0_2 x3_2).f1) ((rd_T30 l0_2 x3_2).f2) = some r) ∧ Aside0 (kq ≤ kj14) ∧ Aside0 (w'.heap[gb206]? = some (.cells #[.string a0_0, .int .i64 a0_1, (.slice (some ad208) l0_2.length c0_2)] 24 (0, 0))) ∧ Aside0 (w'.heap[gb209]? = some (.cells #[.int .i64 ((rd_T30 l0_2 x3_2).f0), .int .u32 ((rd_T30 l0_2 x3_2).f1), .bool ((rd_T30 l0_2 x3_2).f2)] 30 (0, 0))) ∧ Aside0 (Below w.heap.size w w'))
           case atStart => exact ⟨(0), (by first | rfl | (simp; done) | (simp [*]; done)), H', ⟨Nat.le_refl _⟩, ⟨by (with_reducible repeat first | apply qA | apply qC | apply qB); exact BK206.out⟩, ⟨by (with_reducible repeat first | apply qA | apply qC | apply qB); exact BK209.out⟩, ⟨by repeat (first | (with_reducible first | exact HB.out | apply qL | apply qJ | apply qK | refine qI ?_ GE206.out | refine qI ?_ GE209.out) | exact HB.out)⟩⟩
           case round =>
            clear H'
            try clear c1
            try clear c2
            try clear p2
            try clear q2
            try clear hx2
            try clear c3
            try clear c4
            try clear c5
            try clear c6
            try clear c6b0
            try clear p6
            try clear c8
            try clear c8b0
            try clear c12
            try clear c13
            try clear c13b0
            try clear c14
            try clear c14b0
            try clear c18
            try clear c20
            try clear c20b0
            try clear p20
            try clear q20
            try clear hx20
            try clear c21
            try clear p21
            try clear q21
            try clear hx21
            try clear c23
            try clear c23b0
            try clear c24
            try clear c27
            try clear c27b0
            try clear c27b1
            try clear c28
            try clear c29
            try clear c31
            try clear c31b0
            try clear c33
            try clear c33b0
            try clear c34
            try clear c34b0
            try clear c35
            try clear c38
            try clear c41
            try clear hcz10_0
            try clear hcz10_1
            try clear hcz10_2
            try clear hcz11_0
            try clear hcz11_1
            try clear hcz11_2
            try clear hcz16_0
            try clear hcz16_1
            try clear hcz16_2
            try clear hcz19_0
            try clear hcz19_1
            try clear hcz19_2
            try clear hcz22_0
            try clear hcz22_1
            try clear hcz22_2
            try clear hcz25_0
            try clear hcz25_1
            try clear hcz25_2
            try clear hcz26_0
            try clear hcz26_1
            try clear hcz26_2
            try clear hcz29_0
            try clear hcz29_1
            try clear hcz29_2
            try clear hcz30_0
            try clear hcz30_1
            try clear hcz30_2
            try clear hcz36_0
            try clear hcz36_1
            try clear hcz36_2
            try clear hcz37_0
            try clear hcz37_1
            try clear hcz37_2
            try clear hcz39_0
            try clear hcz39_1
            try clear hcz39_2
            try clear hcz40_0
            try clear hcz40_1
            try clear hcz40_2
            try clear hcz7_0
            try clear hcz7_1
            try clear hcz7_2
            try clear hcz9_0
            try clear hcz9_1
            try clear hcz9_2
            try clear hfz10_0
            try clear hfz10_1
            try clear hfz10_2
            try clear hfz11_0
            try clear hfz11_1
            try clear hfz11_2
            try clear hfz16_0
            try clear hfz16_1
            try clear hfz16_2
            try clear hfz19_0
            try clear hfz19_1
            try clear hfz19_2
            try clear hfz22_0
            try clear hfz22_1
            try clear hfz22_2
            try clear hfz25_0
            try clear hfz25_1
            try clear hfz25_2
            try clear hfz26_0
            try clear hfz26_1
            try clear hfz26_2
            try clear hfz29_0
            try clear hfz29_1
            try clear hfz29_2
            try clear hfz30_0
            try clear hfz30_1
            try clear hfz30_2
            try clear hfz36_0
            try clear hfz36_1
            try clear hfz36_2
            try clear hfz37_0
            try clear hfz37_1
            try clear hfz37_2
            try clear hfz39_0
            try clear hfz39_1
            try clear hfz39_2
            try clear hfz40_0
            try clear hfz40_1
            try clear hfz40_2
            try clear hfz7_0
            try clear hfz7_1
            try clear hfz7_2
            try clear hfz9_0
            try clear hfz9_1
            try clear hfz9_2
            try clear hx208_0
            try clear hx208_1
            try clear hx208_2
            try clear hx210_0
            try clear hx210_1
            try clear hx210_2
            try clear p2
            try clear p20
            try clear p208
            try clear p21
            try clear p210
            try clear p6
            try clear q2
            try clear q20
            try clear q208
            try clear q21
            try clear q210
            obtain ⟨x5_4, rfl, HA, HK4, BK206, BK209, HB⟩ := hrel
            cases gk with
            | zero => exact absurd HA.out (by simp [codicilref18_May.l1])
            | succ k4 =>
             have H := HA.out
             clear HA
             simp only [codicilref18_May.l1] at H
             by_cases c42 : x5_4 < x3_2
             ·rw [if_pos c42] at H
              have c42b0 : decide (x5_4 < x3_2) = true := decide_eq_true c42
              clear c42
              by_cases c43 : ((rd_T30 l0_2 x3_2).f2) = true
              ·rw [if_pos c43] at H
               have c43b0 : ((rd_T30 l0_2 x3_2).f2) = true := c43
               clear c43
               have H' := qH H
               clear H
               have hnb44 := NB209_206.out
               have hnc44 := NB206_209.out
               have hcz45_0 : wr.cell? ⟨gb209, 0, none⟩ = some (.int .i64 ((rd_T30 l0_2 x3_2).f0)) := (qE BK209.out 0).trans rfl
               have hcz45_1 : wr.cell? ⟨gb209, 1, none⟩ = some (.int .u32 ((rd_T30 l0_2 x3_2).f1)) := (qE BK209.out 1).trans rfl
               have hcz45_2 : wr.cell? ⟨gb209, 2, none⟩ = some (.bool ((rd_T30 l0_2 x3_2).f2)) := (qE BK209.out 2).trans rfl
               have hfz45_0 := qF BK209.out 0
               have hfz45_1 := qF BK209.out 1
               have hfz45_2 := qF BK209.out 2
               go_wp2
               repeat (go_quiet (fail); try go_wp2)
               go_roundg k4
               case measure => have := HJ1.out; have := HK2.out; have := HJ14.out; have := HK4.out; omega
               case rel => exact ⟨(wrap64 (x5_4 + 1)), (by first | rfl | (simp; done) | (simp [*]; done)), H', ⟨by have := HJ1.out; have := HK2.out; have := HJ14.out; have := HK4.out; omega⟩, ⟨by (with_reducible repeat first | apply qA | apply qC | apply qB); exact BK206.out⟩, ⟨by (with_reducible repeat first | apply qA | apply qC | apply qB); exact BK209.out⟩, ⟨by repeat (first | (with_reducible first | exact HB.out | apply qL | apply qJ | apply qK | refine qI ?_ GE206.out | refine qI ?_ GE209.out) | exact HB.out)⟩⟩
              ·rw [if_neg c43] at H
               have c43b0 : ((rd_T30 l0_2 x3_2).f2) = false := by simpa using c43
               clear c43
               by_cases c46 : 0 ≤ x5_4
               ·rw [if_pos c46] at H
                have c46b0 : decide (0 ≤ x5_4) = true := decide_eq_true c46
                clear c46
                by_cases c47 : x5_4 < (l0_2.length : Int)
                ·rw [if_pos c47] at H
                 have c47b0 : decide (x5_4 < (l0_2.length : Int)) = true := decide_eq_true c47
                 clear c47
                 obtain ⟨bq48, hbq48⟩ : ∃ b_ : Bool, b_ = ((rd_T30 l0_2 x5_4).f2) := ⟨_, rfl⟩
                 replace H : (if (bq48 = true) then (codicilref18_May.l1 k4 x3_2 (wrap64 (x5_4 + 1)) a0_0 a0_1 l0_2 ((rd_T30 l0_2 x3_2).f0) ((rd_T30 l0_2 x3_2).f1) ((rd_T30 l0_2 x3_2).f2)) else (if ((rd_T30 l0_2 x5_4).f1) = ((rd_T30 l0_2 x3_2).f1) then (some 8) else (codicilref18_May.l1 k4 x3_2 (wrap64 (x5_4 + 1)) a0_0 a0_1 l0_2 ((rd_T30 l0_2 x3_2).f0) ((rd_T30 l0_2 x3_2).f1) ((rd_T30 l0_2 x3_2).f2)))) = some r := by rw [← hbq48] at H; exact H
                 have Nbq48 := qH hbq48
                 clear hbq48
                 by_cases c49 : (bq48 = true)
                 ·subst c49
                  have H1 : (codicilref18_May.l1 k4 x3_2 (wrap64 (x5_4 + 1)) a0_0 a0_1 l0_2 ((rd_T30 l0_2 x3_2).f0) ((rd_T30 l0_2 x3_2).f1) ((rd_T30 l0_2 x3_2).f2)) = some r := by rw [if_pos rfl] at H; exact H
                  clear H
                  have H := H1
                  clear H1
                  have H' := qH H
                  clear H
                  have hnb50 := NB209_206.out
                  have hnc50 := NB206_209.out
                  have hcz51_0 : wr.cell? ⟨gb209, 0, none⟩ = some (.int .i64 ((rd_T30 l0_2 x3_2).f0)) := (qE BK209.out 0).trans rfl
                  have hcz51_1 : wr.cell? ⟨gb209, 1, none⟩ = some (.int .u32 ((rd_T30 l0_2 x3_2).f1)) := (qE BK209.out 1).trans rfl
                  have hcz51_2 : wr.cell? ⟨gb209, 2, none⟩ = some (.bool ((rd_T30 l0_2 x3_2).f2)) := (qE BK209.out 2).trans rfl
                  have hfz51_0 := qF BK209.out 0
                  have hfz51_1 := qF BK209.out 1
                  have hfz51_2 := qF BK209.out 2
                  have hcz52_0 : wr.cell? ⟨gb206, 0, none⟩ = some (.string a0_0) := (qE BK206.out 0).trans rfl
                  have hcz52_1 : wr.cell? ⟨gb206, 1, none⟩ = some (.int .i64 a0_1) := (qE BK206.out 1).trans rfl
                  have hcz52_2 : wr.cell? ⟨gb206, 2, none⟩ = some (.slice (some ad208) l0_2.length c0_2) := (qE BK206.out 2).trans rfl
                  have hfz52_0 := qF BK206.out 0
                  have hfz52_1 := qF BK206.out 1
                  have hfz52_2 := qF BK206.out 2
                  have p211 : 0 ≤ (x5_4 : Int) := of_decide_eq_true (by first | (with_reducible assumption) | assumption)
                  have q211 : x5_4 < (l0_2.length : Int) := of_decide_eq_true (by first | (with_reducible assumption) | assumption)
                  obtain ⟨ad211, e211, hx211_0, hx211_1, hx211_2⟩ := at_T30 HR0_2.out x5_4 p211 q211
                  (try rw [← Nbq48.out] at hx211_2)
                  obtain rfl : ad208 = ad211 := (by injection e211)
                  replace hx211_0 := (HB.out.cell (qO w _ hx211_0)).trans hx211_0
                  replace hx211_1 := (HB.out.cell (qO w _ hx211_1)).trans hx211_1
                  replace hx211_2 := (HB.out.cell (qO w _ hx211_2)).trans hx211_2
                  replace p211 := eq_true p211
                  replace q211 := eq_true q211
                  go_wp2
                  repeat (go_quiet (fail); try go_wp2)
                  go_roundg k4
                  case measure => have := HJ1.out; have := HK2.out; have := HJ14.out; have := HK4.out; omega
                  case rel => exact ⟨(wrap64 (x5_4 + 1)), (by first | rfl | (simp; done) | (simp [*]; done)), H', ⟨by have := HJ1.out; have := HK2.out; have := HJ14.out; have := HK4.out; omega⟩, ⟨by (with_reducible repeat first | apply qA | apply qC | apply qB); exact BK206.out⟩, ⟨by (with_reducible repeat first | apply qA | apply qC | apply qB); exact BK209.out⟩, ⟨by repeat (first | (with_reducible first | exact HB.out | apply qL | apply qJ | apply qK | refine qI ?_ GE206.out | refine qI ?_ GE209.out) | exact HB.out)⟩⟩
                 ·replace c49 := Bool.eq_false_iff.mpr c49
                  subst c49
                  have H1 : (if ((rd_T30 l0_2 x5_4).f1) = ((rd_T30 l0_2 x3_2).f1) then (some 8) else (codicilref18_May.l1 k4 x3_2 (wrap64 (x5_4 + 1)) a0_0 a0_1 l0_2 ((rd_T30 l0_2 x3_2).f0) ((rd_T30 l0_2 x3_2).f1) ((rd_T30 l0_2 x3_2).f2))) = some r := by rw [if_neg (show ¬ (false = true) by decide)] at H; exact H
                  clear H
                  have H := H1
                  clear H1
                  by_cases c53 : ((rd_T30 l0_2 x5_4).f1) = ((rd_T30 l0_2 x3_2).f1)
                  ·rw [if_pos c53] at H
                   have c53b0 : (((rd_T30 l0_2 x5_4).f1) == ((rd_T30 l0_2 x3_2).f1)) = true := beq_iff_eq.mpr c53
                   have c53b1 : (((rd_T30 l0_2 x5_4).f1) != ((rd_T30 l0_2 x3_2).f1)) = false := bne_eq_false_iff_eq.mpr c53
                   clear c53
                   obtain rfl := Option.some.inj H
                   simp only [Option.some.injEq, Prod.mk.injEq] at H
                   obtain ⟨rfl⟩ := H
                   have hnb54 := NB209_206.out
                   have hnc54 := NB206_209.out
                   have hcz55_0 : wr.cell? ⟨gb209, 0, none⟩ = some (.int .i64 ((rd_T30 l0_2 x3_2).f0)) := (qE BK209.out 0).trans rfl
                   have hcz55_1 : wr.cell? ⟨gb209, 1, none⟩ = some (.int .u32 ((rd_T30 l0_2 x3_2).f1)) := (qE BK209.out 1).trans rfl
                   have hcz55_2 : wr.cell? ⟨gb209, 2, none⟩ = some (.bool ((rd_T30 l0_2 x3_2).f2)) := (qE BK209.out 2).trans rfl
                   have hfz55_0 := qF BK209.out 0
                   have hfz55_1 := qF BK209.out 1
                   have hfz55_2 := qF BK209.out 2
                   have hcz56_0 : wr.cell? ⟨gb206, 0, none⟩ = some (.string a0_0) := (qE BK206.out 0).trans rfl
                   have hcz56_1 : wr.cell? ⟨gb206, 1, none⟩ = some (.int .i64 a0_1) := (qE BK206.out 1).trans rfl
                   have hcz56_2 : wr.cell? ⟨gb206, 2, none⟩ = some (.slice (some ad208) l0_2.length c0_2) := (qE BK206.out 2).trans rfl
                   have hfz56_0 := qF BK206.out 0
                   have hfz56_1 := qF BK206.out 1
                   have hfz56_2 := qF BK206.out 2
                   have p211 : 0 ≤ (x5_4 : Int) := of_decide_eq_true (by first | (with_reducible assumption) | assumption)
                   have q211 : x5_4 < (l0_2.length : Int) := of_decide_eq_true (by first | (with_reducible assumption) | assumption)
                   obtain ⟨ad211, e211, hx211_0, hx211_1, hx211_2⟩ := at_T30 HR0_2.out x5_4 p211 q211
                   (try rw [← Nbq48.out] at hx211_2)
                   obtain rfl : ad208 = ad211 := (by injection e211)
                   replace hx211_0 := (HB.out.cell (qO w _ hx211_0)).trans hx211_0
                   replace hx211_1 := (HB.out.cell (qO w _ hx211_1)).trans hx211_1
                   replace hx211_2 := (HB.out.cell (qO w _ hx211_2)).trans hx211_2
                   replace p211 := eq_true p211
                   replace q211 := eq_true q211
                   have p212 : 0 ≤ (x5_4 : Int) := of_decide_eq_true (by first | (with_reducible assumption) | assumption)
                   have q212 : x5_4 < (l0_2.length : Int) := of_decide_eq_true (by first | (with_reducible assumption) | assumption)
                   obtain ⟨ad212, e212, hx212_0, hx212_1, hx212_2⟩ := at_T30 HR0_2.out x5_4 p212 q212
                   (try rw [← Nbq48.out] at hx212_2)
                   obtain rfl : ad208 = ad212 := (by injection e212)
                   replace hx212_0 := (HB.out.cell (qO w _ hx212_0)).trans hx212_0
                   replace hx212_1 := (HB.out.cell (qO w _ hx212_1)).trans hx212_1
                   replace hx212_2 := (HB.out.cell (qO w _ hx212_2)).trans hx212_2
                   replace p212 := eq_true p212
                   replace q212 := eq_true q212
                   go_wp2
                   repeat (go_quiet (fail); try go_wp2)
                   go_ret
                   exact ⟨by first | rfl | (simp [errW_none, errW_some] <;> rfl) | (simp [*, errW_none, errW_some] <;> rfl), by repeat (first | (with_reducible first | exact HB.out | apply qL | apply qJ | apply qK | refine qI ?_ GE206.out | refine qI ?_ GE209.out) | exact HB.out)⟩
                  ·rw [if_neg c53] at H
                   have c53b0 : (((rd_T30 l0_2 x5_4).f1) == ((rd_T30 l0_2 x3_2).f1)) = false := beq_eq_false_iff_ne.mpr c53
                   have c53b1 : (((rd_T30 l0_2 x5_4).f1) != ((rd_T30 l0_2 x3_2).f1)) = true := bne_iff_ne.mpr c53
                   have H' := qH H
                   clear H
                   have hnb57 := NB209_206.out
                   have hnc57 := NB206_209.out
                   have hcz58_0 : wr.cell? ⟨gb209, 0, none⟩ = some (.int .i64 ((rd_T30 l0_2 x3_2).f0)) := (qE BK209.out 0).trans rfl
                   have hcz58_1 : wr.cell? ⟨gb209, 1, none⟩ = some (.int .u32 ((rd_T30 l0_2 x3_2).f1)) := (qE BK209.out 1).trans rfl
                   have hcz58_2 : wr.cell? ⟨gb209, 2, none⟩ = some (.bool ((rd_T30 l0_2 x3_2).f2)) := (qE BK209.out 2).trans rfl
                   have hfz58_0 := qF BK209.out 0
                   have hfz58_1 := qF BK209.out 1
                   have hfz58_2 := qF BK209.out 2
                   have hcz59_0 : wr.cell? ⟨gb206, 0, none⟩ = some (.string a0_0) := (qE BK206.out 0).trans rfl
                   have hcz59_1 : wr.cell? ⟨gb206, 1, none⟩ = some (.int .i64 a0_1) := (qE BK206.out 1).trans rfl
                   have hcz59_2 : wr.cell? ⟨gb206, 2, none⟩ = some (.slice (some ad208) l0_2.length c0_2) := (qE BK206.out 2).trans rfl
                   have hfz59_0 := qF BK206.out 0
                   have hfz59_1 := qF BK206.out 1
                   have hfz59_2 := qF BK206.out 2
                   have p211 : 0 ≤ (x5_4 : Int) := of_decide_eq_true (by first | (with_reducible assumption) | assumption)
                   have q211 : x5_4 < (l0_2.length : Int) := of_decide_eq_true (by first | (with_reducible assumption) | assumption)
                   obtain ⟨ad211, e211, hx211_0, hx211_1, hx211_2⟩ := at_T30 HR0_2.out x5_4 p211 q211
                   (try rw [← Nbq48.out] at hx211_2)
                   obtain rfl : ad208 = ad211 := (by injection e211)
                   replace hx211_0 := (HB.out.cell (qO w _ hx211_0)).trans hx211_0
                   replace hx211_1 := (HB.out.cell (qO w _ hx211_1)).trans hx211_1
                   replace hx211_2 := (HB.out.cell (qO w _ hx211_2)).trans hx211_2
                   replace p211 := eq_true p211
                   replace q211 := eq_true q211
                   have p212 : 0 ≤ (x5_4 : Int) := of_decide_eq_true (by first | (with_reducible assumption) | assumption)
                   have q212 : x5_4 < (l0_2.length : Int) := of_decide_eq_true (by first | (with_reducible assumption) | assumption)
                   obtain ⟨ad212, e212, hx212_0, hx212_1, hx212_2⟩ := at_T30 HR0_2.out x5_4 p212 q212
                   (try rw [← Nbq48.out] at hx212_2)
                   obtain rfl : ad208 = ad212 := (by injection e212)
                   replace hx212_0 := (HB.out.cell (qO w _ hx212_0)).trans hx212_0
                   replace hx212_1 := (HB.out.cell (qO w _ hx212_1)).trans hx212_1
                   replace hx212_2 := (HB.out.cell (qO w _ hx212_2)).trans hx212_2
                   replace p212 := eq_true p212
                   replace q212 := eq_true q212
                   go_wp2
                   repeat (go_quiet (fail); try go_wp2)
                   go_roundg k4
                   case measure => have := HJ1.out; have := HK2.out; have := HJ14.out; have := HK4.out; omega
                   case rel => exact ⟨(wrap64 (x5_4 + 1)), (by first | rfl | (simp; done) | (simp [*]; done)), H', ⟨by have := HJ1.out; have := HK2.out; have := HJ14.out; have := HK4.out; omega⟩, ⟨by (with_reducible repeat first | apply qA | apply qC | apply qB); exact BK206.out⟩, ⟨by (with_reducible repeat first | apply qA | apply qC | apply qB); exact BK209.out⟩, ⟨by repeat (first | (with_reducible first | exact HB.out | apply qL | apply qJ | apply qK | refine qI ?_ GE206.out | refine qI ?_ GE209.out) | exact HB.out)⟩⟩
                ·rw [if_neg c47] at H
                 exact absurd H (by simp)
               ·rw [if_neg c46] at H
                exact absurd H (by simp)
             ·rw [if_neg c42] at H
              have c42b0 : decide (x5_4 < x3_2) = false := decide_eq_false c42
              clear c42
              have H' := qH H
              clear H
              go_wp2
              repeat (go_quiet (fail); try go_wp2)
              go_roundg k4
              case measure => have := HJ1.out; have := HK2.out; have := HJ14.out; have := HK4.out; omega
              case rel => exact ⟨(wrap64 (x3_2 + 1)), (by first | rfl | (simp; done) | (simp [*]; done)), H', ⟨by have := HJ1.out; have := HK2.out; have := HJ14.out; have := HK4.out; omega⟩, ⟨by (with_reducible repeat first | apply qA | apply qC | apply qB); exact BK206.out⟩, ⟨by repeat (first | (with_reducible first | exact HB.out | apply qL | apply qJ | apply qK | refine qI ?_ GE206.out | refine qI ?_ GE209.out) | exact HB.out)⟩⟩
       ·rw [if_neg c14] at H
        exact absurd H (by simp)
      ·rw [if_neg c13] at H
       have c13b0 : decide (x3_2 < (l0_2.length : Int)) = false := decide_eq_false c13
       clear c13
       obtain rfl := Option.some.inj H
       simp only [Option.some.injEq, Prod.mk.injEq] at H
       obtain ⟨rfl⟩ := H
       have hcz60_0 : wr.cell? ⟨gb206, 0, none⟩ = some (.string a0_0) := (qE BK206.out 0).trans rfl
       have hcz60_1 : wr.cell? ⟨gb206, 1, none⟩ = some (.int .i64 a0_1) := (qE BK206.out 1).trans rfl
       have hcz60_2 : wr.cell? ⟨gb206, 2, none⟩ = some (.slice A0_2 l0_2.length c0_2) := (qE BK206.out 2).trans rfl
       have hfz60_0 := qF BK206.out 0
       have hfz60_1 := qF BK206.out 1
       have hfz60_2 := qF BK206.out 2
       go_wp2
       repeat (go_quiet (fail); try go_wp2)
       go_ret
       exact ⟨by first | rfl | (simp [errW_none, errW_some] <;> rfl) | (simp [*, errW_none, errW_some] <;> rfl), by repeat (first | (with_reducible first | exact HB.out | apply qL | apply qJ | apply qK | refine qI ?_ GE206.out) | exact HB.out)⟩

end Go.Proofs.Ytkcjekboakoejaa.Print
