-- Written by wip/tools/xprint.py of this session's repo (the kit's print, run with external functions). Lean checks it.
import Derived.Test.YtddjhmelniphgaaPrint0
import Derived.Test.YtddjhmelniphgaaPrint1
namespace Go.Proofs.Ytddjhmelniphgaa.Print
open Go.RowKit Go.Proofs.YtddjhmelniphgaaW.PrintWords Go.Proofs.YtddjhmelniphgaaW.PrintLast Go.Proofs.YtddjhmelniphgaaW.PrintMore
attribute [local go_sem] max2_int min2_int max_two min_two max_three min_three max_four min_four   -- for this text's walks alone
set_option linter.unusedVariables false
set_option linter.unusedSimpArgs false

attribute [local go_sem high] eqA24
/-! ### codicilref19_Less: function 12 -/
def codicilref19_Less.f (a0_0 : ByteArray) (a0_1 : Int) (a1_0 : ByteArray) (a1_1 : Int) : Option (Bool) := if (Op.bytesLess a0_0.toList a1_0.toList) = true then (some true) else (if a0_0.toList = a1_0.toList then (some (decide (a0_1 < a1_1))) else (some false))
set_option maxHeartbeats 8000000 in
set_option maxRecDepth 100000 in
theorem codicilref19_Less.calls (a0_0 : ByteArray) (a0_1 : Int) (a1_0 : ByteArray) (a1_1 : Int) (r : Bool) (w : World) (h : codicilref19_Less.f a0_0 a0_1 a1_0 a1_1 = some r) :
  Calls Try.prog 12 #[.agg #[.string a0_0, .int .i64 a0_1], .agg #[.string a1_0, .int .i64 a1_1]] w fun e w' => e = .returned (.bool r) ∧ Below w.heap.size w w' := by
 have hu24 := Try.underlying24
 have HB := qH (Below.refl w.heap.size w)
 have H : (if (Op.bytesLess a0_0.toList a1_0.toList) = true then (some true) else (if a0_0.toList = a1_0.toList then (some (decide (a0_1 < a1_1))) else (some false))) = some r := h
 clear h
 by_cases c3 : (Op.bytesLess a0_0.toList a1_0.toList) = true
 ·rw [if_pos c3] at H
  have c3b0 : (Op.bytesLess a0_0.toList a1_0.toList) = true := c3
  clear c3
  obtain rfl := Option.some.inj H
  simp only [Option.some.injEq, Prod.mk.injEq] at H
  obtain ⟨rfl⟩ := H
  go_enter Try.func12, Try.ntmps12
  go_wp2_with (first | ((with_reducible refine gate_dst (N := 2) rfl ?_); refine box_event ?hg (N := 2) ?hd (cs := #[.string a0_0, .int .i64 a0_1]) (t := 24) ?hr ?_; (case hd => rfl); (case hg => rfl); (case hr => first | (go_simp; done) | (go_simp; rfl) | (go_simp; simp [IntKind.wrap_u32]; done)); intro gb208 hg w4 hbox hb; have n0_ := qH (below_step (by repeat (first | (with_reducible first | exact HB.out | apply qL | apply qJ | apply qK) | exact HB.out)) hb); have n1_ := qH (hbox); have n2_ := qH ((by rw [hg]; exact (below_size (by repeat (first | (with_reducible first | exact HB.out | apply qL | apply qJ | apply qK) | exact HB.out))) : w.heap.size ≤ gb208)); have n3_ := n2_; clear HB; have HB := n0_; have BK208 := n1_; have GW208 := n2_; have GE208 := n3_; clear n0_ n1_ n2_ n3_; clear hb hbox hg) | ((with_reducible refine gate_dst (N := 3) rfl ?_); refine box_event ?hg (N := 3) ?hd (cs := #[.string a1_0, .int .i64 a1_1]) (t := 24) ?hr ?_; (case hd => rfl); (case hg => rfl); (case hr => first | (go_simp; done) | (go_simp; rfl) | (go_simp; simp [IntKind.wrap_u32]; done)); intro gb209 hg w5 hbox hb; have n0_ := qH (qD (g := gb208) (by (with_reducible repeat first | apply qA | apply qC | apply qB); exact BK208.out) hb); have n1_ := qH (below_step (by repeat (first | (with_reducible first | exact HB.out | apply qL | apply qJ | apply qK | refine qI ?_ GE208.out) | exact HB.out)) hb); have n2_ := qH (hbox); have n3_ := qH ((by rw [hg]; exact (below_size (by repeat (first | (with_reducible first | exact HB.out | apply qL | apply qJ | apply qK | refine qI ?_ GE208.out) | exact HB.out))) : w.heap.size ≤ gb209)); have n4_ := n3_; have n5_ := qH ((by rw [hg]; exact qN (blk_lt (g := gb208) (by (with_reducible repeat first | apply qA | apply qC | apply qB); exact BK208.out)) : gb208 ≠ gb209)); have n6_ := qH ((by rw [hg]; exact Nat.ne_of_gt (blk_lt (g := gb208) (by (with_reducible repeat first | apply qA | apply qC | apply qB); exact BK208.out)) : gb209 ≠ gb208)); clear BK208; clear HB; have BK208 := n0_; have HB := n1_; have BK209 := n2_; have GW209 := n3_; have GE209 := n4_; have NB208_209 := n5_; have NB209_208 := n6_; clear n0_ n1_ n2_ n3_ n4_ n5_ n6_; clear hb hbox hg; have hnb6 := NB208_209.out; have hnc6 := NB209_208.out; obtain ⟨hcz7_0, hcz7_1⟩ := qc2 BK208.out; obtain ⟨hfz7_0, hfz7_1⟩ := qf2 BK208.out; obtain ⟨hcz8_0, hcz8_1⟩ := qc2 BK209.out; obtain ⟨hfz8_0, hfz8_1⟩ := qf2 BK209.out))
  go_ret
  exact ⟨by first | rfl | (simp [errW_none, errW_some] <;> rfl) | (simp [*, errW_none, errW_some] <;> rfl), by repeat (first | (with_reducible first | exact HB.out | apply qL | apply qJ | apply qK | refine qI ?_ GE208.out | refine qI ?_ GE209.out) | exact HB.out)⟩
 ·rw [if_neg c3] at H
  have c3b0 : (Op.bytesLess a0_0.toList a1_0.toList) = false := by simpa using c3
  clear c3
  by_cases c9 : a0_0.toList = a1_0.toList
  ·rw [if_pos c9] at H
   have c9b0 : (a0_0.toList == a1_0.toList) = true := beq_iff_eq.mpr c9
   have c9b1 : (a0_0.toList != a1_0.toList) = false := bne_eq_false_iff_eq.mpr c9
   clear c9
   obtain rfl := Option.some.inj H
   simp only [Option.some.injEq, Prod.mk.injEq] at H
   obtain ⟨rfl⟩ := H
   go_enter Try.func12, Try.ntmps12
   go_wp2_with (first | ((with_reducible refine gate_dst (N := 2) rfl ?_); refine box_event ?hg (N := 2) ?hd (cs := #[.string a0_0, .int .i64 a0_1]) (t := 24) ?hr ?_; (case hd => rfl); (case hg => rfl); (case hr => first | (go_simp; done) | (go_simp; rfl) | (go_simp; simp [IntKind.wrap_u32]; done)); intro gb208 hg w10 hbox hb; have n0_ := qH (below_step (by repeat (first | (with_reducible first | exact HB.out | apply qL | apply qJ | apply qK) | exact HB.out)) hb); have n1_ := qH (hbox); have n2_ := qH ((by rw [hg]; exact (below_size (by repeat (first | (with_reducible first | exact HB.out | apply qL | apply qJ | apply qK) | exact HB.out))) : w.heap.size ≤ gb208)); have n3_ := n2_; clear HB; have HB := n0_; have BK208 := n1_; have GW208 := n2_; have GE208 := n3_; clear n0_ n1_ n2_ n3_; clear hb hbox hg) | ((with_reducible refine gate_dst (N := 3) rfl ?_); refine box_event ?hg (N := 3) ?hd (cs := #[.string a1_0, .int .i64 a1_1]) (t := 24) ?hr ?_; (case hd => rfl); (case hg => rfl); (case hr => first | (go_simp; done) | (go_simp; rfl) | (go_simp; simp [IntKind.wrap_u32]; done)); intro gb209 hg w11 hbox hb; have n0_ := qH (qD (g := gb208) (by (with_reducible repeat first | apply qA | apply qC | apply qB); exact BK208.out) hb); have n1_ := qH (below_step (by repeat (first | (with_reducible first | exact HB.out | apply qL | apply qJ | apply qK | refine qI ?_ GE208.out) | exact HB.out)) hb); have n2_ := qH (hbox); have n3_ := qH ((by rw [hg]; exact (below_size (by repeat (first | (with_reducible first | exact HB.out | apply qL | apply qJ | apply qK | refine qI ?_ GE208.out) | exact HB.out))) : w.heap.size ≤ gb209)); have n4_ := n3_; have n5_ := qH ((by rw [hg]; exact qN (blk_lt (g := gb208) (by (with_reducible repeat first | apply qA | apply qC | apply qB); exact BK208.out)) : gb208 ≠ gb209)); have n6_ := qH ((by rw [hg]; exact Nat.ne_of_gt (blk_lt (g := gb208) (by (with_reducible repeat first | apply qA | apply qC | apply qB); exact BK208.out)) : gb209 ≠ gb208)); clear BK208; clear HB; have BK208 := n0_; have HB := n1_; have BK209 := n2_; have GW209 := n3_; have GE209 := n4_; have NB208_209 := n5_; have NB209_208 := n6_; clear n0_ n1_ n2_ n3_ n4_ n5_ n6_; clear hb hbox hg; have hnb12 := NB208_209.out; have hnc12 := NB209_208.out; obtain ⟨hcz13_0, hcz13_1⟩ := qc2 BK208.out; obtain ⟨hfz13_0, hfz13_1⟩ := qf2 BK208.out; obtain ⟨hcz14_0, hcz14_1⟩ := qc2 BK209.out; obtain ⟨hfz14_0, hfz14_1⟩ := qf2 BK209.out))
   go_ret
   exact ⟨by first | rfl | (simp [errW_none, errW_some] <;> rfl) | (simp [*, errW_none, errW_some] <;> rfl), by repeat (first | (with_reducible first | exact HB.out | apply qL | apply qJ | apply qK | refine qI ?_ GE208.out | refine qI ?_ GE209.out) | exact HB.out)⟩
  ·rw [if_neg c9] at H
   have c9b0 : (a0_0.toList == a1_0.toList) = false := beq_eq_false_iff_ne.mpr c9
   have c9b1 : (a0_0.toList != a1_0.toList) = true := bne_iff_ne.mpr c9
   obtain rfl := Option.some.inj H
   simp only [Option.some.injEq, Prod.mk.injEq] at H
   obtain ⟨rfl⟩ := H
   go_enter Try.func12, Try.ntmps12
   go_wp2_with (first | ((with_reducible refine gate_dst (N := 2) rfl ?_); refine box_event ?hg (N := 2) ?hd (cs := #[.string a0_0, .int .i64 a0_1]) (t := 24) ?hr ?_; (case hd => rfl); (case hg => rfl); (case hr => first | (go_simp; done) | (go_simp; rfl) | (go_simp; simp [IntKind.wrap_u32]; done)); intro gb208 hg w15 hbox hb; have n0_ := qH (below_step (by repeat (first | (with_reducible first | exact HB.out | apply qL | apply qJ | apply qK) | exact HB.out)) hb); have n1_ := qH (hbox); have n2_ := qH ((by rw [hg]; exact (below_size (by repeat (first | (with_reducible first | exact HB.out | apply qL | apply qJ | apply qK) | exact HB.out))) : w.heap.size ≤ gb208)); have n3_ := n2_; clear HB; have HB := n0_; have BK208 := n1_; have GW208 := n2_; have GE208 := n3_; clear n0_ n1_ n2_ n3_; clear hb hbox hg) | ((with_reducible refine gate_dst (N := 3) rfl ?_); refine box_event ?hg (N := 3) ?hd (cs := #[.string a1_0, .int .i64 a1_1]) (t := 24) ?hr ?_; (case hd => rfl); (case hg => rfl); (case hr => first | (go_simp; done) | (go_simp; rfl) | (go_simp; simp [IntKind.wrap_u32]; done)); intro gb209 hg w16 hbox hb; have n0_ := qH (qD (g := gb208) (by (with_reducible repeat first | apply qA | apply qC | apply qB); exact BK208.out) hb); have n1_ := qH (below_step (by repeat (first | (with_reducible first | exact HB.out | apply qL | apply qJ | apply qK | refine qI ?_ GE208.out) | exact HB.out)) hb); have n2_ := qH (hbox); have n3_ := qH ((by rw [hg]; exact (below_size (by repeat (first | (with_reducible first | exact HB.out | apply qL | apply qJ | apply qK | refine qI ?_ GE208.out) | exact HB.out))) : w.heap.size ≤ gb209)); have n4_ := n3_; have n5_ := qH ((by rw [hg]; exact qN (blk_lt (g := gb208) (by (with_reducible repeat first | apply qA | apply qC | apply qB); exact BK208.out)) : gb208 ≠ gb209)); have n6_ := qH ((by rw [hg]; exact Nat.ne_of_gt (blk_lt (g := gb208) (by (with_reducible repeat first | apply qA | apply qC | apply qB); exact BK208.out)) : gb209 ≠ gb208)); clear BK208; clear HB; have BK208 := n0_; have HB := n1_; have BK209 := n2_; have GW209 := n3_; have GE209 := n4_; have NB208_209 := n5_; have NB209_208 := n6_; clear n0_ n1_ n2_ n3_ n4_ n5_ n6_; clear hb hbox hg; have hnb17 := NB208_209.out; have hnc17 := NB209_208.out; obtain ⟨hcz18_0, hcz18_1⟩ := qc2 BK208.out; obtain ⟨hfz18_0, hfz18_1⟩ := qf2 BK208.out; obtain ⟨hcz19_0, hcz19_1⟩ := qc2 BK209.out; obtain ⟨hfz19_0, hfz19_1⟩ := qf2 BK209.out))
   go_ret
   exact ⟨by first | rfl | (simp [errW_none, errW_some] <;> rfl) | (simp [*, errW_none, errW_some] <;> rfl), by repeat (first | (with_reducible first | exact HB.out | apply qL | apply qJ | apply qK | refine qI ?_ GE208.out | refine qI ?_ GE209.out) | exact HB.out)⟩

/-! ### codicilref19_at: function 28 -/
def codicilref19_at.l0 : Nat → List (S40) → Int → ByteArray → Int → Option (Int)
 | 0, _, _, _, _ => none
 | k + 1, x0, x5, x211000, x211001 => if x5 < (x0.length : Int) then (if 0 ≤ x5 then (if ((((rd_T40 x0 x5).f0.f0).toList) == x211000.toList && (((rd_T40 x0 x5).f0.f1) == x211001)) = true then (some x5) else (codicilref19_at.l0 k x0 (wrap64 (x5 + 1)) x211000 x211001)) else (none)) else (some (-1))
def codicilref19_at.f (k : Nat) (l0 : List (S40)) (a1_0 : ByteArray) (a1_1 : Int) : Option (Int) := codicilref19_at.l0 k l0 0 a1_0 a1_1
theorem codicilref19_at.mono_l : ∀ k, (∀ y0 y1 y2 y3, LeO (codicilref19_at.l0 k y0 y1 y2 y3) (codicilref19_at.l0 (k + 1) y0 y1 y2 y3))
 | 0 => fun _ _ _ _ r h => by simp [codicilref19_at.l0] at h
 | k + 1 => by
  have ih0 := codicilref19_at.mono_l k
  ·intro y0 y1 y2 y3
   unfold codicilref19_at.l0
   repeat' first
   | (with_reducible exact ih0 _ _ _ _)
   | (with_reducible exact LeO.refl _)
   | (with_reducible exact LeO.none _)
   | (with_reducible refine LeO.ite ?_ ?_)
   | (with_reducible refine LeO.bind ?_ (fun _ => ?_))
   | exact ih0 _ _ _ _
   | exact LeO.none _
   | refine LeO.ite ?_ ?_
   | refine LeO.bind ?_ (fun _ => ?_)
theorem codicilref19_at.mono : ∀ a0 a1 a2 k, LeO (codicilref19_at.f k a0 a1 a2) (codicilref19_at.f (k + 1) a0 a1 a2) := by
 intro a0 a1 a2 k
 have ih0 := codicilref19_at.mono_l k
 unfold codicilref19_at.f
 repeat' first
   | (with_reducible exact ih0 _ _ _ _)
   | (with_reducible exact LeO.refl _)
   | (with_reducible exact LeO.none _)
   | (with_reducible refine LeO.ite ?_ ?_)
   | (with_reducible refine LeO.bind ?_ (fun _ => ?_))
   | exact ih0 _ _ _ _
   | exact LeO.none _
   | refine LeO.ite ?_ ?_
   | refine LeO.bind ?_ (fun _ => ?_)
set_option maxHeartbeats 8000000 in
set_option maxRecDepth 100000 in
theorem codicilref19_at.calls (k : Nat) (A0 : Option Addr) (c0 : Nat) (l0 : List (S40)) (a1_0 : ByteArray) (a1_1 : Int) (r : Int) (w : World) (hr0 : Kd.C k40 w A0 l0.length l0) (hc0 : l0.length ≤ c0) (h : codicilref19_at.f k l0 a1_0 a1_1 = some r) :
  Calls Try.prog 28 #[.slice A0 l0.length c0, .agg #[.string a1_0, .int .i64 a1_1]] w fun e w' => e = .returned (.int .i64 r) ∧ Below w.heap.size w w' := by
 have hu24 := Try.underlying24
 have HR0 := qH hr0
 have HC0 := qH hc0
 clear hr0 hc0
 have HB := qH (Below.refl w.heap.size w)
 have H : (codicilref19_at.l0 k l0 0 a1_0 a1_1) = some r := h
 clear h
 have H' := qH H
 clear H
 go_enter Try.func28, Try.ntmps28
 go_wp2_with (first | ((with_reducible refine gate_dst (N := 3) rfl ?_); refine box_event ?hg (N := 3) ?hd (cs := #[.string a1_0, .int .i64 a1_1]) (t := 24) ?hr ?_; (case hd => rfl); (case hg => rfl); (case hr => first | (go_simp; done) | (go_simp; rfl) | (go_simp; simp [IntKind.wrap_u32]; done)); intro gb210 hg w3 hbox hb; have n0_ := qH (below_step (by repeat (first | (with_reducible first | exact HB.out | apply qL | apply qJ | apply qK) | exact HB.out)) hb); have n1_ := qH (hbox); have n2_ := qH ((by rw [hg]; exact (below_size (by repeat (first | (with_reducible first | exact HB.out | apply qL | apply qJ | apply qK) | exact HB.out))) : w.heap.size ≤ gb210)); have n3_ := n2_; clear HB; have HB := n0_; have BK210 := n1_; have GW210 := n2_; have GE210 := n3_; clear n0_ n1_ n2_ n3_; clear hb hbox hg))
 repeat (go_quiet (first | ((with_reducible refine gate_dst (N := 3) rfl ?_); refine box_event ?hg (N := 3) ?hd (cs := #[.string a1_0, .int .i64 a1_1]) (t := 24) ?hr ?_; (case hd => rfl); (case hg => rfl); (case hr => first | (go_simp; done) | (go_simp; rfl) | (go_simp; simp [IntKind.wrap_u32]; done)); intro gb210 hg w3 hbox hb; have n0_ := qH (below_step (by repeat (first | (with_reducible first | exact HB.out | apply qL | apply qJ | apply qK) | exact HB.out)) hb); have n1_ := qH (hbox); have n2_ := qH ((by rw [hg]; exact (below_size (by repeat (first | (with_reducible first | exact HB.out | apply qL | apply qJ | apply qK) | exact HB.out))) : w.heap.size ≤ gb210)); have n3_ := n2_; clear HB; have HB := n0_; have BK210 := n1_; have GW210 := n2_; have GE210 := n3_; clear n0_ n1_ n2_ n3_; clear hb hbox hg)); try go_wp2_with (first | ((with_reducible refine gate_dst (N := 3) rfl ?_); refine box_event ?hg (N := 3) ?hd (cs := #[.string a1_0, .int .i64 a1_1]) (t := 24) ?hr ?_; (case hd => rfl); (case hg => rfl); (case hr => first | (go_simp; done) | (go_simp; rfl) | (go_simp; simp [IntKind.wrap_u32]; done)); intro gb210 hg w3 hbox hb; have n0_ := qH (below_step (by repeat (first | (with_reducible first | exact HB.out | apply qL | apply qJ | apply qK) | exact HB.out)) hb); have n1_ := qH (hbox); have n2_ := qH ((by rw [hg]; exact (below_size (by repeat (first | (with_reducible first | exact HB.out | apply qL | apply qJ | apply qK) | exact HB.out))) : w.heap.size ≤ gb210)); have n3_ := n2_; clear HB; have HB := n0_; have BK210 := n1_; have GW210 := n2_; have GE210 := n3_; clear n0_ n1_ n2_ n3_; clear hb hbox hg)))
 go_loopg [5] k (fun kq v5 w' => ∃ (x5_1 : Int), v5 = .int .i64 x5_1 ∧ Aside0 (codicilref19_at.l0 kq l0 x5_1 a1_0 a1_1 = some r) ∧ Aside0 (kq ≤ k) ∧ Aside0 (w'.heap[gb210]? = some (.cells #[.string a1_0, .int .i64 a1_1] 24 (0, 0))) ∧ Aside0 (Below w.heap.size w w'))
 case atStart => exact ⟨(0), (by first | rfl | (simp; done) | (simp; exact qEmp _) | (simp [*]; done)), H', ⟨Nat.le_refl _⟩, ⟨by (with_reducible repeat first | apply qA | apply qC | apply qB); exact BK210.out⟩, ⟨by repeat (first | (with_reducible first | exact HB.out | apply qL | apply qJ | apply qK | refine qI ?_ GE210.out) | exact HB.out)⟩⟩
 case round =>
  clear H'
  try clear c2
  try clear p2
  obtain ⟨x5_1, rfl, HA, HK1, BK210, HB⟩ := hrel
  cases gk with
  | zero => exact absurd HA.out (by simp [codicilref19_at.l0])
  | succ k1 =>
   have H := HA.out
   clear HA
   simp only [codicilref19_at.l0] at H
   by_cases c4 : x5_1 < (l0.length : Int)
   ·rw [if_pos c4] at H
    have c4b0 : decide (x5_1 < (l0.length : Int)) = true := decide_eq_true c4
    clear c4
    by_cases c5 : 0 ≤ x5_1
    ·rw [if_pos c5] at H
     have c5b0 : decide (0 ≤ x5_1) = true := decide_eq_true c5
     clear c5
     by_cases c6 : ((((rd_T40 l0 x5_1).f0.f0).toList) == a1_0.toList && (((rd_T40 l0 x5_1).f0.f1) == a1_1)) = true
     ·rw [if_pos c6] at H
      have c6b0 : ((((rd_T40 l0 x5_1).f0.f0).toList) == a1_0.toList && (((rd_T40 l0 x5_1).f0.f1) == a1_1)) = true := c6
      (try (have c6b1 : decide ((((rd_T40 l0 x5_1).f0.f0).toList) = a1_0.toList && (((rd_T40 l0 x5_1).f0.f1) == a1_1)) = true := by simpa using c6))
      (try (have c6b2 : ((((rd_T40 l0 x5_1).f0.f0).toList) == a1_0.toList && (((rd_T40 l0 x5_1).f0.f1) == a1_1)) = true := by simpa using c6))
      clear c6
      obtain rfl := Option.some.inj H
      simp only [Option.some.injEq, Prod.mk.injEq] at H
      obtain ⟨rfl⟩ := H
      have p211 : 0 ≤ (x5_1 : Int) := of_decide_eq_true (by first | (with_reducible assumption) | assumption)
      have q211 : x5_1 < (l0.length : Int) := of_decide_eq_true (by first | (with_reducible assumption) | assumption)
      obtain ⟨ad211, A211_2, c211_2, e211, hx211_0, hx211_1, hx211_2, hl211_2, hi211_2⟩ := at_T40 HR0.out x5_1 p211 q211
      cases e211
      replace hx211_0 := (HB.out.cell (qO w _ hx211_0)).trans hx211_0
      replace hx211_1 := (HB.out.cell (qO w _ hx211_1)).trans hx211_1
      replace hx211_2 := (HB.out.cell (qO w _ hx211_2)).trans hx211_2
      have HR211_2 := qH hi211_2
      have HC211_2 := qH hl211_2
      clear hi211_2 hl211_2
      replace p211 := eq_true p211
      replace q211 := eq_true q211
      have hcz7_0 : wr.cell? ⟨gb210, 0, none⟩ = some (.string a1_0) := (qE BK210.out 0).trans rfl
      have hcz7_1 : wr.cell? ⟨gb210, 1, none⟩ = some (.int .i64 a1_1) := (qE BK210.out 1).trans rfl
      have hfz7_0 := qF BK210.out 0
      have hfz7_1 := qF BK210.out 1
      go_wp2
      repeat (go_quiet (fail); try go_wp2)
      go_ret
      exact ⟨by first | rfl | (simp [errW_none, errW_some] <;> rfl) | (simp [*, errW_none, errW_some] <;> rfl), by repeat (first | (with_reducible first | exact HB.out | apply qL | apply qJ | apply qK | refine qI ?_ GE210.out) | exact HB.out)⟩
     ·rw [if_neg c6] at H
      have c6b0 : ((((rd_T40 l0 x5_1).f0.f0).toList) == a1_0.toList && (((rd_T40 l0 x5_1).f0.f1) == a1_1)) = false := by simpa using c6
      (try (have c6b1 : decide ((((rd_T40 l0 x5_1).f0.f0).toList) = a1_0.toList && (((rd_T40 l0 x5_1).f0.f1) == a1_1)) = false := by simpa using c6))
      (try (have c6b2 : ((((rd_T40 l0 x5_1).f0.f0).toList) == a1_0.toList && (((rd_T40 l0 x5_1).f0.f1) == a1_1)) = false := by simpa using c6))
      (try (have c6b3 : ¬ ((((rd_T40 l0 x5_1).f0.f0).toList) = a1_0.toList && (((rd_T40 l0 x5_1).f0.f1) == a1_1)) := by simpa using c6))
      clear c6
      have H' := qH H
      clear H
      have p211 : 0 ≤ (x5_1 : Int) := of_decide_eq_true (by first | (with_reducible assumption) | assumption)
      have q211 : x5_1 < (l0.length : Int) := of_decide_eq_true (by first | (with_reducible assumption) | assumption)
      obtain ⟨ad211, A211_2, c211_2, e211, hx211_0, hx211_1, hx211_2, hl211_2, hi211_2⟩ := at_T40 HR0.out x5_1 p211 q211
      cases e211
      replace hx211_0 := (HB.out.cell (qO w _ hx211_0)).trans hx211_0
      replace hx211_1 := (HB.out.cell (qO w _ hx211_1)).trans hx211_1
      replace hx211_2 := (HB.out.cell (qO w _ hx211_2)).trans hx211_2
      have HR211_2 := qH hi211_2
      have HC211_2 := qH hl211_2
      clear hi211_2 hl211_2
      replace p211 := eq_true p211
      replace q211 := eq_true q211
      have hcz8_0 : wr.cell? ⟨gb210, 0, none⟩ = some (.string a1_0) := (qE BK210.out 0).trans rfl
      have hcz8_1 : wr.cell? ⟨gb210, 1, none⟩ = some (.int .i64 a1_1) := (qE BK210.out 1).trans rfl
      have hfz8_0 := qF BK210.out 0
      have hfz8_1 := qF BK210.out 1
      go_wp2
      repeat (go_quiet (fail); try go_wp2)
      go_roundg k1
      case measure => have := HK1.out; omega
      case rel => exact ⟨(wrap64 (x5_1 + 1)), (by first | rfl | (simp; done) | (simp; exact qEmp _) | (simp [*]; done)), H', ⟨by have := HK1.out; omega⟩, ⟨by (with_reducible repeat first | apply qA | apply qC | apply qB); exact BK210.out⟩, ⟨by repeat (first | (with_reducible first | exact HB.out | apply qL | apply qJ | apply qK | refine qI ?_ GE210.out) | exact HB.out)⟩⟩
    ·rw [if_neg c5] at H
     exact absurd H (by simp)
   ·rw [if_neg c4] at H
    have c4b0 : decide (x5_1 < (l0.length : Int)) = false := decide_eq_false c4
    clear c4
    obtain rfl := Option.some.inj H
    simp only [Option.some.injEq, Prod.mk.injEq] at H
    obtain ⟨rfl⟩ := H
    go_wp2
    repeat (go_quiet (fail); try go_wp2)
    go_ret
    exact ⟨by first | rfl | (simp [errW_none, errW_some] <;> rfl) | (simp [*, errW_none, errW_some] <;> rfl), by repeat (first | (with_reducible first | exact HB.out | apply qL | apply qJ | apply qK | refine qI ?_ GE210.out) | exact HB.out)⟩

/-! ### codicilref19_twice: function 35 -/
mutual
def codicilref19_twice.l0 : Nat → List (S24) → Int → Option (Bool)
 | 0, _, _ => none
 | k + 1, x0, x3 => if x3 < (x0.length : Int) then (codicilref19_twice.l1 k x0 x3 0) else (some false)
def codicilref19_twice.l1 : Nat → List (S24) → Int → Int → Option (Bool)
 | 0, _, _, _ => none
 | k + 1, x0, x3, x4 => if x4 < x3 then (if 0 ≤ x3 then (if x3 < (x0.length : Int) then (if 0 ≤ x4 then (if x4 < (x0.length : Int) then (if ((((rd_T24 x0 x3).f0).toList) == (((rd_T24 x0 x4).f0).toList) && (((rd_T24 x0 x3).f1) == ((rd_T24 x0 x4).f1))) = true then (some true) else (codicilref19_twice.l1 k x0 x3 (wrap64 (x4 + 1)))) else (none)) else (none)) else (none)) else (none)) else (codicilref19_twice.l0 k x0 (wrap64 (x3 + 1)))
end
def codicilref19_twice.f (k : Nat) (l0 : List (S24)) : Option (Bool) := codicilref19_twice.l0 k l0 0
theorem codicilref19_twice.mono_l : ∀ k, (∀ y0 y1, LeO (codicilref19_twice.l0 k y0 y1) (codicilref19_twice.l0 (k + 1) y0 y1)) ∧ (∀ y0 y1 y2, LeO (codicilref19_twice.l1 k y0 y1 y2) (codicilref19_twice.l1 (k + 1) y0 y1 y2))
 | 0 => ⟨fun _ _ r h => by simp [codicilref19_twice.l0] at h, fun _ _ _ r h => by simp [codicilref19_twice.l1] at h⟩
 | k + 1 => by
  obtain ⟨ih0, ih1⟩ := codicilref19_twice.mono_l k
  refine ⟨?_, ?_⟩
  ·intro y0 y1
   unfold codicilref19_twice.l0
   repeat' first
   | (with_reducible exact ih0 _ _)
   | (with_reducible exact ih1 _ _ _)
   | (with_reducible exact LeO.refl _)
   | (with_reducible exact LeO.none _)
   | (with_reducible refine LeO.ite ?_ ?_)
   | (with_reducible refine LeO.bind ?_ (fun _ => ?_))
   | exact ih0 _ _
   | exact ih1 _ _ _
   | exact LeO.none _
   | refine LeO.ite ?_ ?_
   | refine LeO.bind ?_ (fun _ => ?_)
  ·intro y0 y1 y2
   unfold codicilref19_twice.l1
   repeat' first
   | (with_reducible exact ih0 _ _)
   | (with_reducible exact ih1 _ _ _)
   | (with_reducible exact LeO.refl _)
   | (with_reducible exact LeO.none _)
   | (with_reducible refine LeO.ite ?_ ?_)
   | (with_reducible refine LeO.bind ?_ (fun _ => ?_))
   | exact ih0 _ _
   | exact ih1 _ _ _
   | exact LeO.none _
   | refine LeO.ite ?_ ?_
   | refine LeO.bind ?_ (fun _ => ?_)
theorem codicilref19_twice.mono : ∀ a0 k, LeO (codicilref19_twice.f k a0) (codicilref19_twice.f (k + 1) a0) := by
 intro a0 k
 obtain ⟨ih0, ih1⟩ := codicilref19_twice.mono_l k
 unfold codicilref19_twice.f
 repeat' first
   | (with_reducible exact ih0 _ _)
   | (with_reducible exact ih1 _ _ _)
   | (with_reducible exact LeO.refl _)
   | (with_reducible exact LeO.none _)
   | (with_reducible refine LeO.ite ?_ ?_)
   | (with_reducible refine LeO.bind ?_ (fun _ => ?_))
   | exact ih0 _ _
   | exact ih1 _ _ _
   | exact LeO.none _
   | refine LeO.ite ?_ ?_
   | refine LeO.bind ?_ (fun _ => ?_)
set_option maxHeartbeats 8000000 in
set_option maxRecDepth 100000 in
theorem codicilref19_twice.calls (k : Nat) (A0 : Option Addr) (c0 : Nat) (l0 : List (S24)) (r : Bool) (w : World) (hr0 : Kd.C k24 w A0 l0.length l0) (hc0 : l0.length ≤ c0) (h : codicilref19_twice.f k l0 = some r) :
  Calls Try.prog 35 #[.slice A0 l0.length c0] w fun e w' => e = .returned (.bool r) ∧ Drawn0 w w' := by
 have hu24 := Try.underlying24
 have HR0 := qH hr0
 have HC0 := qH hc0
 clear hr0 hc0
 have H : (codicilref19_twice.l0 k l0 0) = some r := h
 clear h
 have H' := qH H
 clear H
 go_enter Try.func35, Try.ntmps35
 go_wp2
 repeat (go_quiet (fail); try go_wp2)
 go_loopg [3] k (fun kq v3 w' => ∃ (x3_1 : Int), v3 = .int .i64 x3_1 ∧ Aside0 (codicilref19_twice.l0 kq l0 x3_1 = some r) ∧ Aside0 (kq ≤ k) ∧ Drawn0 w w')
 case atStart => exact ⟨(0), (by first | rfl | (simp; done) | (simp; exact qEmp _) | (simp [*]; done)), H', ⟨Nat.le_refl _⟩, by repeat (first | exact Drawn0.refl _ | apply Drawn0.step)⟩
 case round =>
  clear H'
  obtain ⟨x3_1, rfl, HA, HK1, ⟨m1, rfl⟩⟩ := hrel
  cases gk with
  | zero => exact absurd HA.out (by simp [codicilref19_twice.l0])
  | succ k1 =>
   have H := HA.out
   clear HA
   simp only [codicilref19_twice.l0] at H
   by_cases c2 : x3_1 < (l0.length : Int)
   ·rw [if_pos c2] at H
    have c2b0 : decide (x3_1 < (l0.length : Int)) = true := decide_eq_true c2
    clear c2
    have H' := qH H
    clear H
    go_wp2
    repeat (go_quiet (fail); try go_wp2)
    go_loopg [4] k1 (fun kq v4 w' => ∃ (x4_2 : Int), v4 = .int .i64 x4_2 ∧ Aside0 (codicilref19_twice.l1 kq l0 x3_1 x4_2 = some r) ∧ Aside0 (kq ≤ k1) ∧ Drawn0 w w')
    case atStart => exact ⟨(0), (by first | rfl | (simp; done) | (simp; exact qEmp _) | (simp [*]; done)), H', ⟨Nat.le_refl _⟩, by repeat (first | exact Drawn0.refl _ | apply Drawn0.step)⟩
    case round =>
     clear H'
     try clear c2
     try clear c2b0
     try clear p2
     obtain ⟨x4_2, rfl, HA, HK2, ⟨m2, rfl⟩⟩ := hrel
     cases gk with
     | zero => exact absurd HA.out (by simp [codicilref19_twice.l1])
     | succ k2 =>
      have H := HA.out
      clear HA
      simp only [codicilref19_twice.l1] at H
      by_cases c3 : x4_2 < x3_1
      ·rw [if_pos c3] at H
       have c3b0 : decide (x4_2 < x3_1) = true := decide_eq_true c3
       clear c3
       by_cases c4 : 0 ≤ x3_1
       ·rw [if_pos c4] at H
        have c4b0 : decide (0 ≤ x3_1) = true := decide_eq_true c4
        clear c4
        by_cases c5 : x3_1 < (l0.length : Int)
        ·rw [if_pos c5] at H
         have c5b0 : decide (x3_1 < (l0.length : Int)) = true := decide_eq_true c5
         clear c5
         by_cases c6 : 0 ≤ x4_2
         ·rw [if_pos c6] at H
          have c6b0 : decide (0 ≤ x4_2) = true := decide_eq_true c6
          clear c6
          by_cases c7 : x4_2 < (l0.length : Int)
          ·rw [if_pos c7] at H
           have c7b0 : decide (x4_2 < (l0.length : Int)) = true := decide_eq_true c7
           clear c7
           by_cases c8 : ((((rd_T24 l0 x3_1).f0).toList) == (((rd_T24 l0 x4_2).f0).toList) && (((rd_T24 l0 x3_1).f1) == ((rd_T24 l0 x4_2).f1))) = true
           ·rw [if_pos c8] at H
            have c8b0 : ((((rd_T24 l0 x3_1).f0).toList) == (((rd_T24 l0 x4_2).f0).toList) && (((rd_T24 l0 x3_1).f1) == ((rd_T24 l0 x4_2).f1))) = true := c8
            (try (have c8b1 : decide ((((rd_T24 l0 x3_1).f0).toList) = (((rd_T24 l0 x4_2).f0).toList) && (((rd_T24 l0 x3_1).f1) == ((rd_T24 l0 x4_2).f1))) = true := by simpa using c8))
            (try (have c8b2 : ((((rd_T24 l0 x3_1).f0).toList) == (((rd_T24 l0 x4_2).f0).toList) && (((rd_T24 l0 x3_1).f1) == ((rd_T24 l0 x4_2).f1))) = true := by simpa using c8))
            clear c8
            obtain rfl := Option.some.inj H
            simp only [Option.some.injEq, Prod.mk.injEq] at H
            obtain ⟨rfl⟩ := H
            have p212 : 0 ≤ (x3_1 : Int) := of_decide_eq_true (by first | (with_reducible assumption) | assumption)
            have q212 : x3_1 < (l0.length : Int) := of_decide_eq_true (by first | (with_reducible assumption) | assumption)
            obtain ⟨ad212, e212, hx212_0, hx212_1⟩ := at_T24 HR0.out x3_1 p212 q212
            cases e212
            replace p212 := eq_true p212
            replace q212 := eq_true q212
            have p213 : 0 ≤ (x4_2 : Int) := of_decide_eq_true (by first | (with_reducible assumption) | assumption)
            have q213 : x4_2 < (l0.length : Int) := of_decide_eq_true (by first | (with_reducible assumption) | assumption)
            obtain ⟨ad213, e213, hx213_0, hx213_1⟩ := at_T24 HR0.out x4_2 p213 q213
            obtain rfl : ad212 = ad213 := (by injection e213)
            replace p213 := eq_true p213
            replace q213 := eq_true q213
            go_wp2
            repeat (go_quiet (fail); try go_wp2)
            go_ret
            exact ⟨by first | rfl | (simp; done) | (simp [*]; done), by repeat (first | exact Drawn0.refl _ | apply Drawn0.step)⟩
           ·rw [if_neg c8] at H
            have c8b0 : ((((rd_T24 l0 x3_1).f0).toList) == (((rd_T24 l0 x4_2).f0).toList) && (((rd_T24 l0 x3_1).f1) == ((rd_T24 l0 x4_2).f1))) = false := by simpa using c8
            (try (have c8b1 : decide ((((rd_T24 l0 x3_1).f0).toList) = (((rd_T24 l0 x4_2).f0).toList) && (((rd_T24 l0 x3_1).f1) == ((rd_T24 l0 x4_2).f1))) = false := by simpa using c8))
            (try (have c8b2 : ((((rd_T24 l0 x3_1).f0).toList) == (((rd_T24 l0 x4_2).f0).toList) && (((rd_T24 l0 x3_1).f1) == ((rd_T24 l0 x4_2).f1))) = false := by simpa using c8))
            (try (have c8b3 : ¬ ((((rd_T24 l0 x3_1).f0).toList) = (((rd_T24 l0 x4_2).f0).toList) && (((rd_T24 l0 x3_1).f1) == ((rd_T24 l0 x4_2).f1))) := by simpa using c8))
            clear c8
            have H' := qH H
            clear H
            have p212 : 0 ≤ (x3_1 : Int) := of_decide_eq_true (by first | (with_reducible assumption) | assumption)
            have q212 : x3_1 < (l0.length : Int) := of_decide_eq_true (by first | (with_reducible assumption) | assumption)
            obtain ⟨ad212, e212, hx212_0, hx212_1⟩ := at_T24 HR0.out x3_1 p212 q212
            cases e212
            replace p212 := eq_true p212
            replace q212 := eq_true q212
            have p213 : 0 ≤ (x4_2 : Int) := of_decide_eq_true (by first | (with_reducible assumption) | assumption)
            have q213 : x4_2 < (l0.length : Int) := of_decide_eq_true (by first | (with_reducible assumption) | assumption)
            obtain ⟨ad213, e213, hx213_0, hx213_1⟩ := at_T24 HR0.out x4_2 p213 q213
            obtain rfl : ad212 = ad213 := (by injection e213)
            replace p213 := eq_true p213
            replace q213 := eq_true q213
            go_wp2
            repeat (go_quiet (fail); try go_wp2)
            go_roundg k2
            case measure => have := HK1.out; have := HK2.out; omega
            case rel => exact ⟨(wrap64 (x4_2 + 1)), (by first | rfl | (simp; done) | (simp; exact qEmp _) | (simp [*]; done)), H', ⟨by have := HK1.out; have := HK2.out; omega⟩, by repeat (first | exact Drawn0.refl _ | apply Drawn0.step)⟩
          ·rw [if_neg c7] at H
           exact absurd H (by simp)
         ·rw [if_neg c6] at H
          exact absurd H (by simp)
        ·rw [if_neg c5] at H
         exact absurd H (by simp)
       ·rw [if_neg c4] at H
        exact absurd H (by simp)
      ·rw [if_neg c3] at H
       have c3b0 : decide (x4_2 < x3_1) = false := decide_eq_false c3
       clear c3
       have H' := qH H
       clear H
       go_wp2
       repeat (go_quiet (fail); try go_wp2)
       go_roundg k2
       case measure => have := HK1.out; have := HK2.out; omega
       case rel => exact ⟨(wrap64 (x3_1 + 1)), (by first | rfl | (simp; done) | (simp; exact qEmp _) | (simp [*]; done)), H', ⟨by have := HK1.out; have := HK2.out; omega⟩, by repeat (first | exact Drawn0.refl _ | apply Drawn0.step)⟩
   ·rw [if_neg c2] at H
    have c2b0 : decide (x3_1 < (l0.length : Int)) = false := decide_eq_false c2
    clear c2
    obtain rfl := Option.some.inj H
    simp only [Option.some.injEq, Prod.mk.injEq] at H
    obtain ⟨rfl⟩ := H
    go_wp2
    repeat (go_quiet (fail); try go_wp2)
    go_ret
    exact ⟨by first | rfl | (simp; done) | (simp [*]; done), by repeat (first | exact Drawn0.refl _ | apply Drawn0.step)⟩

end Go.Proofs.Ytddjhmelniphgaa.Print
