-- Written by wip/tools/xprint.py of this session's repo (the kit's print, run with external functions). Lean checks it.
import Derived.Test.YtddjhmelniphgaaHLb
import Derived.Test.YtddjhmelniphgaaPrint0
import Derived.Test.YtddjhmelniphgaaPrint1
namespace Go.Proofs.Ytddjhmelniphgaa.Print
open Go.RowKit Go.Proofs.YtddjhmelniphgaaW.PrintWords Go.Proofs.YtddjhmelniphgaaW.PrintLast Go.Proofs.YtddjhmelniphgaaW.PrintMore
attribute [local go_sem] max2_int min2_int max_two min_two max_three min_three max_four min_four   -- for this text's walks alone
set_option linter.unusedVariables false
set_option linter.unusedSimpArgs false

attribute [local go_sem high] eqA24
/-! ### codicilref19_Nodes: function 15 -/
def codicilref19_Nodes.l0 : Nat → List (S24) → List (S24) → Int → Option (Bool)
 | 0, _, _, _ => none
 | k + 1, x0, x1, x5 => if x5 < (x0.length : Int) then (if 0 ≤ x5 then (if x5 < (x1.length : Int) then (if (!((((rd_T24 x0 x5).f0).toList) == (((rd_T24 x1 x5).f0).toList)) || (!(((rd_T24 x0 x5).f1) == ((rd_T24 x1 x5).f1)))) = true then (some false) else (codicilref19_Nodes.l0 k x0 x1 (wrap64 (x5 + 1)))) else (none)) else (none)) else (some true)
def codicilref19_Nodes.f (k : Nat) (l0 : List (S24)) (l1 : List (S24)) : Option (Bool) := if (l0.length : Int) = (l1.length : Int) then (codicilref19_Nodes.l0 k l0 l1 0) else (some false)
theorem codicilref19_Nodes.mono_l : ∀ k, (∀ y0 y1 y2, LeO (codicilref19_Nodes.l0 k y0 y1 y2) (codicilref19_Nodes.l0 (k + 1) y0 y1 y2))
 | 0 => fun _ _ _ r h => by simp [codicilref19_Nodes.l0] at h
 | k + 1 => by
  have ih0 := codicilref19_Nodes.mono_l k
  ·intro y0 y1 y2
   unfold codicilref19_Nodes.l0
   repeat' first
   | (with_reducible exact ih0 _ _ _)
   | (with_reducible exact LeO.refl _)
   | (with_reducible exact LeO.none _)
   | (with_reducible refine LeO.ite ?_ ?_)
   | (with_reducible refine LeO.bind ?_ (fun _ => ?_))
   | exact ih0 _ _ _
   | exact LeO.none _
   | refine LeO.ite ?_ ?_
   | refine LeO.bind ?_ (fun _ => ?_)
theorem codicilref19_Nodes.mono : ∀ a0 a1 k, LeO (codicilref19_Nodes.f k a0 a1) (codicilref19_Nodes.f (k + 1) a0 a1) := by
 intro a0 a1 k
 have ih0 := codicilref19_Nodes.mono_l k
 unfold codicilref19_Nodes.f
 repeat' first
   | (with_reducible exact ih0 _ _ _)
   | (with_reducible exact LeO.refl _)
   | (with_reducible exact LeO.none _)
   | (with_reducible refine LeO.ite ?_ ?_)
   | (with_reducible refine LeO.bind ?_ (fun _ => ?_))
   | exact ih0 _ _ _
   | exact LeO.none _
   | refine LeO.ite ?_ ?_
   | refine LeO.bind ?_ (fun _ => ?_)
set_option maxHeartbeats 8000000 in
set_option maxRecDepth 100000 in
theorem codicilref19_Nodes.calls (k : Nat) (A0 : Option Addr) (c0 : Nat) (l0 : List (S24)) (A1 : Option Addr) (c1 : Nat) (l1 : List (S24)) (r : Bool) (w : World) (hr0 : Kd.C k24 w A0 l0.length l0) (hc0 : l0.length ≤ c0) (hr1 : Kd.C k24 w A1 l1.length l1) (hc1 : l1.length ≤ c1) (h : codicilref19_Nodes.f k l0 l1 = some r) :
  Calls Try.prog 15 #[.slice A0 l0.length c0, .slice A1 l1.length c1] w fun e w' => e = .returned (.bool r) ∧ Drawn0 w w' := by
 have hu24 := Try.underlying24
 have HR0 := qH hr0
 have HC0 := qH hc0
 clear hr0 hc0
 have HR1 := qH hr1
 have HC1 := qH hc1
 clear hr1 hc1
 have H : (if (l0.length : Int) = (l1.length : Int) then (codicilref19_Nodes.l0 k l0 l1 0) else (some false)) = some r := h
 clear h
 by_cases c3 : (l0.length : Int) = (l1.length : Int)
 ·rw [if_pos c3] at H
  have c3b0 : ((l0.length : Int) == (l1.length : Int)) = true := beq_iff_eq.mpr c3
  have c3b1 : ((l0.length : Int) != (l1.length : Int)) = false := bne_eq_false_iff_eq.mpr c3
  have c3b2 : (l0.length == l1.length) = true := by first | simpa using c3 | (simp at c3 ⊢; omega)
  clear c3
  have H' := qH H
  clear H
  go_enter Try.func15, Try.ntmps15
  go_wp2
  repeat (go_quiet (fail); try go_wp2)
  go_loopg [5] k (fun kq v5 w' => ∃ (x5_1 : Int), v5 = .int .i64 x5_1 ∧ Aside0 (codicilref19_Nodes.l0 kq l0 l1 x5_1 = some r) ∧ Aside0 (kq ≤ k) ∧ Drawn0 w w')
  case atStart => exact ⟨(0), (by first | rfl | (simp; done) | (simp; exact qEmp _) | (simp [*]; done)), H', ⟨Nat.le_refl _⟩, by repeat (first | exact Drawn0.refl _ | apply Drawn0.step)⟩
  case round =>
   clear H'
   try clear c1
   try clear p2
   try clear c3
   try clear c3b0
   try clear c3b1
   try clear c3b2
   obtain ⟨x5_1, rfl, HA, HK1, ⟨m1, rfl⟩⟩ := hrel
   cases gk with
   | zero => exact absurd HA.out (by simp [codicilref19_Nodes.l0])
   | succ k1 =>
    have H := HA.out
    clear HA
    simp only [codicilref19_Nodes.l0] at H
    by_cases c4 : x5_1 < (l0.length : Int)
    ·rw [if_pos c4] at H
     have c4b0 : decide (x5_1 < (l0.length : Int)) = true := decide_eq_true c4
     clear c4
     by_cases c5 : 0 ≤ x5_1
     ·rw [if_pos c5] at H
      have c5b0 : decide (0 ≤ x5_1) = true := decide_eq_true c5
      clear c5
      by_cases c6 : x5_1 < (l1.length : Int)
      ·rw [if_pos c6] at H
       have c6b0 : decide (x5_1 < (l1.length : Int)) = true := decide_eq_true c6
       clear c6
       by_cases c7 : (!((((rd_T24 l0 x5_1).f0).toList) == (((rd_T24 l1 x5_1).f0).toList)) || (!(((rd_T24 l0 x5_1).f1) == ((rd_T24 l1 x5_1).f1)))) = true
       ·rw [if_pos c7] at H
        have c7b0 : (!((((rd_T24 l0 x5_1).f0).toList) == (((rd_T24 l1 x5_1).f0).toList)) || (!(((rd_T24 l0 x5_1).f1) == ((rd_T24 l1 x5_1).f1)))) = true := c7
        clear c7
        obtain rfl := Option.some.inj H
        simp only [Option.some.injEq, Prod.mk.injEq] at H
        obtain ⟨rfl⟩ := H
        have p239 : 0 ≤ (x5_1 : Int) := of_decide_eq_true (by first | (with_reducible assumption) | assumption)
        have q239 : x5_1 < (l0.length : Int) := of_decide_eq_true (by first | (with_reducible assumption) | assumption)
        obtain ⟨ad239, e239, hx239_0, hx239_1⟩ := at_T24 HR0.out x5_1 p239 q239
        cases e239
        replace p239 := eq_true p239
        replace q239 := eq_true q239
        have p240 : 0 ≤ (x5_1 : Int) := of_decide_eq_true (by first | (with_reducible assumption) | assumption)
        have q240 : x5_1 < (l1.length : Int) := of_decide_eq_true (by first | (with_reducible assumption) | assumption)
        obtain ⟨ad240, e240, hx240_0, hx240_1⟩ := at_T24 HR1.out x5_1 p240 q240
        cases e240
        replace p240 := eq_true p240
        replace q240 := eq_true q240
        go_wp2
        repeat (go_quiet (fail); try go_wp2)
        go_ret
        exact ⟨by first | rfl | (simp; done) | (simp [*]; done), by repeat (first | exact Drawn0.refl _ | apply Drawn0.step)⟩
       ·rw [if_neg c7] at H
        have c7b0 : (!((((rd_T24 l0 x5_1).f0).toList) == (((rd_T24 l1 x5_1).f0).toList)) || (!(((rd_T24 l0 x5_1).f1) == ((rd_T24 l1 x5_1).f1)))) = false := by simpa using c7
        clear c7
        have H' := qH H
        clear H
        have p239 : 0 ≤ (x5_1 : Int) := of_decide_eq_true (by first | (with_reducible assumption) | assumption)
        have q239 : x5_1 < (l0.length : Int) := of_decide_eq_true (by first | (with_reducible assumption) | assumption)
        obtain ⟨ad239, e239, hx239_0, hx239_1⟩ := at_T24 HR0.out x5_1 p239 q239
        cases e239
        replace p239 := eq_true p239
        replace q239 := eq_true q239
        have p240 : 0 ≤ (x5_1 : Int) := of_decide_eq_true (by first | (with_reducible assumption) | assumption)
        have q240 : x5_1 < (l1.length : Int) := of_decide_eq_true (by first | (with_reducible assumption) | assumption)
        obtain ⟨ad240, e240, hx240_0, hx240_1⟩ := at_T24 HR1.out x5_1 p240 q240
        cases e240
        replace p240 := eq_true p240
        replace q240 := eq_true q240
        go_wp2
        repeat (go_quiet (fail); try go_wp2)
        go_roundg k1
        case measure => have := HK1.out; omega
        case rel => exact ⟨(wrap64 (x5_1 + 1)), (by first | rfl | (simp; done) | (simp; exact qEmp _) | (simp [*]; done)), H', ⟨by have := HK1.out; omega⟩, by repeat (first | exact Drawn0.refl _ | apply Drawn0.step)⟩
      ·rw [if_neg c6] at H
       exact absurd H (by simp)
     ·rw [if_neg c5] at H
      exact absurd H (by simp)
    ·rw [if_neg c4] at H
     have c4b0 : decide (x5_1 < (l0.length : Int)) = false := decide_eq_false c4
     clear c4
     obtain rfl := Option.some.inj H
     simp only [Option.some.injEq, Prod.mk.injEq] at H
     obtain ⟨rfl⟩ := H
     go_wp2
     repeat (go_quiet (fail); try go_wp2)
     go_ret
     exact ⟨by first | rfl | (simp; done) | (simp [*]; done), by repeat (first | exact Drawn0.refl _ | apply Drawn0.step)⟩
 ·rw [if_neg c3] at H
  have c3b0 : ((l0.length : Int) == (l1.length : Int)) = false := beq_eq_false_iff_ne.mpr c3
  have c3b1 : ((l0.length : Int) != (l1.length : Int)) = true := bne_iff_ne.mpr c3
  have c3b2 : (l0.length == l1.length) = false := by first | simpa using c3 | (simp at c3 ⊢; omega)
  obtain rfl := Option.some.inj H
  simp only [Option.some.injEq, Prod.mk.injEq] at H
  obtain ⟨rfl⟩ := H
  go_enter Try.func15, Try.ntmps15
  go_wp2
  repeat (go_quiet (fail); try go_wp2)
  go_ret
  exact ⟨by first | rfl | (simp; done) | (simp [*]; done), by repeat (first | exact Drawn0.refl _ | apply Drawn0.step)⟩

/-! ### codicilref19_Users: function 17 -/
mutual
def codicilref19_Users.l0 : Nat → List (S40) → List (S24) → Int → ByteArray → Int → Option ((List (S24)))
 | 0, _, _, _, _, _ => none
 | k + 1, x0, x5, x6, x242000, x242001 => if x6 < (x0.length : Int) then (codicilref19_Users.l1 k x0 x5 x6 false 0 x242000 x242001) else (some x5)
def codicilref19_Users.l1 : Nat → List (S40) → List (S24) → Int → Bool → Int → ByteArray → Int → Option ((List (S24)))
 | 0, _, _, _, _, _, _, _ => none
 | k + 1, x0, x5, x6, x7, x8, x242000, x242001 => if 0 ≤ x6 then (if x6 < (x0.length : Int) then (if x8 < (((rd_T40 x0 x6).f1).length : Int) then (if x7 = true then (codicilref19_Users.l1 k x0 x5 x6 true (wrap64 (x8 + 1)) x242000 x242001) else (if 0 ≤ x8 then (codicilref19_Users.l1 k x0 x5 x6 ((((rd_T24 ((rd_T40 x0 x6).f1) x8).f0).toList) == x242000.toList && (((rd_T24 ((rd_T40 x0 x6).f1) x8).f1) == x242001)) (wrap64 (x8 + 1)) x242000 x242001) else (none))) else (if x7 = true then (if x5.length < 5864062014805 then (codicilref19_Users.l0 k x0 (x5 ++ [(⟨(rd_T40 x0 x6).f0.f0, (rd_T40 x0 x6).f0.f1⟩ : S24)]) (wrap64 (x6 + 1)) x242000 x242001) else (none)) else (codicilref19_Users.l0 k x0 x5 (wrap64 (x6 + 1)) x242000 x242001))) else (none)) else (none)
end
def codicilref19_Users.f (k : Nat) (l0 : List (S40)) (a1_0 : ByteArray) (a1_1 : Int) : Option ((List (S24))) := codicilref19_Users.l0 k l0 ([] : List (S24)) 0 a1_0 a1_1
theorem codicilref19_Users.mono_l : ∀ k, (∀ y0 y1 y2 y3 y4, LeO (codicilref19_Users.l0 k y0 y1 y2 y3 y4) (codicilref19_Users.l0 (k + 1) y0 y1 y2 y3 y4)) ∧ (∀ y0 y1 y2 y3 y4 y5 y6, LeO (codicilref19_Users.l1 k y0 y1 y2 y3 y4 y5 y6) (codicilref19_Users.l1 (k + 1) y0 y1 y2 y3 y4 y5 y6))
 | 0 => ⟨fun _ _ _ _ _ r h => by simp [codicilref19_Users.l0] at h, fun _ _ _ _ _ _ _ r h => by simp [codicilref19_Users.l1] at h⟩
 | k + 1 => by
  obtain ⟨ih0, ih1⟩ := codicilref19_Users.mono_l k
  refine ⟨?_, ?_⟩
  ·intro y0 y1 y2 y3 y4
   unfold codicilref19_Users.l0
   repeat' first
   | (with_reducible exact ih0 _ _ _ _ _)
   | (with_reducible exact ih1 _ _ _ _ _ _ _)
   | (with_reducible exact LeO.refl _)
   | (with_reducible exact LeO.none _)
   | (with_reducible refine LeO.ite ?_ ?_)
   | (with_reducible refine LeO.bind ?_ (fun _ => ?_))
   | exact ih0 _ _ _ _ _
   | exact ih1 _ _ _ _ _ _ _
   | exact LeO.none _
   | refine LeO.ite ?_ ?_
   | refine LeO.bind ?_ (fun _ => ?_)
  ·intro y0 y1 y2 y3 y4 y5 y6
   unfold codicilref19_Users.l1
   repeat' first
   | (with_reducible exact ih0 _ _ _ _ _)
   | (with_reducible exact ih1 _ _ _ _ _ _ _)
   | (with_reducible exact LeO.refl _)
   | (with_reducible exact LeO.none _)
   | (with_reducible refine LeO.ite ?_ ?_)
   | (with_reducible refine LeO.bind ?_ (fun _ => ?_))
   | exact ih0 _ _ _ _ _
   | exact ih1 _ _ _ _ _ _ _
   | exact LeO.none _
   | refine LeO.ite ?_ ?_
   | refine LeO.bind ?_ (fun _ => ?_)
theorem codicilref19_Users.mono : ∀ a0 a1 a2 k, LeO (codicilref19_Users.f k a0 a1 a2) (codicilref19_Users.f (k + 1) a0 a1 a2) := by
 intro a0 a1 a2 k
 obtain ⟨ih0, ih1⟩ := codicilref19_Users.mono_l k
 unfold codicilref19_Users.f
 repeat' first
   | (with_reducible exact ih0 _ _ _ _ _)
   | (with_reducible exact ih1 _ _ _ _ _ _ _)
   | (with_reducible exact LeO.refl _)
   | (with_reducible exact LeO.none _)
   | (with_reducible refine LeO.ite ?_ ?_)
   | (with_reducible refine LeO.bind ?_ (fun _ => ?_))
   | exact ih0 _ _ _ _ _
   | exact ih1 _ _ _ _ _ _ _
   | exact LeO.none _
   | refine LeO.ite ?_ ?_
   | refine LeO.bind ?_ (fun _ => ?_)
set_option maxHeartbeats 8000000 in
set_option maxRecDepth 100000 in
theorem codicilref19_Users.calls (k : Nat) (A0 : Option Addr) (c0 : Nat) (l0 : List (S40)) (a1_0 : ByteArray) (a1_1 : Int) (r : List (S24)) (w : World) (hr0 : Kd.C k40 w A0 l0.length l0) (hc0 : l0.length ≤ c0) (h : codicilref19_Users.f k l0 a1_0 a1_1 = some r) :
  Calls Try.prog 17 #[.slice A0 l0.length c0, .agg #[.string a1_0, .int .i64 a1_1]] w fun e w' => ∃ v0_ : Value, e = .returned (v0_) ∧ Kd.R k24 24 w' w.heap.size (fun _ => True) v0_ r ∧ Below w.heap.size w w' := by
 have hu24 := Try.underlying24
 have HR0 := qH hr0
 have HC0 := qH hc0
 clear hr0 hc0
 have HB := qH (Below.refl w.heap.size w)
 have H : (codicilref19_Users.l0 k l0 ([] : List (S24)) 0 a1_0 a1_1) = some r := h
 clear h
 have H' := qH H
 clear H
 go_enter Try.func17, Try.ntmps17
 go_wp2_with (first | ((with_reducible refine gate_dst (N := 3) rfl ?_); refine box_event ?hg (N := 3) ?hd (cs := #[.string a1_0, .int .i64 a1_1]) (t := 24) ?hr ?_; (case hd => rfl); (case hg => rfl); (case hr => first | (go_simp; done) | (go_simp; rfl) | (go_simp; simp [IntKind.wrap_u32]; done)); intro gb241 hg w3 hbox hb; have n0_ := qH (below_step (by repeat (first | (with_reducible first | exact HB.out | apply qL | apply qJ | apply qK) | exact HB.out)) hb); have n1_ := qH (hbox); have n2_ := qH ((by rw [hg]; exact (below_size (by repeat (first | (with_reducible first | exact HB.out | apply qL | apply qJ | apply qK) | exact HB.out))) : w.heap.size ≤ gb241)); have n3_ := n2_; clear HB; have HB := n0_; have BK241 := n1_; have GW241 := n2_; have GE241 := n3_; clear n0_ n1_ n2_ n3_; clear hb hbox hg))
 repeat (go_quiet (first | ((with_reducible refine gate_dst (N := 3) rfl ?_); refine box_event ?hg (N := 3) ?hd (cs := #[.string a1_0, .int .i64 a1_1]) (t := 24) ?hr ?_; (case hd => rfl); (case hg => rfl); (case hr => first | (go_simp; done) | (go_simp; rfl) | (go_simp; simp [IntKind.wrap_u32]; done)); intro gb241 hg w3 hbox hb; have n0_ := qH (below_step (by repeat (first | (with_reducible first | exact HB.out | apply qL | apply qJ | apply qK) | exact HB.out)) hb); have n1_ := qH (hbox); have n2_ := qH ((by rw [hg]; exact (below_size (by repeat (first | (with_reducible first | exact HB.out | apply qL | apply qJ | apply qK) | exact HB.out))) : w.heap.size ≤ gb241)); have n3_ := n2_; clear HB; have HB := n0_; have BK241 := n1_; have GW241 := n2_; have GE241 := n3_; clear n0_ n1_ n2_ n3_; clear hb hbox hg)); try go_wp2_with (first | ((with_reducible refine gate_dst (N := 3) rfl ?_); refine box_event ?hg (N := 3) ?hd (cs := #[.string a1_0, .int .i64 a1_1]) (t := 24) ?hr ?_; (case hd => rfl); (case hg => rfl); (case hr => first | (go_simp; done) | (go_simp; rfl) | (go_simp; simp [IntKind.wrap_u32]; done)); intro gb241 hg w3 hbox hb; have n0_ := qH (below_step (by repeat (first | (with_reducible first | exact HB.out | apply qL | apply qJ | apply qK) | exact HB.out)) hb); have n1_ := qH (hbox); have n2_ := qH ((by rw [hg]; exact (below_size (by repeat (first | (with_reducible first | exact HB.out | apply qL | apply qJ | apply qK) | exact HB.out))) : w.heap.size ≤ gb241)); have n3_ := n2_; clear HB; have HB := n0_; have BK241 := n1_; have GW241 := n2_; have GE241 := n3_; clear n0_ n1_ n2_ n3_; clear hb hbox hg)))
 go_loopg [5, 6] k (fun kq v5 v6 w' => ∃ (x5_1 : List (S24)) (x6_1 : Int), v6 = .int .i64 x6_1 ∧ Aside0 (codicilref19_Users.l0 kq l0 x5_1 x6_1 a1_0 a1_1 = some r) ∧ Aside0 (kq ≤ k) ∧ Aside0 (Kd.R k24 24 w' w.heap.size (fun k_ => k_ ≠ gb241) v5 x5_1) ∧ Aside0 (w'.heap[gb241]? = some (.cells #[.string a1_0, .int .i64 a1_1] 24 (0, 0))) ∧ Aside0 (Below w.heap.size w w'))
 case atStart => exact ⟨(([] : List (S24))), (0), (by first | rfl | (simp; done) | (simp; exact qEmp _) | (simp [*]; done)), H', ⟨Nat.le_refl _⟩, ⟨by first | exact Kd.R_nil _ _ _ _ _ | exact Kd.N_nil _ _ _ _ _ | exact Kd.V_nil _ _ _ _ _ | exact Kd.Q_nil _ _ _ _ _ | exact Kd.S_nil _ _ _ _ _⟩, ⟨by (with_reducible repeat first | apply qA | apply qC | apply qB); exact BK241.out⟩, ⟨by repeat (first | (with_reducible first | exact HB.out | apply qL | apply qJ | apply qK | refine qI ?_ GE241.out) | exact HB.out)⟩⟩
 case round =>
  clear H'
  try clear c1
  try clear p2
  obtain ⟨x5_1, x6_1, rfl, HA, HK1, HO_5, BK241, HB⟩ := hrel
  cases gk with
  | zero => exact absurd HA.out (by simp [codicilref19_Users.l0])
  | succ k1 =>
   have H := HA.out
   clear HA
   simp only [codicilref19_Users.l0] at H
   by_cases c4 : x6_1 < (l0.length : Int)
   ·rw [if_pos c4] at H
    have c4b0 : decide (x6_1 < (l0.length : Int)) = true := decide_eq_true c4
    clear c4
    have H' := qH H
    clear H
    go_wp2
    repeat (go_quiet (fail); try go_wp2)
    go_loopg [7, 8] k1 (fun kq v7 v8 w' => ∃ (x7_2 : Bool) (x8_2 : Int), v7 = .bool x7_2 ∧ v8 = .int .i64 x8_2 ∧ Aside0 (codicilref19_Users.l1 kq l0 x5_1 x6_1 x7_2 x8_2 a1_0 a1_1 = some r) ∧ Aside0 (kq ≤ k1) ∧ Aside0 (Kd.R k24 24 w' w.heap.size (fun k_ => k_ ≠ gb241) u5 x5_1) ∧ Aside0 (w'.heap[gb241]? = some (.cells #[.string a1_0, .int .i64 a1_1] 24 (0, 0))) ∧ Aside0 (Below w.heap.size w w'))
    case atStart => exact ⟨(false), (0), (by first | rfl | (simp; done) | (simp; exact qEmp _) | (simp [*]; done)), (by first | rfl | (simp; done) | (simp; exact qEmp _) | (simp [*]; done)), H', ⟨Nat.le_refl _⟩, ⟨by (with_reducible repeat first | apply zRa | apply zRb | apply zRc); exact HO_5.out⟩, ⟨by (with_reducible repeat first | apply qA | apply qC | apply qB); exact BK241.out⟩, ⟨by repeat (first | (with_reducible first | exact HB.out | apply qL | apply qJ | apply qK | refine qI ?_ GE241.out) | exact HB.out)⟩⟩
    case round =>
     clear H'
     try clear c1
     try clear p2
     try clear c4
     try clear c4b0
     try clear p2
     obtain ⟨x7_2, x8_2, rfl, rfl, HA, HK2, HO_5, BK241, HB⟩ := hrel
     cases gk with
     | zero => exact absurd HA.out (by simp [codicilref19_Users.l1])
     | succ k2 =>
      have H := HA.out
      clear HA
      simp only [codicilref19_Users.l1] at H
      by_cases c5 : 0 ≤ x6_1
      ·rw [if_pos c5] at H
       have c5b0 : decide (0 ≤ x6_1) = true := decide_eq_true c5
       clear c5
       by_cases c6 : x6_1 < (l0.length : Int)
       ·rw [if_pos c6] at H
        have c6b0 : decide (x6_1 < (l0.length : Int)) = true := decide_eq_true c6
        clear c6
        by_cases c7 : x8_2 < (((rd_T40 l0 x6_1).f1).length : Int)
        ·rw [if_pos c7] at H
         have c7b0 : decide (x8_2 < (((rd_T40 l0 x6_1).f1).length : Int)) = true := decide_eq_true c7
         clear c7
         by_cases c8 : x7_2 = true
         ·subst c8
          have H1 : (codicilref19_Users.l1 k2 l0 x5_1 x6_1 true (wrap64 (x8_2 + 1)) a1_0 a1_1) = some r := by rw [if_pos rfl] at H; exact H
          clear H
          have H := H1
          clear H1
          have H' := qH H
          clear H
          have p242 : 0 ≤ (x6_1 : Int) := of_decide_eq_true (by first | (with_reducible assumption) | assumption)
          have q242 : x6_1 < (l0.length : Int) := of_decide_eq_true (by first | (with_reducible assumption) | assumption)
          obtain ⟨ad242, A242_2, c242_2, e242, hx242_0, hx242_1, hx242_2, hl242_2, hi242_2⟩ := at_T40 HR0.out x6_1 p242 q242
          cases e242
          replace hx242_0 := (HB.out.cell (qO w _ hx242_0)).trans hx242_0
          replace hx242_1 := (HB.out.cell (qO w _ hx242_1)).trans hx242_1
          replace hx242_2 := (HB.out.cell (qO w _ hx242_2)).trans hx242_2
          have HR242_2 := qH hi242_2
          have HC242_2 := qH hl242_2
          clear hi242_2 hl242_2
          replace p242 := eq_true p242
          replace q242 := eq_true q242
          go_wp2
          repeat (go_quiet (fail); try go_wp2)
          go_roundg k2
          case measure => have := HK1.out; have := HK2.out; omega
          case rel => exact ⟨(true), (wrap64 (x8_2 + 1)), (by first | rfl | (simp; done) | (simp; exact qEmp _) | (simp [*]; done)), (by first | rfl | (simp; done) | (simp; exact qEmp _) | (simp [*]; done)), H', ⟨by have := HK1.out; have := HK2.out; omega⟩, ⟨by (with_reducible repeat first | apply zRa | apply zRb | apply zRc); exact HO_5.out⟩, ⟨by (with_reducible repeat first | apply qA | apply qC | apply qB); exact BK241.out⟩, ⟨by repeat (first | (with_reducible first | exact HB.out | apply qL | apply qJ | apply qK | refine qI ?_ GE241.out) | exact HB.out)⟩⟩
         ·replace c8 := Bool.eq_false_iff.mpr c8
          subst c8
          have H1 : (if 0 ≤ x8_2 then (codicilref19_Users.l1 k2 l0 x5_1 x6_1 ((((rd_T24 ((rd_T40 l0 x6_1).f1) x8_2).f0).toList) == a1_0.toList && (((rd_T24 ((rd_T40 l0 x6_1).f1) x8_2).f1) == a1_1)) (wrap64 (x8_2 + 1)) a1_0 a1_1) else (none)) = some r := by rw [if_neg (show ¬ (false = true) by decide)] at H; exact H
          clear H
          have H := H1
          clear H1
          by_cases c9 : 0 ≤ x8_2
          ·rw [if_pos c9] at H
           have c9b0 : decide (0 ≤ x8_2) = true := decide_eq_true c9
           clear c9
           have H' := qH H
           clear H
           have p242 : 0 ≤ (x6_1 : Int) := of_decide_eq_true (by first | (with_reducible assumption) | assumption)
           have q242 : x6_1 < (l0.length : Int) := of_decide_eq_true (by first | (with_reducible assumption) | assumption)
           obtain ⟨ad242, A242_2, c242_2, e242, hx242_0, hx242_1, hx242_2, hl242_2, hi242_2⟩ := at_T40 HR0.out x6_1 p242 q242
           cases e242
           replace hx242_0 := (HB.out.cell (qO w _ hx242_0)).trans hx242_0
           replace hx242_1 := (HB.out.cell (qO w _ hx242_1)).trans hx242_1
           replace hx242_2 := (HB.out.cell (qO w _ hx242_2)).trans hx242_2
           have HR242_2 := qH hi242_2
           have HC242_2 := qH hl242_2
           clear hi242_2 hl242_2
           replace p242 := eq_true p242
           replace q242 := eq_true q242
           have p243 : 0 ≤ (x6_1 : Int) := of_decide_eq_true (by first | (with_reducible assumption) | assumption)
           have q243 : x6_1 < (l0.length : Int) := of_decide_eq_true (by first | (with_reducible assumption) | assumption)
           obtain ⟨ad243, A243_2, c243_2, e243, hx243_0, hx243_1, hx243_2, hl243_2, hi243_2⟩ := at_T40 HR0.out x6_1 p243 q243
           obtain rfl : ad242 = ad243 := (by injection e243)
           replace hx243_0 := (HB.out.cell (qO w _ hx243_0)).trans hx243_0
           replace hx243_1 := (HB.out.cell (qO w _ hx243_1)).trans hx243_1
           replace hx243_2 := (HB.out.cell (qO w _ hx243_2)).trans hx243_2
           have HR243_2 := qH hi243_2
           have HC243_2 := qH hl243_2
           clear hi243_2 hl243_2
           replace p243 := eq_true p243
           replace q243 := eq_true q243
           have ea_ := Option.some.inj (hx242_2.symm.trans hx243_2)
           injection ea_ with ea_ en_ ec_
           subst ea_
           subst ec_
           clear en_
           have p244 : 0 ≤ (x8_2 : Int) := of_decide_eq_true (by first | (with_reducible assumption) | assumption)
           have q244 : x8_2 < (((rd_T40 l0 x6_1).f1).length : Int) := of_decide_eq_true (by first | (with_reducible assumption) | assumption)
           obtain ⟨ad244, e244, hx244_0, hx244_1⟩ := at_T24 HR243_2.out x8_2 p244 q244
           cases e244
           replace hx244_0 := (HB.out.cell (qO w _ hx244_0)).trans hx244_0
           replace hx244_1 := (HB.out.cell (qO w _ hx244_1)).trans hx244_1
           replace p244 := eq_true p244
           replace q244 := eq_true q244
           have hcz10_0 : wr.cell? ⟨gb241, 0, none⟩ = some (.string a1_0) := (qE BK241.out 0).trans rfl
           have hcz10_1 : wr.cell? ⟨gb241, 1, none⟩ = some (.int .i64 a1_1) := (qE BK241.out 1).trans rfl
           have hfz10_0 := qF BK241.out 0
           have hfz10_1 := qF BK241.out 1
           go_wp2
           repeat (go_quiet (fail); try go_wp2)
           go_roundg k2
           case measure => have := HK1.out; have := HK2.out; omega
           case rel => exact ⟨(((((rd_T24 ((rd_T40 l0 x6_1).f1) x8_2).f0).toList) == a1_0.toList && (((rd_T24 ((rd_T40 l0 x6_1).f1) x8_2).f1) == a1_1))), (wrap64 (x8_2 + 1)), (by first | rfl | (simp; done) | (simp; exact qEmp _) | (simp [*]; done)), (by first | rfl | (simp; done) | (simp; exact qEmp _) | (simp [*]; done)), H', ⟨by have := HK1.out; have := HK2.out; omega⟩, ⟨by (with_reducible repeat first | apply zRa | apply zRb | apply zRc); exact HO_5.out⟩, ⟨by (with_reducible repeat first | apply qA | apply qC | apply qB); exact BK241.out⟩, ⟨by repeat (first | (with_reducible first | exact HB.out | apply qL | apply qJ | apply qK | refine qI ?_ GE241.out) | exact HB.out)⟩⟩
          ·rw [if_neg c9] at H
           exact absurd H (by simp)
        ·rw [if_neg c7] at H
         have c7b0 : decide (x8_2 < (((rd_T40 l0 x6_1).f1).length : Int)) = false := decide_eq_false c7
         clear c7
         by_cases c11 : x7_2 = true
         ·subst c11
          have H1 : (if x5_1.length < 5864062014805 then (codicilref19_Users.l0 k2 l0 (x5_1 ++ [(⟨(rd_T40 l0 x6_1).f0.f0, (rd_T40 l0 x6_1).f0.f1⟩ : S24)]) (wrap64 (x6_1 + 1)) a1_0 a1_1) else (none)) = some r := by rw [if_pos rfl] at H; exact H
          clear H
          have H := H1
          clear H1
          by_cases c12 : x5_1.length < 5864062014805
          ·rw [if_pos c12] at H
           have LMc12 := qH c12
           clear c12
           obtain ⟨y246, hy246⟩ : ∃ y_ : List (S24), y_ = (x5_1 ++ [(⟨(rd_T40 l0 x6_1).f0.f0, (rd_T40 l0 x6_1).f0.f1⟩ : S24)]) := ⟨_, rfl⟩
           replace H : (codicilref19_Users.l0 k2 l0 y246 (wrap64 (x6_1 + 1)) a1_0 a1_1) = some r := by first | (rw [hy246]; with_reducible exact H) | (have H2_ := (Option.bind_some _ _).symm.trans H; rw [hy246]; with_reducible exact H2_) | (have H2_ := (Option.bind_some _ _).symm.trans H; with_reducible exact H2_) | with_reducible exact H | (rw [hy246]; exact H) | exact H
           have Ny246 := qH hy246
           clear hy246
           have H' := qH H
           clear H
           have p242 : 0 ≤ (x6_1 : Int) := of_decide_eq_true (by first | (with_reducible assumption) | assumption)
           have q242 : x6_1 < (l0.length : Int) := of_decide_eq_true (by first | (with_reducible assumption) | assumption)
           obtain ⟨ad242, A242_2, c242_2, e242, hx242_0, hx242_1, hx242_2, hl242_2, hi242_2⟩ := at_T40 HR0.out x6_1 p242 q242
           cases e242
           replace hx242_0 := (HB.out.cell (qO w _ hx242_0)).trans hx242_0
           replace hx242_1 := (HB.out.cell (qO w _ hx242_1)).trans hx242_1
           replace hx242_2 := (HB.out.cell (qO w _ hx242_2)).trans hx242_2
           have HR242_2 := qH hi242_2
           have HC242_2 := qH hl242_2
           clear hi242_2 hl242_2
           replace p242 := eq_true p242
           replace q242 := eq_true q242
           have p245 : 0 ≤ (x6_1 : Int) := of_decide_eq_true (by first | (with_reducible assumption) | assumption)
           have q245 : x6_1 < (l0.length : Int) := of_decide_eq_true (by first | (with_reducible assumption) | assumption)
           obtain ⟨ad245, A245_2, c245_2, e245, hx245_0, hx245_1, hx245_2, hl245_2, hi245_2⟩ := at_T40 HR0.out x6_1 p245 q245
           obtain rfl : ad242 = ad245 := (by injection e245)
           replace hx245_0 := (HB.out.cell (qO w _ hx245_0)).trans hx245_0
           replace hx245_1 := (HB.out.cell (qO w _ hx245_1)).trans hx245_1
           replace hx245_2 := (HB.out.cell (qO w _ hx245_2)).trans hx245_2
           have HR245_2 := qH hi245_2
           have HC245_2 := qH hl245_2
           clear hi245_2 hl245_2
           replace p245 := eq_true p245
           replace q245 := eq_true q245
           have ea_ := Option.some.inj (hx242_2.symm.trans hx245_2)
           injection ea_ with ea_ en_ ec_
           subst ea_
           subst ec_
           clear en_
           go_wp2_with (first | ((with_reducible refine gate_builtin (b := .append) (xs := #[.tmp 39, .tmp 45]) rfl ?_); at_builtin; refine Kd.R_append k24 (w0 := w) w.heap.size rfl (.tmp 39) (.tmp 45) 25 24 (.agg #[(.string ⟨#[]⟩), (.int .i64 0)]) 24 rfl Try.underlying25 info24 rfl (by decide) (by omega) u5 x5_1 (⟨(rd_T40 l0 x6_1).f0.f0, (rd_T40 l0 x6_1).f0.f1⟩ : S24) [.string ((rd_T40 l0 x6_1).f0.f0), .int .i64 ((rd_T40 l0 x6_1).f0.f1)] (fun k_ => k_ ≠ gb241) (fun _ => False) rfl rfl ?aP (fun _ hk => hk.elim) ?aF ?aO ?aB ?aS ?aL ?_; (case aP => exact k24_mkM _ _ _ (⟨(rd_T40 l0 x6_1).f0.f0, (rd_T40 l0 x6_1).f0.f1⟩ : S24)); (case aB => exact (by repeat (first | (with_reducible first | exact HB.out | apply qL | apply qJ | apply qK | refine qI ?_ GE241.out) | exact HB.out))); (case aF => exact (fun k_ hk => Kd.freshB (g := gb241) (by (with_reducible repeat first | apply qA | apply qC | apply qB); exact BK241.out) k_ hk)); (case aO => exact (by (with_reducible repeat first | apply zRa | apply zRb | apply zRc); exact HO_5.out)); (case aS => exact (below_size (by repeat (first | (with_reducible first | exact HB.out | apply qL | apply qJ | apply qK | refine qI ?_ GE241.out) | exact HB.out)))); (case aL => have := LMc12.out; omega); intro v247 w13 ho hb hg hat; rw [← Ny246.out] at ho; have n0_ := qH (blk_grown (g := gb241) (by (with_reducible repeat first | apply qA | apply qC | apply qB); exact BK241.out) hg (Kd.R_away HO_5.out (fun _ hk => hk))); have n1_ := qH (hb); have n2_ := qH (ho); clear BK241; clear HB; clear HO_5; have BK241 := n0_; have HB := n1_; have HO248 := n2_; clear n0_ n1_ n2_; clear ho hb hg hat))
           repeat (go_quiet (first | ((with_reducible refine gate_builtin (b := .append) (xs := #[.tmp 39, .tmp 45]) rfl ?_); at_builtin; refine Kd.R_append k24 (w0 := w) w.heap.size rfl (.tmp 39) (.tmp 45) 25 24 (.agg #[(.string ⟨#[]⟩), (.int .i64 0)]) 24 rfl Try.underlying25 info24 rfl (by decide) (by omega) u5 x5_1 (⟨(rd_T40 l0 x6_1).f0.f0, (rd_T40 l0 x6_1).f0.f1⟩ : S24) [.string ((rd_T40 l0 x6_1).f0.f0), .int .i64 ((rd_T40 l0 x6_1).f0.f1)] (fun k_ => k_ ≠ gb241) (fun _ => False) rfl rfl ?aP (fun _ hk => hk.elim) ?aF ?aO ?aB ?aS ?aL ?_; (case aP => exact k24_mkM _ _ _ (⟨(rd_T40 l0 x6_1).f0.f0, (rd_T40 l0 x6_1).f0.f1⟩ : S24)); (case aB => exact (by repeat (first | (with_reducible first | exact HB.out | apply qL | apply qJ | apply qK | refine qI ?_ GE241.out) | exact HB.out))); (case aF => exact (fun k_ hk => Kd.freshB (g := gb241) (by (with_reducible repeat first | apply qA | apply qC | apply qB); exact BK241.out) k_ hk)); (case aO => exact (by (with_reducible repeat first | apply zRa | apply zRb | apply zRc); exact HO_5.out)); (case aS => exact (below_size (by repeat (first | (with_reducible first | exact HB.out | apply qL | apply qJ | apply qK | refine qI ?_ GE241.out) | exact HB.out)))); (case aL => have := LMc12.out; omega); intro v247 w13 ho hb hg hat; rw [← Ny246.out] at ho; have n0_ := qH (blk_grown (g := gb241) (by (with_reducible repeat first | apply qA | apply qC | apply qB); exact BK241.out) hg (Kd.R_away HO_5.out (fun _ hk => hk))); have n1_ := qH (hb); have n2_ := qH (ho); clear BK241; clear HB; clear HO_5; have BK241 := n0_; have HB := n1_; have HO248 := n2_; clear n0_ n1_ n2_; clear ho hb hg hat)); try go_wp2_with (first | ((with_reducible refine gate_builtin (b := .append) (xs := #[.tmp 39, .tmp 45]) rfl ?_); at_builtin; refine Kd.R_append k24 (w0 := w) w.heap.size rfl (.tmp 39) (.tmp 45) 25 24 (.agg #[(.string ⟨#[]⟩), (.int .i64 0)]) 24 rfl Try.underlying25 info24 rfl (by decide) (by omega) u5 x5_1 (⟨(rd_T40 l0 x6_1).f0.f0, (rd_T40 l0 x6_1).f0.f1⟩ : S24) [.string ((rd_T40 l0 x6_1).f0.f0), .int .i64 ((rd_T40 l0 x6_1).f0.f1)] (fun k_ => k_ ≠ gb241) (fun _ => False) rfl rfl ?aP (fun _ hk => hk.elim) ?aF ?aO ?aB ?aS ?aL ?_; (case aP => exact k24_mkM _ _ _ (⟨(rd_T40 l0 x6_1).f0.f0, (rd_T40 l0 x6_1).f0.f1⟩ : S24)); (case aB => exact (by repeat (first | (with_reducible first | exact HB.out | apply qL | apply qJ | apply qK | refine qI ?_ GE241.out) | exact HB.out))); (case aF => exact (fun k_ hk => Kd.freshB (g := gb241) (by (with_reducible repeat first | apply qA | apply qC | apply qB); exact BK241.out) k_ hk)); (case aO => exact (by (with_reducible repeat first | apply zRa | apply zRb | apply zRc); exact HO_5.out)); (case aS => exact (below_size (by repeat (first | (with_reducible first | exact HB.out | apply qL | apply qJ | apply qK | refine qI ?_ GE241.out) | exact HB.out)))); (case aL => have := LMc12.out; omega); intro v247 w13 ho hb hg hat; rw [← Ny246.out] at ho; have n0_ := qH (blk_grown (g := gb241) (by (with_reducible repeat first | apply qA | apply qC | apply qB); exact BK241.out) hg (Kd.R_away HO_5.out (fun _ hk => hk))); have n1_ := qH (hb); have n2_ := qH (ho); clear BK241; clear HB; clear HO_5; have BK241 := n0_; have HB := n1_; have HO248 := n2_; clear n0_ n1_ n2_; clear ho hb hg hat)))
           go_roundg k2
           case measure => have := HK1.out; have := HK2.out; omega
           case rel => exact ⟨(y246), (wrap64 (x6_1 + 1)), (by first | rfl | (simp; done) | (simp; exact qEmp _) | (simp [*]; done)), H', ⟨by have := HK1.out; have := HK2.out; omega⟩, ⟨by (with_reducible repeat first | apply zRa | apply zRb | apply zRc); exact HO248.out⟩, ⟨by (with_reducible repeat first | apply qA | apply qC | apply qB); exact BK241.out⟩, ⟨by repeat (first | (with_reducible first | exact HB.out | apply qL | apply qJ | apply qK | refine qI ?_ GE241.out) | exact HB.out)⟩⟩
          ·rw [if_neg c12] at H
           exact absurd H (by simp)
         ·replace c11 := Bool.eq_false_iff.mpr c11
          subst c11
          have H1 : (codicilref19_Users.l0 k2 l0 x5_1 (wrap64 (x6_1 + 1)) a1_0 a1_1) = some r := by rw [if_neg (show ¬ (false = true) by decide)] at H; exact H
          clear H
          have H := H1
          clear H1
          have H' := qH H
          clear H
          have p242 : 0 ≤ (x6_1 : Int) := of_decide_eq_true (by first | (with_reducible assumption) | assumption)
          have q242 : x6_1 < (l0.length : Int) := of_decide_eq_true (by first | (with_reducible assumption) | assumption)
          obtain ⟨ad242, A242_2, c242_2, e242, hx242_0, hx242_1, hx242_2, hl242_2, hi242_2⟩ := at_T40 HR0.out x6_1 p242 q242
          cases e242
          replace hx242_0 := (HB.out.cell (qO w _ hx242_0)).trans hx242_0
          replace hx242_1 := (HB.out.cell (qO w _ hx242_1)).trans hx242_1
          replace hx242_2 := (HB.out.cell (qO w _ hx242_2)).trans hx242_2
          have HR242_2 := qH hi242_2
          have HC242_2 := qH hl242_2
          clear hi242_2 hl242_2
          replace p242 := eq_true p242
          replace q242 := eq_true q242
          go_wp2
          repeat (go_quiet (fail); try go_wp2)
          go_roundg k2
          case measure => have := HK1.out; have := HK2.out; omega
          case rel => exact ⟨(x5_1), (wrap64 (x6_1 + 1)), (by first | rfl | (simp; done) | (simp; exact qEmp _) | (simp [*]; done)), H', ⟨by have := HK1.out; have := HK2.out; omega⟩, ⟨by (with_reducible repeat first | apply zRa | apply zRb | apply zRc); exact HO_5.out⟩, ⟨by (with_reducible repeat first | apply qA | apply qC | apply qB); exact BK241.out⟩, ⟨by repeat (first | (with_reducible first | exact HB.out | apply qL | apply qJ | apply qK | refine qI ?_ GE241.out) | exact HB.out)⟩⟩
       ·rw [if_neg c6] at H
        exact absurd H (by simp)
      ·rw [if_neg c5] at H
       exact absurd H (by simp)
   ·rw [if_neg c4] at H
    have c4b0 : decide (x6_1 < (l0.length : Int)) = false := decide_eq_false c4
    clear c4
    obtain rfl := Option.some.inj H
    simp only [Option.some.injEq, Prod.mk.injEq] at H
    obtain ⟨rfl⟩ := H
    go_wp2
    repeat (go_quiet (fail); try go_wp2)
    go_ret
    exact ⟨_, by first | rfl | (simp [errW_none, errW_some] <;> rfl) | (simp [*, errW_none, errW_some] <;> rfl), by (with_reducible repeat first | apply zRa | apply zRb | apply zRc); exact Kd.R_mono HO_5.out (fun _ hk => trivial), by repeat (first | (with_reducible first | exact HB.out | apply qL | apply qJ | apply qK | refine qI ?_ GE241.out) | exact HB.out)⟩

end Go.Proofs.Ytddjhmelniphgaa.Print
