-- Written by wip/tools/xprint.py of this session's repo (the kit's print, run with external functions). Lean checks it.
import Derived.Test.YtddjhmelniphgaaPrint0
import Derived.Test.YtddjhmelniphgaaPrint2
namespace Go.Proofs.Ytddjhmelniphgaa.Print
open Go.RowKit Go.Proofs.YtddjhmelniphgaaW.PrintWords Go.Proofs.YtddjhmelniphgaaW.PrintLast Go.Proofs.YtddjhmelniphgaaW.PrintMore
attribute [local go_sem] max2_int min2_int max_two min_two max_three min_three max_four min_four   -- for this text's walks alone
set_option linter.unusedVariables false
set_option linter.unusedSimpArgs false

/-! ### graph_Users: function 16 -/
def graph_Users.l0 : Nat → List (S24) → List (S40) → Int → Int → ByteArray → Int → Option ((List (S24)))
 | 0, _, _, _, _, _, _ => none
 | k + 1, x4, x7, x8, x9, x122000, x122001 => if x9 < x8 then (if 0 ≤ x9 then (if x9 < (x7.length : Int) then ((api_Node_37.f k ((rd_T40 x7 x9).f1) x122000 x122001).bind fun t124 => (if t124 = true then (if x4.length < 5864062014805 then (graph_Users.l0 k (x4 ++ [(⟨(rd_T40 x7 x9).f0.f0, (rd_T40 x7 x9).f0.f1⟩ : S24)]) x7 x8 (wrap64 (x9 + 1)) x122000 x122001) else (none)) else (graph_Users.l0 k x4 x7 x8 (wrap64 (x9 + 1)) x122000 x122001))) else (none)) else (none)) else (some x4)
def graph_Users.f (k : Nat) (l0 : List (S40)) (a1_0 : ByteArray) (a1_1 : Int) : Option ((List (S24))) := graph_Users.l0 k ([] : List (S24)) l0 (l0.length : Int) 0 a1_0 a1_1
theorem graph_Users.mono_l : ∀ k, (∀ y0 y1 y2 y3 y4 y5, LeO (graph_Users.l0 k y0 y1 y2 y3 y4 y5) (graph_Users.l0 (k + 1) y0 y1 y2 y3 y4 y5))
 | 0 => fun _ _ _ _ _ _ r h => by simp [graph_Users.l0] at h
 | k + 1 => by
  have ih0 := graph_Users.mono_l k
  ·intro y0 y1 y2 y3 y4 y5
   unfold graph_Users.l0
   repeat' first
   | (with_reducible exact ih0 _ _ _ _ _ _)
   | (with_reducible exact api_Node_37.mono _ _ _ _)
   | (with_reducible exact LeO.refl _)
   | (with_reducible exact LeO.none _)
   | (with_reducible refine LeO.ite ?_ ?_)
   | (with_reducible refine LeO.bind ?_ (fun _ => ?_))
   | exact ih0 _ _ _ _ _ _
   | exact api_Node_37.mono _ _ _ _
   | exact LeO.none _
   | refine LeO.ite ?_ ?_
   | refine LeO.bind ?_ (fun _ => ?_)
theorem graph_Users.mono : ∀ a0 a1 a2 k, LeO (graph_Users.f k a0 a1 a2) (graph_Users.f (k + 1) a0 a1 a2) := by
 intro a0 a1 a2 k
 have ih0 := graph_Users.mono_l k
 unfold graph_Users.f
 repeat' first
   | (with_reducible exact ih0 _ _ _ _ _ _)
   | (with_reducible exact api_Node_37.mono _ _ _ _)
   | (with_reducible exact LeO.refl _)
   | (with_reducible exact LeO.none _)
   | (with_reducible refine LeO.ite ?_ ?_)
   | (with_reducible refine LeO.bind ?_ (fun _ => ?_))
   | exact ih0 _ _ _ _ _ _
   | exact api_Node_37.mono _ _ _ _
   | exact LeO.none _
   | refine LeO.ite ?_ ?_
   | refine LeO.bind ?_ (fun _ => ?_)
set_option maxHeartbeats 8000000 in
set_option maxRecDepth 100000 in
theorem graph_Users.calls (k : Nat) (A0 : Option Addr) (c0 : Nat) (l0 : List (S40)) (a1_0 : ByteArray) (a1_1 : Int) (r : List (S24)) (w : World) (hr0 : Kd.C k40 w A0 l0.length l0) (hc0 : l0.length ≤ c0) (h : graph_Users.f k l0 a1_0 a1_1 = some r) :
  Calls Try.prog 16 #[.slice A0 l0.length c0, .agg #[.string a1_0, .int .i64 a1_1]] w fun e w' => ∃ v0_ : Value, e = .returned (v0_) ∧ Kd.R k24 24 w' w.heap.size (fun _ => True) v0_ r ∧ Below w.heap.size w w' := by
 have hu24 := Try.underlying24
 have hu40 := Try.underlying40
 have HR0 := qH hr0
 have HC0 := qH hc0
 clear hr0 hc0
 have HB := qH (Below.refl w.heap.size w)
 have H : (graph_Users.l0 k ([] : List (S24)) l0 (l0.length : Int) 0 a1_0 a1_1) = some r := h
 clear h
 have H' := qH H
 clear H
 go_enter Try.func16, Try.ntmps16
 go_wp2_with (first | ((with_reducible refine gate_dst (N := 3) rfl ?_); refine box_event ?hg (N := 3) ?hd (cs := #[.string a1_0, .int .i64 a1_1]) (t := 24) ?hr ?_; (case hd => rfl); (case hg => rfl); (case hr => first | (go_simp; done) | (go_simp; rfl) | (go_simp; simp [IntKind.wrap_u32]; done)); intro gb121 hg w3 hbox hb; have n0_ := qH (below_step (by repeat (first | (with_reducible first | exact HB.out | apply qL | apply qJ | apply qK) | exact HB.out)) hb); have n1_ := qH (hbox); have n2_ := qH ((by rw [hg]; exact (below_size (by repeat (first | (with_reducible first | exact HB.out | apply qL | apply qJ | apply qK) | exact HB.out))) : w.heap.size ≤ gb121)); have n3_ := n2_; clear HB; have HB := n0_; have BK121 := n1_; have GW121 := n2_; have GE121 := n3_; clear n0_ n1_ n2_ n3_; clear hb hbox hg))
 go_loopg [4, 9] k (fun kq v4 v9 w' => ∃ (x4_1 : List (S24)) (x9_1 : Int), v9 = .int .i64 x9_1 ∧ Aside0 (graph_Users.l0 kq x4_1 l0 (l0.length : Int) x9_1 a1_0 a1_1 = some r) ∧ Aside0 (kq ≤ k) ∧ Aside0 (Kd.R k24 24 w' w.heap.size (fun k_ => k_ ≠ gb121) v4 x4_1) ∧ Aside0 (w'.heap[gb121]? = some (.cells #[.string a1_0, .int .i64 a1_1] 24 (0, 0))) ∧ Aside0 (Below w.heap.size w w'))
 case atStart => exact ⟨(([] : List (S24))), (0), (by first | rfl | (simp; done) | (simp; exact qEmp _) | (simp [*]; done)), H', ⟨Nat.le_refl _⟩, ⟨by first | exact Kd.R_nil _ _ _ _ _ | exact Kd.N_nil _ _ _ _ _ | exact Kd.V_nil _ _ _ _ _ | exact Kd.Q_nil _ _ _ _ _ | exact Kd.S_nil _ _ _ _ _⟩, ⟨by (with_reducible repeat first | apply qA | apply qC | apply qB); exact BK121.out⟩, ⟨by repeat (first | (with_reducible first | exact HB.out | apply qL | apply qJ | apply qK | refine qI ?_ GE121.out) | exact HB.out)⟩⟩
 case round =>
  clear H'
  try clear c1
  try clear p2
  obtain ⟨x4_1, x9_1, rfl, HA, HK1, HO_4, BK121, HB⟩ := hrel
  cases gk with
  | zero => exact absurd HA.out (by simp [graph_Users.l0])
  | succ k1 =>
   have H := HA.out
   clear HA
   simp only [graph_Users.l0] at H
   by_cases c4 : x9_1 < (l0.length : Int)
   ·rw [if_pos c4] at H
    have c4b0 : decide (x9_1 < (l0.length : Int)) = true := decide_eq_true c4
    clear c4
    by_cases c5 : 0 ≤ x9_1
    ·rw [if_pos c5] at H
     have c5b0 : decide (0 ≤ x9_1) = true := decide_eq_true c5
     clear c5
     by_cases c6 : x9_1 < (l0.length : Int)
     ·rw [if_pos c6] at H
      have c6b0 : decide (x9_1 < (l0.length : Int)) = true := decide_eq_true c6
      clear c6
      replace H := Option.bind_eq_some_iff.mp H
      obtain ⟨t124, A70, H⟩ := H
      (try dsimp only at H)
      have A7 := qH A70
      clear A70
      by_cases c8 : t124 = true
      ·subst c8
       have H1 : (if x4_1.length < 5864062014805 then (graph_Users.l0 k1 (x4_1 ++ [(⟨(rd_T40 l0 x9_1).f0.f0, (rd_T40 l0 x9_1).f0.f1⟩ : S24)]) l0 (l0.length : Int) (wrap64 (x9_1 + 1)) a1_0 a1_1) else (none)) = some r := by rw [if_pos rfl] at H; exact H
       clear H
       have H := H1
       clear H1
       by_cases c9 : x4_1.length < 5864062014805
       ·rw [if_pos c9] at H
        have LMc9 := qH c9
        clear c9
        obtain ⟨y125, hy125⟩ : ∃ y_ : List (S24), y_ = (x4_1 ++ [(⟨(rd_T40 l0 x9_1).f0.f0, (rd_T40 l0 x9_1).f0.f1⟩ : S24)]) := ⟨_, rfl⟩
        replace H : (graph_Users.l0 k1 y125 l0 (l0.length : Int) (wrap64 (x9_1 + 1)) a1_0 a1_1) = some r := by first | (rw [hy125]; with_reducible exact H) | (have H2_ := (Option.bind_some _ _).symm.trans H; rw [hy125]; with_reducible exact H2_) | (have H2_ := (Option.bind_some _ _).symm.trans H; with_reducible exact H2_) | with_reducible exact H | (rw [hy125]; exact H) | exact H
        have Ny125 := qH hy125
        clear hy125
        have H' := qH H
        clear H
        have p122 : 0 ≤ (x9_1 : Int) := of_decide_eq_true (by first | (with_reducible assumption) | assumption)
        have q122 : x9_1 < (l0.length : Int) := of_decide_eq_true (by first | (with_reducible assumption) | assumption)
        obtain ⟨ad122, A122_2, c122_2, e122, hx122_0, hx122_1, hx122_2, hl122_2, hi122_2⟩ := at_T40 HR0.out x9_1 p122 q122
        cases e122
        replace hx122_0 := (HB.out.cell (qO w _ hx122_0)).trans hx122_0
        replace hx122_1 := (HB.out.cell (qO w _ hx122_1)).trans hx122_1
        replace hx122_2 := (HB.out.cell (qO w _ hx122_2)).trans hx122_2
        have HR122_2 := qH hi122_2
        have HC122_2 := qH hl122_2
        clear hi122_2 hl122_2
        replace p122 := eq_true p122
        replace q122 := eq_true q122
        go_wp2_with (first | ((with_reducible refine gate_dst (N := 6) rfl ?_); refine box_event ?hg (N := 6) ?hd (cs := #[.string (⟨#[]⟩ : ByteArray), .int .i64 0, .slice none 0 0]) (t := 40) ?hr ?_; (case hd => rfl); (case hg => rfl); (case hr => first | (go_simp; done) | (go_simp; rfl) | (go_simp; simp [IntKind.wrap_u32]; done)); intro gb123 hg w10 hbox hb; have n0_ := qH (Kd.R_below (by (with_reducible repeat (first | apply Kd.R_alloc | apply Kd.R_drewN | apply Kd.R_drew)); exact HO_4.out) hb); have n1_ := qH (qD (g := gb121) (by (with_reducible repeat first | apply qA | apply qC | apply qB); exact BK121.out) hb); have n2_ := qH (below_step (by repeat (first | (with_reducible first | exact HB.out | apply qL | apply qJ | apply qK | refine qI ?_ GE121.out) | exact HB.out)) hb); have n3_ := qH (hbox); have n4_ := qH ((by rw [hg]; exact (below_size (by repeat (first | (with_reducible first | exact HB.out | apply qL | apply qJ | apply qK | refine qI ?_ GE121.out) | exact HB.out))) : w.heap.size ≤ gb123)); have n5_ := n4_; have n6_ := qH ((by rw [hg]; exact qN (blk_lt (g := gb121) (by (with_reducible repeat first | apply qA | apply qC | apply qB); exact BK121.out)) : gb121 ≠ gb123)); have n7_ := qH ((by rw [hg]; exact Nat.ne_of_gt (blk_lt (g := gb121) (by (with_reducible repeat first | apply qA | apply qC | apply qB); exact BK121.out)) : gb123 ≠ gb121)); clear HO_4; clear BK121; clear HB; have HO_4 := n0_; have BK121 := n1_; have HB := n2_; have BK123 := n3_; have GW123 := n4_; have GE123 := n5_; have NB121_123 := n6_; have NB123_121 := n7_; clear n0_ n1_ n2_ n3_ n4_ n5_ n6_ n7_; clear hb hbox hg; have hnb11 := NB123_121.out; have hnc11 := NB121_123.out; obtain ⟨hcz12_0, hcz12_1, hcz12_2⟩ := qc3 BK123.out; obtain ⟨hfz12_0, hfz12_1, hfz12_2⟩ := qf3 BK123.out; obtain ⟨hcz13_0, hcz13_1⟩ := qc2 BK121.out; obtain ⟨hfz13_0, hfz13_1⟩ := qf2 BK121.out) | ((with_reducible refine gate_callee (f := 37) rfl ?_); refine goesL_ (some 16) rfl rfl Try.func37 (by kernel_rfl) rfl #[.slice A122_2 ((rd_T40 l0 x9_1).f1).length c122_2, .agg #[.string a1_0, .int .i64 a1_1]] rfl (by (try simp only [List.map_toArray, List.map_cons, List.map_nil]); first | done | rfl | (simp only [List.length_drop, List.length_take]; rfl)) ?_; (with_reducible refine (api_Node_37.calls k1 _ _ ((rd_T40 l0 x9_1).f1) a1_0 a1_1 true _ ?side1 ?side2 A7.out).mono ?_); (case side1 => exact Kd.C_below HR122_2.out (by repeat (first | (with_reducible first | exact HB.out | apply qL | apply qJ | apply qK | refine qI ?_ GE121.out | refine qI ?_ GE123.out) | exact HB.out))); (case side2 => exact HC122_2.out); rintro e w14 ⟨rfl, hb⟩; refine ⟨_, rfl, ?_⟩; have n0_ := qH (Kd.R_below (by (with_reducible repeat (first | apply Kd.R_alloc | apply Kd.R_drewN | apply Kd.R_drew)); exact (Kd.R_mono (Kd.R_far (p := ⟨gb123, 2, none⟩) (Kd.R_far (p := ⟨gb123, 1, none⟩) (Kd.R_far (p := ⟨gb123, 0, none⟩) (Kd.R_types HO_4.out BK123.out (by decide)) (fun _ hk => hk.2) (.string ((rd_T40 l0 x9_1).f0.f0))) (fun _ hk => hk.2) (.int .i64 ((rd_T40 l0 x9_1).f0.f1))) (fun _ hk => hk.2) (.slice A122_2 ((rd_T40 l0 x9_1).f1).length c122_2)) (fun _ h_ => h_.1))) hb); have n1_ := qH (qD (g := gb121) (o := .cells #[.string a1_0, .int .i64 a1_1] 24 (0, 0)) (by (with_reducible repeat first | apply qA | apply qC | apply qB); refine qG ?_ NB121_123.out _; (with_reducible repeat first | apply qA | apply qC | apply qB); refine qG ?_ NB121_123.out _; (with_reducible repeat first | apply qA | apply qC | apply qB); refine qG ?_ NB121_123.out _; (with_reducible repeat first | apply qA | apply qC | apply qB); exact BK121.out) hb); have n2_ := qH (qD (g := gb123) (o := .cells #[.string ((rd_T40 l0 x9_1).f0.f0), .int .i64 ((rd_T40 l0 x9_1).f0.f1), .slice A122_2 ((rd_T40 l0 x9_1).f1).length c122_2] 40 (0, 0)) (by (with_reducible repeat first | apply qA | apply qC | apply qB); refine blk_put (cs := #[.string ((rd_T40 l0 x9_1).f0.f0), .int .i64 ((rd_T40 l0 x9_1).f0.f1), .slice none 0 0]) ?_ 2 _ rfl; (with_reducible repeat first | apply qA | apply qC | apply qB); refine blk_put (cs := #[.string ((rd_T40 l0 x9_1).f0.f0), .int .i64 0, .slice none 0 0]) ?_ 1 _ rfl; (with_reducible repeat first | apply qA | apply qC | apply qB); refine blk_put (cs := #[.string (⟨#[]⟩ : ByteArray), .int .i64 0, .slice none 0 0]) ?_ 0 _ rfl; (with_reducible repeat first | apply qA | apply qC | apply qB); exact BK123.out) hb); have n3_ := qH (below_step (by repeat (first | (with_reducible first | exact HB.out | apply qL | apply qJ | apply qK | refine qI ?_ GE121.out | refine qI ?_ GE123.out) | exact HB.out)) hb); clear HO_4; clear BK121; clear BK123; clear HB; have HO_4 := n0_; have BK121 := n1_; have BK123 := n2_; have HB := n3_; clear n0_ n1_ n2_ n3_; (try clear hb); (try clear hb2); (try clear hk); (try clear hi); obtain ⟨hcz15_0, hcz15_1, hcz15_2⟩ := qc3 BK123.out; obtain ⟨hfz15_0, hfz15_1, hfz15_2⟩ := qf3 BK123.out) | ((with_reducible refine gate_builtin (b := .append) (xs := #[.tmp 17, .tmp 20]) rfl ?_); at_builtin; refine Kd.R_append k24 (w0 := w) w.heap.size rfl (.tmp 17) (.tmp 20) 25 24 (.agg #[(.string ⟨#[]⟩), (.int .i64 0)]) 24 rfl Try.underlying25 info24 rfl (by decide) (by omega) u4 x4_1 (⟨(rd_T40 l0 x9_1).f0.f0, (rd_T40 l0 x9_1).f0.f1⟩ : S24) [.string ((rd_T40 l0 x9_1).f0.f0), .int .i64 ((rd_T40 l0 x9_1).f0.f1)] (fun k_ => k_ ≠ gb121) (fun _ => False) rfl rfl ?aP (fun _ hk => hk.elim) ?aF ?aO ?aB ?aS ?aL ?_; (case aP => exact k24_mkM _ _ _ (⟨(rd_T40 l0 x9_1).f0.f0, (rd_T40 l0 x9_1).f0.f1⟩ : S24)); (case aB => exact (by repeat (first | (with_reducible first | exact HB.out | apply qL | apply qJ | apply qK | refine qI ?_ GE121.out | refine qI ?_ GE123.out) | exact HB.out))); (case aF => exact (fun k_ hk => Kd.freshB (g := gb121) (by (with_reducible repeat first | apply qA | apply qC | apply qB); exact BK121.out) k_ hk)); (case aO => exact (by (with_reducible repeat (first | apply Kd.R_alloc | apply Kd.R_drewN | apply Kd.R_drew)); exact HO_4.out)); (case aS => exact (below_size (by repeat (first | (with_reducible first | exact HB.out | apply qL | apply qJ | apply qK | refine qI ?_ GE121.out | refine qI ?_ GE123.out) | exact HB.out)))); (case aL => have := LMc9.out; omega); intro v126 w16 ho hb hg hat; rw [← Ny125.out] at ho; have n0_ := qH (blk_grown (g := gb121) (by (with_reducible repeat first | apply qA | apply qC | apply qB); exact BK121.out) hg (Kd.R_away HO_4.out (fun _ hk => hk))); have n1_ := qH (blk_grown (g := gb123) (by (with_reducible repeat first | apply qA | apply qC | apply qB); exact BK123.out) hg (Kd.R_ne HO_4.out BK123.out (by decide))); have n2_ := qH (hb); have n3_ := qH (ho); clear BK121; clear BK123; clear HB; clear HO_4; have BK121 := n0_; have BK123 := n1_; have HB := n2_; have HO127 := n3_; clear n0_ n1_ n2_ n3_; clear ho hb hg hat))
        go_roundg k1
        case measure => have := HK1.out; omega
        case rel => exact ⟨(y125), (wrap64 (x9_1 + 1)), (by first | rfl | (simp; done) | (simp; exact qEmp _) | (simp [*]; done)), H', ⟨by have := HK1.out; omega⟩, ⟨by (with_reducible repeat (first | apply Kd.R_alloc | apply Kd.R_drewN | apply Kd.R_drew)); exact HO127.out⟩, ⟨by (with_reducible repeat first | apply qA | apply qC | apply qB); exact BK121.out⟩, ⟨by repeat (first | (with_reducible first | exact HB.out | apply qL | apply qJ | apply qK | refine qI ?_ GE121.out | refine qI ?_ GE123.out) | exact HB.out)⟩⟩
       ·rw [if_neg c9] at H
        exact absurd H (by simp)
      ·replace c8 := Bool.eq_false_iff.mpr c8
       subst c8
       have H1 : (graph_Users.l0 k1 x4_1 l0 (l0.length : Int) (wrap64 (x9_1 + 1)) a1_0 a1_1) = some r := by rw [if_neg (show ¬ (false = true) by decide)] at H; exact H
       clear H
       have H := H1
       clear H1
       have H' := qH H
       clear H
       have p122 : 0 ≤ (x9_1 : Int) := of_decide_eq_true (by first | (with_reducible assumption) | assumption)
       have q122 : x9_1 < (l0.length : Int) := of_decide_eq_true (by first | (with_reducible assumption) | assumption)
       obtain ⟨ad122, A122_2, c122_2, e122, hx122_0, hx122_1, hx122_2, hl122_2, hi122_2⟩ := at_T40 HR0.out x9_1 p122 q122
       cases e122
       replace hx122_0 := (HB.out.cell (qO w _ hx122_0)).trans hx122_0
       replace hx122_1 := (HB.out.cell (qO w _ hx122_1)).trans hx122_1
       replace hx122_2 := (HB.out.cell (qO w _ hx122_2)).trans hx122_2
       have HR122_2 := qH hi122_2
       have HC122_2 := qH hl122_2
       clear hi122_2 hl122_2
       replace p122 := eq_true p122
       replace q122 := eq_true q122
       go_wp2_with (first | ((with_reducible refine gate_dst (N := 6) rfl ?_); refine box_event ?hg (N := 6) ?hd (cs := #[.string (⟨#[]⟩ : ByteArray), .int .i64 0, .slice none 0 0]) (t := 40) ?hr ?_; (case hd => rfl); (case hg => rfl); (case hr => first | (go_simp; done) | (go_simp; rfl) | (go_simp; simp [IntKind.wrap_u32]; done)); intro gb123 hg w17 hbox hb; have n0_ := qH (Kd.R_below (by (with_reducible repeat (first | apply Kd.R_alloc | apply Kd.R_drewN | apply Kd.R_drew)); exact HO_4.out) hb); have n1_ := qH (qD (g := gb121) (by (with_reducible repeat first | apply qA | apply qC | apply qB); exact BK121.out) hb); have n2_ := qH (below_step (by repeat (first | (with_reducible first | exact HB.out | apply qL | apply qJ | apply qK | refine qI ?_ GE121.out) | exact HB.out)) hb); have n3_ := qH (hbox); have n4_ := qH ((by rw [hg]; exact (below_size (by repeat (first | (with_reducible first | exact HB.out | apply qL | apply qJ | apply qK | refine qI ?_ GE121.out) | exact HB.out))) : w.heap.size ≤ gb123)); have n5_ := n4_; have n6_ := qH ((by rw [hg]; exact qN (blk_lt (g := gb121) (by (with_reducible repeat first | apply qA | apply qC | apply qB); exact BK121.out)) : gb121 ≠ gb123)); have n7_ := qH ((by rw [hg]; exact Nat.ne_of_gt (blk_lt (g := gb121) (by (with_reducible repeat first | apply qA | apply qC | apply qB); exact BK121.out)) : gb123 ≠ gb121)); clear HO_4; clear BK121; clear HB; have HO_4 := n0_; have BK121 := n1_; have HB := n2_; have BK123 := n3_; have GW123 := n4_; have GE123 := n5_; have NB121_123 := n6_; have NB123_121 := n7_; clear n0_ n1_ n2_ n3_ n4_ n5_ n6_ n7_; clear hb hbox hg; have hnb18 := NB123_121.out; have hnc18 := NB121_123.out; obtain ⟨hcz19_0, hcz19_1, hcz19_2⟩ := qc3 BK123.out; obtain ⟨hfz19_0, hfz19_1, hfz19_2⟩ := qf3 BK123.out; obtain ⟨hcz20_0, hcz20_1⟩ := qc2 BK121.out; obtain ⟨hfz20_0, hfz20_1⟩ := qf2 BK121.out) | ((with_reducible refine gate_callee (f := 37) rfl ?_); refine goesL_ (some 16) rfl rfl Try.func37 (by kernel_rfl) rfl #[.slice A122_2 ((rd_T40 l0 x9_1).f1).length c122_2, .agg #[.string a1_0, .int .i64 a1_1]] rfl (by (try simp only [List.map_toArray, List.map_cons, List.map_nil]); first | done | rfl | (simp only [List.length_drop, List.length_take]; rfl)) ?_; (with_reducible refine (api_Node_37.calls k1 _ _ ((rd_T40 l0 x9_1).f1) a1_0 a1_1 false _ ?side1 ?side2 A7.out).mono ?_); (case side1 => exact Kd.C_below HR122_2.out (by repeat (first | (with_reducible first | exact HB.out | apply qL | apply qJ | apply qK | refine qI ?_ GE121.out | refine qI ?_ GE123.out) | exact HB.out))); (case side2 => exact HC122_2.out); rintro e w21 ⟨rfl, hb⟩; refine ⟨_, rfl, ?_⟩; have n0_ := qH (Kd.R_below (by (with_reducible repeat (first | apply Kd.R_alloc | apply Kd.R_drewN | apply Kd.R_drew)); exact (Kd.R_mono (Kd.R_far (p := ⟨gb123, 2, none⟩) (Kd.R_far (p := ⟨gb123, 1, none⟩) (Kd.R_far (p := ⟨gb123, 0, none⟩) (Kd.R_types HO_4.out BK123.out (by decide)) (fun _ hk => hk.2) (.string ((rd_T40 l0 x9_1).f0.f0))) (fun _ hk => hk.2) (.int .i64 ((rd_T40 l0 x9_1).f0.f1))) (fun _ hk => hk.2) (.slice A122_2 ((rd_T40 l0 x9_1).f1).length c122_2)) (fun _ h_ => h_.1))) hb); have n1_ := qH (qD (g := gb121) (o := .cells #[.string a1_0, .int .i64 a1_1] 24 (0, 0)) (by (with_reducible repeat first | apply qA | apply qC | apply qB); refine qG ?_ NB121_123.out _; (with_reducible repeat first | apply qA | apply qC | apply qB); refine qG ?_ NB121_123.out _; (with_reducible repeat first | apply qA | apply qC | apply qB); refine qG ?_ NB121_123.out _; (with_reducible repeat first | apply qA | apply qC | apply qB); exact BK121.out) hb); have n2_ := qH (qD (g := gb123) (o := .cells #[.string ((rd_T40 l0 x9_1).f0.f0), .int .i64 ((rd_T40 l0 x9_1).f0.f1), .slice A122_2 ((rd_T40 l0 x9_1).f1).length c122_2] 40 (0, 0)) (by (with_reducible repeat first | apply qA | apply qC | apply qB); refine blk_put (cs := #[.string ((rd_T40 l0 x9_1).f0.f0), .int .i64 ((rd_T40 l0 x9_1).f0.f1), .slice none 0 0]) ?_ 2 _ rfl; (with_reducible repeat first | apply qA | apply qC | apply qB); refine blk_put (cs := #[.string ((rd_T40 l0 x9_1).f0.f0), .int .i64 0, .slice none 0 0]) ?_ 1 _ rfl; (with_reducible repeat first | apply qA | apply qC | apply qB); refine blk_put (cs := #[.string (⟨#[]⟩ : ByteArray), .int .i64 0, .slice none 0 0]) ?_ 0 _ rfl; (with_reducible repeat first | apply qA | apply qC | apply qB); exact BK123.out) hb); have n3_ := qH (below_step (by repeat (first | (with_reducible first | exact HB.out | apply qL | apply qJ | apply qK | refine qI ?_ GE121.out | refine qI ?_ GE123.out) | exact HB.out)) hb); clear HO_4; clear BK121; clear BK123; clear HB; have HO_4 := n0_; have BK121 := n1_; have BK123 := n2_; have HB := n3_; clear n0_ n1_ n2_ n3_; (try clear hb); (try clear hb2); (try clear hk); (try clear hi)))
       go_roundg k1
       case measure => have := HK1.out; omega
       case rel => exact ⟨(x4_1), (wrap64 (x9_1 + 1)), (by first | rfl | (simp; done) | (simp; exact qEmp _) | (simp [*]; done)), H', ⟨by have := HK1.out; omega⟩, ⟨by (with_reducible repeat (first | apply Kd.R_alloc | apply Kd.R_drewN | apply Kd.R_drew)); exact HO_4.out⟩, ⟨by (with_reducible repeat first | apply qA | apply qC | apply qB); exact BK121.out⟩, ⟨by repeat (first | (with_reducible first | exact HB.out | apply qL | apply qJ | apply qK | refine qI ?_ GE121.out | refine qI ?_ GE123.out) | exact HB.out)⟩⟩
     ·rw [if_neg c6] at H
      exact absurd H (by simp)
    ·rw [if_neg c5] at H
     exact absurd H (by simp)
   ·rw [if_neg c4] at H
    have c4b0 : decide (x9_1 < (l0.length : Int)) = false := decide_eq_false c4
    clear c4
    obtain rfl := Option.some.inj H
    simp only [Option.some.injEq, Prod.mk.injEq] at H
    obtain ⟨rfl⟩ := H
    go_wp2
    go_ret
    exact ⟨_, by first | rfl | (simp [errW_none, errW_some] <;> rfl) | (simp [*, errW_none, errW_some] <;> rfl), by (with_reducible repeat (first | apply Kd.R_alloc | apply Kd.R_drewN | apply Kd.R_drew)); exact Kd.R_mono HO_4.out (fun _ hk => trivial), by repeat (first | (with_reducible first | exact HB.out | apply qL | apply qJ | apply qK | refine qI ?_ GE121.out) | exact HB.out)⟩

/-! ### codicillaw19_node: function 25 -/
def codicillaw19_node.f (a0 : ByteArray) : Option (ByteArray × Int) := some (a0, 1)
set_option maxHeartbeats 8000000 in
set_option maxRecDepth 100000 in
theorem codicillaw19_node.calls (a0 : ByteArray) (r1 : ByteArray) (r2 : Int) (w : World) (h : codicillaw19_node.f a0 = some (r1, r2)) :
  Calls Try.prog 25 #[.string a0] w fun e w' => e = .returned (.agg #[.string r1, .int .i64 r2]) ∧ Below w.heap.size w w' := by
 have hu24 := Try.underlying24
 have HB := qH (Below.refl w.heap.size w)
 have H : (some (a0, 1)) = some (r1, r2) := h
 clear h
 simp only [Option.some.injEq, Prod.mk.injEq] at H
 obtain ⟨rfl, rfl⟩ := H
 go_enter Try.func25, Try.ntmps25
 go_wp2_with (first | ((with_reducible refine gate_dst (N := 2) rfl ?_); refine box_event ?hg (N := 2) ?hd (cs := #[.string (⟨#[]⟩ : ByteArray), .int .i64 0]) (t := 24) ?hr ?_; (case hd => rfl); (case hg => rfl); (case hr => first | (go_simp; done) | (go_simp; rfl) | (go_simp; simp [IntKind.wrap_u32]; done)); intro gb128 hg w2 hbox hb; have n0_ := qH (below_step (by repeat (first | (with_reducible first | exact HB.out | apply qL | apply qJ | apply qK) | exact HB.out)) hb); have n1_ := qH (hbox); have n2_ := qH ((by rw [hg]; exact (below_size (by repeat (first | (with_reducible first | exact HB.out | apply qL | apply qJ | apply qK) | exact HB.out))) : w.heap.size ≤ gb128)); have n3_ := n2_; clear HB; have HB := n0_; have BK128 := n1_; have GW128 := n2_; have GE128 := n3_; clear n0_ n1_ n2_ n3_; clear hb hbox hg; obtain ⟨hcz3_0, hcz3_1⟩ := qc2 BK128.out; obtain ⟨hfz3_0, hfz3_1⟩ := qf2 BK128.out))
 refine bodyPost_ret (results_cell_row rfl _ _ gb128 24 #[.string a0, .int .i64 1] (0, 0) _ rfl (by (with_reducible repeat first | apply qA | apply qC | apply qB); refine blk_put (cs := #[.string a0, .int .i64 0]) ?_ 1 _ rfl; (with_reducible repeat first | apply qA | apply qC | apply qB); refine blk_put (cs := #[.string (⟨#[]⟩ : ByteArray), .int .i64 0]) ?_ 0 _ rfl; (with_reducible repeat first | apply qA | apply qC | apply qB); exact BK128.out) Try.underlying24 rfl (by kernel_rfl)) rfl ?_
 exact ⟨by first | rfl | (simp [errW_none, errW_some] <;> rfl) | (simp [*, errW_none, errW_some] <;> rfl), by repeat (first | (with_reducible first | exact HB.out | apply qL | apply qJ | apply qK | refine qI ?_ GE128.out) | exact HB.out)⟩

end Go.Proofs.Ytddjhmelniphgaa.Print
