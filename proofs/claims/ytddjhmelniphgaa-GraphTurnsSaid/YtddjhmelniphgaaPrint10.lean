-- Written by wip/tools/xprint.py of this session's repo (the kit's print, run with external functions). Lean checks it.
import Derived.Test.YtddjhmelniphgaaHLb
import Derived.Test.YtddjhmelniphgaaPrint0
namespace Go.Proofs.Ytddjhmelniphgaa.Print
open Go.RowKit Go.Proofs.YtddjhmelniphgaaW.PrintWords Go.Proofs.YtddjhmelniphgaaW.PrintLast Go.Proofs.YtddjhmelniphgaaW.PrintMore
attribute [local go_sem] max2_int min2_int max_two min_two max_three min_three max_four min_four   -- for this text's walks alone
set_option linter.unusedVariables false
set_option linter.unusedSimpArgs false

/-! ### codicilref19_Copy: function 18 -/
def codicilref19_Copy.l0 : Nat → List (S40) → List (S40) → Int → Option ((List (S40)))
 | 0, _, _, _ => none
 | k + 1, x0, x3, x4 => if x4 < (x0.length : Int) then (if 0 ≤ x4 then ((some (([] : List (S24)) : List (S24))).bind fun y276 => (if y276.length + ((rd_T40 x0 x4).f1).length < 5864062014805 then (if x3.length < 2932031007402 then (codicilref19_Copy.l0 k x0 (x3 ++ [(⟨(⟨(rd_T40 x0 x4).f0.f0, (rd_T40 x0 x4).f0.f1⟩ : S24), (y276 ++ ((rd_T40 x0 x4).f1))⟩ : S40)]) (wrap64 (x4 + 1))) else (none)) else (none))) else (none)) else (some x3)
def codicilref19_Copy.f (k : Nat) (l0 : List (S40)) : Option ((List (S40))) := codicilref19_Copy.l0 k l0 ([] : List (S40)) 0
theorem codicilref19_Copy.mono_l : ∀ k, (∀ y0 y1 y2, LeO (codicilref19_Copy.l0 k y0 y1 y2) (codicilref19_Copy.l0 (k + 1) y0 y1 y2))
 | 0 => fun _ _ _ r h => by simp [codicilref19_Copy.l0] at h
 | k + 1 => by
  have ih0 := codicilref19_Copy.mono_l k
  ·intro y0 y1 y2
   unfold codicilref19_Copy.l0
   repeat' first
   | (with_reducible exact ih0 _ _ _)
   | (with_reducible exact LeO.refl _)
   | (with_reducible exact LeO.none _)
   | (with_reducible refine LeO.ite ?_ ?_)
   | (with_reducible refine LeO.bind ?_ (fun _ => ?_))
   | exact ih0 _ _ _
   | exact LeO.none _
   | refine LeO.ite ?_ ?_
   | refine LeO.bind ?_ (fun _ => ?_)
theorem codicilref19_Copy.mono : ∀ a0 k, LeO (codicilref19_Copy.f k a0) (codicilref19_Copy.f (k + 1) a0) := by
 intro a0 k
 have ih0 := codicilref19_Copy.mono_l k
 unfold codicilref19_Copy.f
 repeat' first
   | (with_reducible exact ih0 _ _ _)
   | (with_reducible exact LeO.refl _)
   | (with_reducible exact LeO.none _)
   | (with_reducible refine LeO.ite ?_ ?_)
   | (with_reducible refine LeO.bind ?_ (fun _ => ?_))
   | exact ih0 _ _ _
   | exact LeO.none _
   | refine LeO.ite ?_ ?_
   | refine LeO.bind ?_ (fun _ => ?_)
def codicilref19_Copy.T5 : Bool × List (List Nat × List Nat) := (true, [([], []), ([], []), ([], []), ([1, 2], [1, 2]), ([3], [3]), ([4], [4]), ([], []), ([], []), ([], []), ([7, 8], [7, 8]), ([9], [9]), ([10], [10]), ([6, 11], [6, 11]), ([5, 12], [5, 12]), ([13], [13]), ([0, 14, 12], [0, 14]), ([15, 15, 0, 1, 2, 3, 4, 5, 6, 7, 8, 9, 10, 11, 12, 13, 14, 15], [0, 15])])
def codicilref19_Copy.B5 : List Nat := [0, 0, 0, 6, 14, 30, 0, 0, 0, 384, 896, 1920, 4032, 8190, 16382, 32767, 65535]
theorem codicilref19_Copy.tab5 : rtab .any (opsOf Try.f18 5) = codicilref19_Copy.T5 := by kernel_rfl
theorem codicilref19_Copy.bits5 : waitsOk codicilref19_Copy.T5.2 codicilref19_Copy.B5 = true := by kernel_rfl
set_option maxHeartbeats 8000000 in
set_option maxRecDepth 100000 in
theorem codicilref19_Copy.calls (k : Nat) (A0 : Option Addr) (c0 : Nat) (l0 : List (S40)) (r : List (S40)) (w : World) (hr0 : Kd.C k40 w A0 l0.length l0) (hc0 : l0.length ≤ c0) (h : codicilref19_Copy.f k l0 = some r) :
  Calls Try.prog 18 #[.slice A0 l0.length c0] w fun e w' => ∃ v0_ : Value, e = .returned (v0_) ∧ Kd.S k40 40 w' w.heap.size (fun _ => True) v0_ r ∧ Below w.heap.size w w' := by
 have hu24 := Try.underlying24
 have hu40 := Try.underlying40
 have HR0 := qH hr0
 have HC0 := qH hc0
 clear hr0 hc0
 have HB := qH (Below.refl w.heap.size w)
 have H : (codicilref19_Copy.l0 k l0 ([] : List (S40)) 0) = some r := h
 clear h
 have H' := qH H
 clear H
 go_enter Try.func18, Try.ntmps18
 go_wp2
 go_loopg [3, 4] k (fun kq v3 v4 w' => ∃ (x3_1 : List (S40)) (x4_1 : Int), v4 = .int .i64 x4_1 ∧ Aside0 (codicilref19_Copy.l0 kq l0 x3_1 x4_1 = some r) ∧ Aside0 (kq ≤ k) ∧ Aside0 (Kd.S k40 40 w' w.heap.size (fun _ => True) v3 x3_1) ∧ Aside0 (Below w.heap.size w w'))
 case atStart => exact ⟨(([] : List (S40))), (0), (by first | rfl | (simp; done) | (simp; exact qEmp _) | (simp [*]; done)), H', ⟨Nat.le_refl _⟩, ⟨by first | exact Kd.S_nil _ _ _ _ _ | exact Kd.N_nil _ _ _ _ _ | exact Kd.V_nil _ _ _ _ _ | exact Kd.Q_nil _ _ _ _ _ | exact Kd.R_nil _ _ _ _ _⟩, ⟨by repeat (first | (with_reducible first | exact HB.out | apply qL | apply qJ | apply qK) | exact HB.out)⟩⟩
 case round =>
  clear H'
  try clear c1
  obtain ⟨x3_1, x4_1, rfl, HA, HK1, HO_3, HB⟩ := hrel
  cases gk with
  | zero => exact absurd HA.out (by simp [codicilref19_Copy.l0])
  | succ k1 =>
   have H := HA.out
   clear HA
   simp only [codicilref19_Copy.l0] at H
   by_cases c2 : x4_1 < (l0.length : Int)
   ·rw [if_pos c2] at H
    have c2b0 : decide (x4_1 < (l0.length : Int)) = true := decide_eq_true c2
    clear c2
    by_cases c3 : 0 ≤ x4_1
    ·rw [if_pos c3] at H
     have c3b0 : decide (0 ≤ x4_1) = true := decide_eq_true c3
     clear c3
     obtain ⟨y276, hy276⟩ : ∃ y_ : List (S24), y_ = (([] : List (S24))) := ⟨_, rfl⟩
     replace H : (if y276.length + ((rd_T40 l0 x4_1).f1).length < 5864062014805 then (if x3_1.length < 2932031007402 then (codicilref19_Copy.l0 k1 l0 (x3_1 ++ [(⟨(⟨(rd_T40 l0 x4_1).f0.f0, (rd_T40 l0 x4_1).f0.f1⟩ : S24), (y276 ++ ((rd_T40 l0 x4_1).f1))⟩ : S40)]) (wrap64 (x4_1 + 1))) else (none)) else (none)) = some r := by first | (rw [hy276]; with_reducible exact H) | (have H2_ := (Option.bind_some _ _).symm.trans H; rw [hy276]; with_reducible exact H2_) | (have H2_ := (Option.bind_some _ _).symm.trans H; with_reducible exact H2_) | with_reducible exact H | (rw [hy276]; exact H) | exact H
     have Ny276 := qH hy276
     clear hy276
     by_cases c4 : y276.length + ((rd_T40 l0 x4_1).f1).length < 5864062014805
     ·rw [if_pos c4] at H
      have LMc4 := qH c4
      clear c4
      obtain ⟨y280, hy280⟩ : ∃ y_ : List (S24), y_ = (y276 ++ ((rd_T40 l0 x4_1).f1)) := ⟨_, rfl⟩
      replace H : (if x3_1.length < 2932031007402 then (codicilref19_Copy.l0 k1 l0 (x3_1 ++ [(⟨(⟨(rd_T40 l0 x4_1).f0.f0, (rd_T40 l0 x4_1).f0.f1⟩ : S24), y280⟩ : S40)]) (wrap64 (x4_1 + 1))) else (none)) = some r := by first | (rw [hy280]; with_reducible exact H) | (have H2_ := (Option.bind_some _ _).symm.trans H; rw [hy280]; with_reducible exact H2_) | (have H2_ := (Option.bind_some _ _).symm.trans H; with_reducible exact H2_) | with_reducible exact H | (rw [hy280]; exact H) | exact H
      have Ny280 := qH hy280
      clear hy280
      by_cases c5 : x3_1.length < 2932031007402
      ·rw [if_pos c5] at H
       have LMc5 := qH c5
       clear c5
       obtain ⟨y283, hy283⟩ : ∃ y_ : List (S40), y_ = (x3_1 ++ [(⟨(⟨(rd_T40 l0 x4_1).f0.f0, (rd_T40 l0 x4_1).f0.f1⟩ : S24), y280⟩ : S40)]) := ⟨_, rfl⟩
       replace H : (codicilref19_Copy.l0 k1 l0 y283 (wrap64 (x4_1 + 1))) = some r := by first | (rw [hy283]; with_reducible exact H) | (have H2_ := (Option.bind_some _ _).symm.trans H; rw [hy283]; with_reducible exact H2_) | (have H2_ := (Option.bind_some _ _).symm.trans H; with_reducible exact H2_) | with_reducible exact H | (rw [hy283]; exact H) | exact H
       have Ny283 := qH hy283
       clear hy283
       have H' := qH H
       clear H
       try go_wp2
       have n0_ := qH (Kd.S_drew HO_3.out)
       have n1_ := qH (qK HB.out)
       clear HO_3
       clear HB
       have HO_3 := n0_
       have HB := n1_
       clear n0_ n1_
       have p275 : 0 ≤ (x4_1 : Int) := of_decide_eq_true (by first | (with_reducible assumption) | assumption)
       have q275 : x4_1 < (l0.length : Int) := of_decide_eq_true (by first | (with_reducible assumption) | assumption)
       obtain ⟨ad275, A275_2, c275_2, e275, hx275_0, hx275_1, hx275_2, hl275_2, hi275_2⟩ := at_T40 HR0.out x4_1 p275 q275
       have hw275_2 := hx275_2
       have hw275_1 := hx275_1
       have hw275_0 := hx275_0
       cases e275
       replace hx275_0 := (HB.out.cell (qO w _ hx275_0)).trans hx275_0
       replace hx275_1 := (HB.out.cell (qO w _ hx275_1)).trans hx275_1
       replace hx275_2 := (HB.out.cell (qO w _ hx275_2)).trans hx275_2
       have HR275_2 := qH hi275_2
       have HC275_2 := qH hl275_2
       clear hi275_2 hl275_2
       replace p275 := eq_true p275
       replace q275 := eq_true q275
       have p279 : 0 ≤ (x4_1 : Int) := of_decide_eq_true (by first | (with_reducible assumption) | assumption)
       have q279 : x4_1 < (l0.length : Int) := of_decide_eq_true (by first | (with_reducible assumption) | assumption)
       obtain ⟨ad279, A279_2, c279_2, e279, hx279_0, hx279_1, hx279_2, hl279_2, hi279_2⟩ := at_T40 HR0.out x4_1 p279 q279
       have hw279_2 := hx279_2
       have hw279_1 := hx279_1
       have hw279_0 := hx279_0
       obtain rfl : ad275 = ad279 := (by injection e279)
       replace hx279_0 := (HB.out.cell (qO w _ hx279_0)).trans hx279_0
       replace hx279_1 := (HB.out.cell (qO w _ hx279_1)).trans hx279_1
       replace hx279_2 := (HB.out.cell (qO w _ hx279_2)).trans hx279_2
       have HR279_2 := qH hi279_2
       have HC279_2 := qH hl279_2
       clear hi279_2 hl279_2
       replace p279 := eq_true p279
       replace q279 := eq_true q279
       have ea_ := Option.some.inj (hx275_2.symm.trans hx279_2)
       injection ea_ with ea_ en_ ec_
       subst ea_
       subst ec_
       clear en_
       refine start_ (n := 17) (S := fun w' => w'.cell? (ad275.add ((x4_1).toNat * 3)) = some (.string ((rd_T40 l0 x4_1).f0.f0)) ∧ w'.cell? ⟨(ad275.add ((x4_1).toNat * 3)).block, (ad275.add ((x4_1).toNat * 3)).off + 1, none⟩ = some (.int .i64 ((rd_T40 l0 x4_1).f0.f1)) ∧ w'.cell? ⟨(ad275.add ((x4_1).toNat * 3)).block, (ad275.add ((x4_1).toNat * 3)).off + 2, none⟩ = some (.slice A275_2 ((rd_T40 l0 x4_1).f1).length c275_2) ∧ w'.cell? (ad275.add ((x4_1).toNat * 3)) = some (.string ((rd_T40 l0 x4_1).f0.f0)) ∧ w'.cell? ⟨(ad275.add ((x4_1).toNat * 3)).block, (ad275.add ((x4_1).toNat * 3)).off + 1, none⟩ = some (.int .i64 ((rd_T40 l0 x4_1).f0.f1)) ∧ w'.cell? ⟨(ad275.add ((x4_1).toNat * 3)).block, (ad275.add ((x4_1).toNat * 3)).off + 2, none⟩ = some (.slice A275_2 ((rd_T40 l0 x4_1).f1).length c275_2)) (ds := []) (lb 17 0) (by kernel_rfl) rfl rfl ⟨((HB.out.cell (qO w _ hw275_0)).trans hw275_0), ((HB.out.cell (qO w _ hw275_1)).trans hw275_1), ((HB.out.cell (qO w _ hw275_2)).trans hw275_2), ((HB.out.cell (qO w _ hw279_0)).trans hw279_0), ((HB.out.cell (qO w _ hw279_1)).trans hw279_1), ((HB.out.cell (qO w _ hw279_2)).trans hw279_2)⟩ (fun hHeld => ?_); refine with_tabW codicilref19_Copy.tab5 codicilref19_Copy.bits5 (fun HT_ HW_ => ?_)
       generalize wr.drew = w6 at HO_3 HB HR275_2 HR279_2 hx275_0 hx275_1 hx275_2 hx279_0 hx279_1 hx279_2 hHeld ⊢
       refine pure_ (i := 0) (N := some 11) (v := ?_) (a' := ?_) (lb 17 1) rfl rfl (any_of HT_.out (by kernel_rfl)) (fun _ _ _ h => h) (Or.inl ⟨by rfl, ?_⟩) ?_ ?_
       rotate_left
       ·intro w'
        go_simp
        with_reducible rfl
       rotate_left
       ·simp only [Act.put, zS, zT, zU, zV, zW]
        rfl
       refine pure_ (i := 1) (N := some 12) (v := ?_) (a' := ?_) (lb 17 3) rfl rfl (any_of HT_.out (by kernel_rfl)) (fun _ _ _ h => h) (Or.inl ⟨by rfl, ?_⟩) ?_ ?_
       rotate_left
       ·intro w'
        go_simp
        with_reducible rfl
       rotate_left
       ·simp only [Act.put, zS, zT, zU, zV, zW]
        rfl
       refine pure_ (i := 2) (N := some 13) (v := ?_) (a' := ?_) (lb 17 7) rfl rfl (any_of HT_.out (by kernel_rfl)) (fun _ _ _ h => h) (Or.inl ⟨by rfl, ?_⟩) ?_ ?_
       rotate_left
       ·intro w'
        go_simp
        with_reducible rfl
       rotate_left
       ·simp only [Act.put, zS, zT, zU, zV, zW]
        rfl
       refine pure_ (i := 3) (N := some 14) (v := ?_) (a' := ?_) (lb 17 15) rfl rfl (any_of HT_.out (by kernel_rfl)) (fun _ _ _ h => h) (Or.inl ⟨by rfl, ?_⟩) ?_ ?_
       rotate_left
       ·intro w'
        go_simp
        with_reducible rfl
       rotate_left
       ·simp only [Act.put, zS, zT, zU, zV, zW]
        rfl
       refine pure_ (i := 4) (N := some 15) (v := ?_) (a' := ?_) (lb 17 31) rfl rfl (any_of HT_.out (by kernel_rfl)) (fun _ _ _ h => h) (Or.inl ⟨by rfl, ?_⟩) ?_ ?_
       rotate_left
       ·intro w'
        go_simp
        with_reducible rfl
       rotate_left
       ·simp only [Act.put, zS, zT, zU, zV, zW]
        rfl
       refine pure_ (i := 7) (N := some 18) (v := ?_) (a' := ?_) (lb 17 159) rfl rfl (any_of HT_.out (by kernel_rfl)) (fun _ _ _ h => h) (Or.inl ⟨by rfl, ?_⟩) ?_ ?_
       rotate_left
       ·intro w'
        go_simp
        with_reducible rfl
       rotate_left
       ·simp only [Act.put, zS, zT, zU, zV, zW]
        rfl
       refine pure_ (i := 8) (N := some 19) (v := ?_) (a' := ?_) (lb 17 415) rfl rfl (any_of HT_.out (by kernel_rfl)) (fun _ _ _ h => h) (Or.inl ⟨by rfl, ?_⟩) ?_ ?_
       rotate_left
       ·intro w'
        go_simp
        with_reducible rfl
       rotate_left
       ·simp only [Act.put, zS, zT, zU, zV, zW]
        rfl
       refine pure_ (i := 9) (N := some 20) (v := ?_) (a' := ?_) (lb 17 927) rfl rfl (any_of HT_.out (by kernel_rfl)) (fun _ _ _ h => h) (Or.inl ⟨by rfl, ?_⟩) ?_ ?_
       rotate_left
       ·intro w'
        go_simp
        with_reducible rfl
       rotate_left
       ·simp only [Act.put, zS, zT, zU, zV, zW]
        rfl
       refine pure_ (i := 10) (N := some 21) (v := ?_) (a' := ?_) (lb 17 1951) rfl rfl (any_of HT_.out (by kernel_rfl)) (fun _ _ _ h => h) (Or.inl ⟨by rfl, ?_⟩) ?_ ?_
       rotate_left
       ·intro w'
        go_simp
        with_reducible rfl
       rotate_left
       ·simp only [Act.put, zS, zT, zU, zV, zW]
        rfl
       refine take_ (i := 5) (N := some 16) (v := ?_) (a' := ?_) (lb 17 1983) rfl rfl (take_ofW HT_.out HW_.out (by kernel_rfl)) (fun _ _ _ h => h) (Or.inl ⟨by rfl, ?_⟩) hHeld ?_ ?_
       rotate_left
       ·rintro w' ⟨s0, s1, s2, s3, s4, s5⟩
        go_simp
        with_reducible rfl
       rotate_left
       ·simp only [Act.put, zS, zT, zU, zV, zW]
        rfl
       refine take_ (i := 11) (N := some 22) (v := ?_) (a' := ?_) (lb 17 4031) rfl rfl (take_ofW HT_.out HW_.out (by kernel_rfl)) (fun _ _ _ h => h) (Or.inl ⟨by rfl, ?_⟩) hHeld ?_ ?_
       rotate_left
       ·rintro w' ⟨s0, s1, s2, s3, s4, s5⟩
        go_simp
        with_reducible rfl
       rotate_left
       ·simp only [Act.put, zS, zT, zU, zV, zW]
        rfl
       refine one_ (i := 6) (N := some 17) (lb 17 4095) rfl rfl (one_of HT_.out (by kernel_rfl)) (by decide) (fun K hK => ?_)
       refine Kd.R_lit_step k24 _ 24 ?hg (N := 17) ?hd (xs := ([] : List (S24))) (inner := []) (ok := fun _ => True) (okp := fun _ => True) ?hr ?hp (fun _ hk => hk) trivial (Below.refl _ _) (Nat.le_refl _) (by simp) ?_; (case hd => rfl); (case hg => rfl); (case hr => first | (go_simp; done) | (go_simp; rfl) | (go_simp; simp [IntKind.wrap_u32]; done)); (case hp => exact (Reps.none _ _))
       intro v277 w7 ho8 hb hg_ hnew_
       clear hg_ hnew_
       (first | rw [← Ny276.out] at ho8 | (simp only [Int.reduceToNat] at ho8; rw [← Ny276.out] at ho8))
       have n0_ := qH (Kd.S_elder' (by (with_reducible repeat (first | apply Kd.S_alloc | apply Kd.S_drewN | apply Kd.S_drew)); exact HO_3.out) (Kd.R_base ho8) hb)
       have n1_ := qH (Kd.R_lower ho8 (below_size (by repeat (first | (with_reducible first | exact HB.out | apply qL | apply qJ | apply qK) | exact HB.out))))
       have n2_ := qH (below_step (by repeat (first | (with_reducible first | exact HB.out | apply qL | apply qJ | apply qK) | exact HB.out)) hb)
       clear HO_3
       clear HB
       have HO_3 := n0_
       have HO278 := n1_
       have HB := n2_
       clear n0_ n1_ n2_
       clear hb ho8
       refine hK.out _ _ ⟨((HB.out.cell (qO w _ hw275_0)).trans hw275_0), ((HB.out.cell (qO w _ hw275_1)).trans hw275_1), ((HB.out.cell (qO w _ hw275_2)).trans hw275_2), ((HB.out.cell (qO w _ hw279_0)).trans hw279_0), ((HB.out.cell (qO w _ hw279_1)).trans hw279_1), ((HB.out.cell (qO w _ hw279_2)).trans hw279_2)⟩ (fun hHeld => ?_)
       clear hK K
       refine norm_ (a' := ?_) ?_ ?_
       rotate_left
       ·show Act.put _ (some 17) _ = _
        simp only [Act.put, zS, zT, zU, zV, zW]
        rfl
       refine one_ (i := 12) (N := some 23) (lb 17 8191) rfl rfl (one_of HT_.out (by kernel_rfl)) (by decide) (fun K hK => ?_)
       refine Kd.R_append_rows_step k24 (w0 := w) w.heap.size (by rfl) (.tmp 17) (.tmp 22) 25 24 (.agg #[(.string ⟨#[]⟩), (.int .i64 0)]) 24 rfl Try.underlying25 info24 rfl (by decide) (by omega) v277 y276 ((rd_T40 l0 x4_1).f1) _ _ _ (fun _ => True) (fun _ => False) rfl rfl ?aO ?aR (fun _ _ h => h) (fun _ h => h.elim) ?aF ?aB ?aS ?aL ?_
       (case aR => repeat (first | exact (Kd.C_below HR279_2.out HB.out) | (with_reducible refine Kd.C_alloc ?_ _) | (with_reducible refine Kd.C_drewN ?_ _) | (with_reducible refine Kd.C_drew ?_)))
       (case aB => exact (by repeat (first | (with_reducible first | exact HB.out | apply qL | apply qJ | apply qK) | exact HB.out)))
       (case aF => exact (fun _ _ => trivial))
       (case aO => exact (by (with_reducible repeat first | apply zRa | apply zRb | apply zRc); exact HO278.out))
       (case aS => exact (below_size (by repeat (first | (with_reducible first | exact HB.out | apply qL | apply qJ | apply qK) | exact HB.out))))
       (case aL => have := LMc4.out; omega)
       intro v281 w9 ho hb hg hat
       rw [← Ny280.out] at ho
       have n0_ := qH (Kd.S_after (ok := (fun _ => True)) (by (with_reducible repeat (first | apply Kd.S_alloc | apply Kd.S_drewN | apply Kd.S_drew)); exact HO_3.out) hg hat)
       have n1_ := qH (hb)
       have n2_ := qH (ho)
       clear HO_3
       clear HB
       clear HO278
       have HO_3 := n0_
       have HB := n1_
       have HO282 := n2_
       clear n0_ n1_ n2_
       clear ho hb hg hat
       obtain ⟨Ao10, co10, eo10⟩ := Kd.R_slice HO282.out
       (first | subst eo10 | (injection eo10 with f1_ f2_ f3_; have f4_ := f1_.symm; have f5_ := f3_.symm; clear f1_ f2_ f3_; subst f4_; subst f5_))
       refine hK.out _ _ ⟨((HB.out.cell (qO w _ hw275_0)).trans hw275_0), ((HB.out.cell (qO w _ hw275_1)).trans hw275_1), ((HB.out.cell (qO w _ hw275_2)).trans hw275_2), ((HB.out.cell (qO w _ hw279_0)).trans hw279_0), ((HB.out.cell (qO w _ hw279_1)).trans hw279_1), ((HB.out.cell (qO w _ hw279_2)).trans hw279_2)⟩ (fun hHeld => ?_)
       clear hK K
       refine norm_ (a' := ?_) ?_ ?_
       rotate_left
       ·show Act.put _ (some 23) _ = _
        simp only [Act.put, zS, zT, zU, zV, zW]
        rfl
       refine pure_ (i := 13) (N := some 24) (v := ?_) (a' := ?_) (lb 17 16383) rfl rfl (any_of HT_.out (by kernel_rfl)) (fun _ _ _ h => h) (Or.inl ⟨by rfl, ?_⟩) ?_ ?_
       rotate_left
       ·intro w'
        go_simp
        with_reducible rfl
       rotate_left
       ·simp only [Act.put, zS, zT, zU, zV, zW]
        rfl
       refine one_ (i := 14) (N := some 25) (lb 17 32767) rfl rfl (one_of HT_.out (by kernel_rfl)) (by decide) (fun K hK => ?_)
       refine value_ (w1 := ?_) (v := ?_) (by rfl) rfl ?_ ?_
       rotate_left 2
       ·go_simp
        constructor
        ·rfl
        ·rfl
       refine hK.out _ _ ⟨(World.cell?_alloc_lt _ _ _ (qO _ _ (((HB.out.cell (qO w _ hw275_0)).trans hw275_0)))).trans (((HB.out.cell (qO w _ hw275_0)).trans hw275_0)), (World.cell?_alloc_lt _ _ _ (qO _ _ (((HB.out.cell (qO w _ hw275_1)).trans hw275_1)))).trans (((HB.out.cell (qO w _ hw275_1)).trans hw275_1)), (World.cell?_alloc_lt _ _ _ (qO _ _ (((HB.out.cell (qO w _ hw275_2)).trans hw275_2)))).trans (((HB.out.cell (qO w _ hw275_2)).trans hw275_2)), (World.cell?_alloc_lt _ _ _ (qO _ _ (((HB.out.cell (qO w _ hw279_0)).trans hw279_0)))).trans (((HB.out.cell (qO w _ hw279_0)).trans hw279_0)), (World.cell?_alloc_lt _ _ _ (qO _ _ (((HB.out.cell (qO w _ hw279_1)).trans hw279_1)))).trans (((HB.out.cell (qO w _ hw279_1)).trans hw279_1)), (World.cell?_alloc_lt _ _ _ (qO _ _ (((HB.out.cell (qO w _ hw279_2)).trans hw279_2)))).trans (((HB.out.cell (qO w _ hw279_2)).trans hw279_2))⟩ (fun hHeld => ?_)
       clear hK K
       refine norm_ (a' := ?_) ?_ ?_
       rotate_left
       ·show Act.put _ (some 25) _ = _
        simp only [Act.put, zS, zT, zU, zV, zW]
        rfl
       refine one_ (i := 15) (N := some 26) (lb 17 65535) rfl rfl (one_of HT_.out (by kernel_rfl)) (by decide) (fun K hK => ?_)
       refine Kd.S_append_step k40 (w0 := w) w.heap.size (by rfl) (.tmp 11) (.tmp 25) 22 40 (.agg #[(.string ⟨#[]⟩), (.int .i64 0), (.slice none 0 0)]) 48 rfl Try.underlying22 info40 rfl (by decide) (by omega) u3 x3_1 (⟨(⟨(rd_T40 l0 x4_1).f0.f0, (rd_T40 l0 x4_1).f0.f1⟩ : S24), y280⟩ : S40) [.string ((rd_T40 l0 x4_1).f0.f0), .int .i64 ((rd_T40 l0 x4_1).f0.f1), .slice Ao10 y280.length co10] (fun _ => True) (fun k_ => some k_ = (.slice Ao10 y280.length co10 : Value).ownBlock) rfl rfl ?aP (fun k_ hk_ => ((Kd.R_mono (ok' := fun k_ => ((fun _ => True)) k_ ∧ some k_ ≠ (u3 : Value).ownBlock) (Kd.R_apart' (HO282.out) (Kd.S_typed HO_3.out) (by decide)) (fun k_ hk => ⟨trivial, hk.2⟩))).1 k_ hk_.symm) ?aF ?aO ?aB ?aS ?aL ?_
       (case aP => exact k40_mkM _ _ _ (⟨(⟨(rd_T40 l0 x4_1).f0.f0, (rd_T40 l0 x4_1).f0.f1⟩ : S24), y280⟩ : S40) (Kd.R_mono (Kd.R_tight rfl (Kd.R_mono (ok' := fun k_ => ((fun _ => True)) k_ ∧ some k_ ≠ (u3 : Value).ownBlock) (Kd.R_apart' (HO282.out) (Kd.S_typed HO_3.out) (by decide)) (fun k_ hk => ⟨trivial, hk.2⟩))) (fun _ h_ => h_)))
       (case aB => exact (by repeat (first | (with_reducible first | exact HB.out | apply qL | apply qJ | apply qK) | exact HB.out)))
       (case aF => exact (fun _ _ => trivial))
       (case aO => exact (by (with_reducible repeat (first | apply Kd.S_alloc | apply Kd.S_drewN | apply Kd.S_drew)); exact Kd.S_mono HO_3.out (fun k_ hk => ⟨trivial, fun e_ => hk.2 e_⟩)))
       (case aS => exact (below_size (by repeat (first | (with_reducible first | exact HB.out | apply qL | apply qJ | apply qK) | exact HB.out))))
       (case aL => have := LMc5.out; omega)
       intro v284 w11 ho hb hg hat
       rw [← Ny283.out] at ho
       have n0_ := qH (hb)
       have n1_ := qH (ho)
       clear HB
       clear HO_3
       clear HO282
       have HB := n0_
       have HO285 := n1_
       clear n0_ n1_
       clear ho hb hg hat
       refine hK.out _ _ ⟨((HB.out.cell (qO w _ hw275_0)).trans hw275_0), ((HB.out.cell (qO w _ hw275_1)).trans hw275_1), ((HB.out.cell (qO w _ hw275_2)).trans hw275_2), ((HB.out.cell (qO w _ hw279_0)).trans hw279_0), ((HB.out.cell (qO w _ hw279_1)).trans hw279_1), ((HB.out.cell (qO w _ hw279_2)).trans hw279_2)⟩ (fun hHeld => ?_)
       clear hK K
       refine norm_ (a' := ?_) ?_ ?_
       rotate_left
       ·show Act.put _ (some 26) _ = _
        simp only [Act.put, zS, zT, zU, zV, zW]
        rfl
       refine pure_ (i := 16) (N := some 3) (v := ?_) (a' := ?_) (lb 17 131071) rfl rfl (any_of HT_.out (by kernel_rfl)) (fun _ _ _ h => h) (Or.inl ⟨by rfl, ?_⟩) ?_ ?_
       rotate_left
       ·intro w'
        go_simp
        with_reducible rfl
       rotate_left
       ·simp only [Act.put, zS, zT, zU, zV, zW]
        rfl
       refine done_ (done_of HT_.out (by kernel_rfl)) ?_
       try go_wp2
       go_roundg k1
       case measure => have := HK1.out; omega
       case rel => exact ⟨(y283), (wrap64 (x4_1 + 1)), (by first | rfl | (simp; done) | (simp; exact qEmp _) | (simp [*]; done)), H', ⟨by have := HK1.out; omega⟩, ⟨by (with_reducible repeat (first | apply Kd.S_alloc | apply Kd.S_drewN | apply Kd.S_drew)); exact HO285.out⟩, ⟨by repeat (first | (with_reducible first | exact HB.out | apply qL | apply qJ | apply qK) | exact HB.out)⟩⟩
      ·rw [if_neg c5] at H
       exact absurd H (by simp)
     ·rw [if_neg c4] at H
      exact absurd H (by simp)
    ·rw [if_neg c3] at H
     exact absurd H (by simp)
   ·rw [if_neg c2] at H
    have c2b0 : decide (x4_1 < (l0.length : Int)) = false := decide_eq_false c2
    clear c2
    obtain rfl := Option.some.inj H
    simp only [Option.some.injEq, Prod.mk.injEq] at H
    obtain ⟨rfl⟩ := H
    go_wp2
    go_ret
    exact ⟨_, by first | rfl | (simp [errW_none, errW_some] <;> rfl) | (simp [*, errW_none, errW_some] <;> rfl), by (with_reducible repeat (first | apply Kd.S_alloc | apply Kd.S_drewN | apply Kd.S_drew)); exact HO_3.out, by repeat (first | (with_reducible first | exact HB.out | apply qL | apply qJ | apply qK) | exact HB.out)⟩

end Go.Proofs.Ytddjhmelniphgaa.Print
