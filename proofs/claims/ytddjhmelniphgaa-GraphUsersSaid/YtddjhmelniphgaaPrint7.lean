-- Written by wip/tools/xprint.py of this session's repo (the kit's print, run with external functions). Lean checks it.
import Derived.Test.YtddjhmelniphgaaHLb
import Derived.Test.YtddjhmelniphgaaPrint0
import Derived.Test.YtddjhmelniphgaaPrint2
import Derived.Test.YtddjhmelniphgaaPrint3
import Derived.Test.YtddjhmelniphgaaPrint4
import Derived.Test.YtddjhmelniphgaaPrint6
import Derived.Test.YtddjhmelniphgaaHAlive19
import Derived.Test.YtddjhmelniphgaaHGAdd
import Derived.Test.YtddjhmelniphgaaHGDrop
import Derived.Test.YtddjhmelniphgaaHGOrder
namespace Go.Proofs.Ytddjhmelniphgaa.Print
open Go.RowKit Go.Proofs.YtddjhmelniphgaaW.PrintWords Go.Proofs.YtddjhmelniphgaaW.PrintLast Go.Proofs.YtddjhmelniphgaaW.PrintMore
attribute [local go_sem] max2_int min2_int max_two min_two max_three min_three max_four min_four   -- for this text's walks alone
set_option linter.unusedVariables false
set_option linter.unusedSimpArgs false

/-! ### codicillaw19_GraphUsers: function 6 -/
mutual
def codicillaw19_GraphUsers.j0 : Nat → List (S40) → Bool → ByteArray → Int → List (S24) → Option (Bool)
 | 0, _, _, _, _, _ => none
 | k + 1, x0, x26, x253000, x253001, x253002 => if x26 = true then ((codicillaw19_alive.f k).bind fun t254 => (some t254)) else ((graph_Add.f x0 x253000 x253001 x253002).bind fun bt255 => (if bt255.2 = 0 then (codicillaw19_GraphUsers.l0 k x0 bt255.1 0 x253000 x253001 x253002) else ((codicillaw19_alive.f k).bind fun t259 => (some t259))))
def codicillaw19_GraphUsers.l0 : Nat → List (S40) → List (S40) → Int → ByteArray → Int → List (S24) → Option (Bool)
 | 0, _, _, _, _, _, _ => none
 | k + 1, x0, x5, x7, x253000, x253001, x253002 => if x7 < (x5.length : Int) then (if 0 ≤ x7 then ((graph_Users.f k x5 ((rd_T40 x5 x7).f0.f0) ((rd_T40 x5 x7).f0.f1)).bind fun t262 => (codicillaw19_GraphUsers.l1 k x0 x5 x7 t262 0 x253000 x253001 x253002 ((rd_T40 x5 x7).f0.f0) ((rd_T40 x5 x7).f0.f1))) else (none)) else ((graph_Order.f x0 x253002).bind fun bt269 => ((graph_Order.f x5 x253002).bind fun bt273 => ((graph_Order.f x5 (([(⟨x253000, x253001⟩ : S24)] : List (S24)))).bind fun bt280 => ((graph_Drop.f x5 x253000 x253001).bind fun bt284 => (if bt269.2 = 0 then (if bt273.2 = 0 then (if bt280.2 = 0 then ((codicilref19_Nodes.f k bt269.1 bt273.1).bind fun t288 => (if t288 = true then (if (bt280.1.length : Int) = (wrap64 ((bt269.1.length : Int) + 1)) then (if 0 ≤ (wrap64 ((bt280.1.length : Int) - 1)) then (if (wrap64 ((bt280.1.length : Int) - 1)) ≤ (bt280.1.length : Int) then ((codicilref19_Nodes.f k (bt280.1.take ((wrap64 ((bt280.1.length : Int) - 1)) : Int).toNat) bt269.1).bind fun t293 => (if t293 = true then (if bt284.2 = 0 then ((codicilref19_Same.f k bt284.1 x0).bind fun t294 => (if t294 = true then ((codicillaw19_alive.f k).bind fun t295 => (some t295)) else (some false))) else (some false)) else (some false))) else (none)) else (none)) else (some false)) else (some false))) else (some false)) else (some false)) else (some false))))))
def codicillaw19_GraphUsers.l1 : Nat → List (S40) → List (S40) → Int → List (S24) → Int → ByteArray → Int → List (S24) → ByteArray → Int → Option (Bool)
 | 0, _, _, _, _, _, _, _, _, _, _ => none
 | k + 1, x0, x5, x7, x9, x10, x253000, x253001, x253002, x262000, x262001 => if x10 < (x5.length : Int) then (if 0 ≤ x10 then ((codicillaw19_place.f k ((rd_T40 x5 x10).f1) x262000 x262001).bind fun t266 => ((codicillaw19_place.f k x9 ((rd_T40 x5 x10).f0.f0) ((rd_T40 x5 x10).f0.f1)).bind fun t268 => (if ((decide (t266 ≥ 0)) != (decide (t268 ≥ 0))) = true then (some false) else (codicillaw19_GraphUsers.l1 k x0 x5 x7 x9 (wrap64 (x10 + 1)) x253000 x253001 x253002 x262000 x262001)))) else (none)) else (codicillaw19_GraphUsers.l0 k x0 x5 (wrap64 (x7 + 1)) x253000 x253001 x253002)
end
def codicillaw19_GraphUsers.f (k : Nat) (l0 : List (S40)) (a1_0 : ByteArray) (a1_1 : Int) (l1_2 : List (S24)) : Option (Bool) := (codicillaw19_Heavy.f k l0).bind fun t253 => (if t253 = true then (codicillaw19_GraphUsers.j0 k l0 true a1_0 a1_1 l1_2) else (codicillaw19_GraphUsers.j0 k l0 (decide ((l1_2.length : Int) > 40)) a1_0 a1_1 l1_2))
theorem codicillaw19_GraphUsers.mono_l : ∀ k, (∀ y0 y1 y2 y3 y4, LeO (codicillaw19_GraphUsers.j0 k y0 y1 y2 y3 y4) (codicillaw19_GraphUsers.j0 (k + 1) y0 y1 y2 y3 y4)) ∧ (∀ y0 y1 y2 y3 y4 y5, LeO (codicillaw19_GraphUsers.l0 k y0 y1 y2 y3 y4 y5) (codicillaw19_GraphUsers.l0 (k + 1) y0 y1 y2 y3 y4 y5)) ∧ (∀ y0 y1 y2 y3 y4 y5 y6 y7 y8 y9, LeO (codicillaw19_GraphUsers.l1 k y0 y1 y2 y3 y4 y5 y6 y7 y8 y9) (codicillaw19_GraphUsers.l1 (k + 1) y0 y1 y2 y3 y4 y5 y6 y7 y8 y9))
 | 0 => ⟨fun _ _ _ _ _ r h => by simp [codicillaw19_GraphUsers.j0] at h, fun _ _ _ _ _ _ r h => by simp [codicillaw19_GraphUsers.l0] at h, fun _ _ _ _ _ _ _ _ _ _ r h => by simp [codicillaw19_GraphUsers.l1] at h⟩
 | k + 1 => by
  obtain ⟨ih0, ih1, ih2⟩ := codicillaw19_GraphUsers.mono_l k
  refine ⟨?_, ?_, ?_⟩
  ·intro y0 y1 y2 y3 y4
   unfold codicillaw19_GraphUsers.j0
   repeat' first
   | (with_reducible exact ih0 _ _ _ _ _)
   | (with_reducible exact ih1 _ _ _ _ _ _)
   | (with_reducible exact ih2 _ _ _ _ _ _ _ _ _ _)
   | (with_reducible exact codicillaw19_Heavy.mono _ _)
   | (with_reducible exact codicillaw19_alive.mono _)
   | (with_reducible exact codicillaw19_place.mono _ _ _ _)
   | (with_reducible exact codicilref19_Nodes.mono _ _ _)
   | (with_reducible exact codicilref19_Same.mono _ _ _)
   | (with_reducible exact graph_Users.mono _ _ _ _)
   | (with_reducible exact LeO.refl _)
   | (with_reducible exact LeO.none _)
   | (with_reducible refine LeO.ite ?_ ?_)
   | (with_reducible refine LeO.bind ?_ (fun _ => ?_))
   | exact ih0 _ _ _ _ _
   | exact ih1 _ _ _ _ _ _
   | exact ih2 _ _ _ _ _ _ _ _ _ _
   | exact codicillaw19_Heavy.mono _ _
   | exact codicillaw19_alive.mono _
   | exact codicillaw19_place.mono _ _ _ _
   | exact codicilref19_Nodes.mono _ _ _
   | exact codicilref19_Same.mono _ _ _
   | exact graph_Users.mono _ _ _ _
   | exact LeO.none _
   | refine LeO.ite ?_ ?_
   | refine LeO.bind ?_ (fun _ => ?_)
  ·intro y0 y1 y2 y3 y4 y5
   unfold codicillaw19_GraphUsers.l0
   repeat' first
   | (with_reducible exact ih0 _ _ _ _ _)
   | (with_reducible exact ih1 _ _ _ _ _ _)
   | (with_reducible exact ih2 _ _ _ _ _ _ _ _ _ _)
   | (with_reducible exact codicillaw19_Heavy.mono _ _)
   | (with_reducible exact codicillaw19_alive.mono _)
   | (with_reducible exact codicillaw19_place.mono _ _ _ _)
   | (with_reducible exact codicilref19_Nodes.mono _ _ _)
   | (with_reducible exact codicilref19_Same.mono _ _ _)
   | (with_reducible exact graph_Users.mono _ _ _ _)
   | (with_reducible exact LeO.refl _)
   | (with_reducible exact LeO.none _)
   | (with_reducible refine LeO.ite ?_ ?_)
   | (with_reducible refine LeO.bind ?_ (fun _ => ?_))
   | exact ih0 _ _ _ _ _
   | exact ih1 _ _ _ _ _ _
   | exact ih2 _ _ _ _ _ _ _ _ _ _
   | exact codicillaw19_Heavy.mono _ _
   | exact codicillaw19_alive.mono _
   | exact codicillaw19_place.mono _ _ _ _
   | exact codicilref19_Nodes.mono _ _ _
   | exact codicilref19_Same.mono _ _ _
   | exact graph_Users.mono _ _ _ _
   | exact LeO.none _
   | refine LeO.ite ?_ ?_
   | refine LeO.bind ?_ (fun _ => ?_)
  ·intro y0 y1 y2 y3 y4 y5 y6 y7 y8 y9
   unfold codicillaw19_GraphUsers.l1
   repeat' first
   | (with_reducible exact ih0 _ _ _ _ _)
   | (with_reducible exact ih1 _ _ _ _ _ _)
   | (with_reducible exact ih2 _ _ _ _ _ _ _ _ _ _)
   | (with_reducible exact codicillaw19_Heavy.mono _ _)
   | (with_reducible exact codicillaw19_alive.mono _)
   | (with_reducible exact codicillaw19_place.mono _ _ _ _)
   | (with_reducible exact codicilref19_Nodes.mono _ _ _)
   | (with_reducible exact codicilref19_Same.mono _ _ _)
   | (with_reducible exact graph_Users.mono _ _ _ _)
   | (with_reducible exact LeO.refl _)
   | (with_reducible exact LeO.none _)
   | (with_reducible refine LeO.ite ?_ ?_)
   | (with_reducible refine LeO.bind ?_ (fun _ => ?_))
   | exact ih0 _ _ _ _ _
   | exact ih1 _ _ _ _ _ _
   | exact ih2 _ _ _ _ _ _ _ _ _ _
   | exact codicillaw19_Heavy.mono _ _
   | exact codicillaw19_alive.mono _
   | exact codicillaw19_place.mono _ _ _ _
   | exact codicilref19_Nodes.mono _ _ _
   | exact codicilref19_Same.mono _ _ _
   | exact graph_Users.mono _ _ _ _
   | exact LeO.none _
   | refine LeO.ite ?_ ?_
   | refine LeO.bind ?_ (fun _ => ?_)
theorem codicillaw19_GraphUsers.mono : ∀ a0 a1 a2 a3 k, LeO (codicillaw19_GraphUsers.f k a0 a1 a2 a3) (codicillaw19_GraphUsers.f (k + 1) a0 a1 a2 a3) := by
 intro a0 a1 a2 a3 k
 obtain ⟨ih0, ih1, ih2⟩ := codicillaw19_GraphUsers.mono_l k
 unfold codicillaw19_GraphUsers.f
 repeat' first
   | (with_reducible exact ih0 _ _ _ _ _)
   | (with_reducible exact ih1 _ _ _ _ _ _)
   | (with_reducible exact ih2 _ _ _ _ _ _ _ _ _ _)
   | (with_reducible exact codicillaw19_Heavy.mono _ _)
   | (with_reducible exact codicillaw19_alive.mono _)
   | (with_reducible exact codicillaw19_place.mono _ _ _ _)
   | (with_reducible exact codicilref19_Nodes.mono _ _ _)
   | (with_reducible exact codicilref19_Same.mono _ _ _)
   | (with_reducible exact graph_Users.mono _ _ _ _)
   | (with_reducible exact LeO.refl _)
   | (with_reducible exact LeO.none _)
   | (with_reducible refine LeO.ite ?_ ?_)
   | (with_reducible refine LeO.bind ?_ (fun _ => ?_))
   | exact ih0 _ _ _ _ _
   | exact ih1 _ _ _ _ _ _
   | exact ih2 _ _ _ _ _ _ _ _ _ _
   | exact codicillaw19_Heavy.mono _ _
   | exact codicillaw19_alive.mono _
   | exact codicillaw19_place.mono _ _ _ _
   | exact codicilref19_Nodes.mono _ _ _
   | exact codicilref19_Same.mono _ _ _
   | exact graph_Users.mono _ _ _ _
   | exact LeO.none _
   | refine LeO.ite ?_ ?_
   | refine LeO.bind ?_ (fun _ => ?_)
def codicillaw19_GraphUsers.T14 : Bool × List (List Nat × List Nat) := (true, [([], []), ([], []), ([0, 1], [0, 1]), ([2], [2]), ([3], [3]), ([], []), ([4, 5], [4, 5]), ([6], [6]), ([], []), ([], []), ([], []), ([9, 10], [9, 10]), ([11], [11]), ([12], [12]), ([8, 13, 6], [8, 13]), ([14], [14]), ([7, 15], [7, 15])])
def codicillaw19_GraphUsers.B14 : List Nat := [0, 0, 3, 7, 15, 0, 63, 127, 0, 0, 0, 1536, 3584, 7680, 16255, 32639, 65535]
theorem codicillaw19_GraphUsers.tab14 : rtab .any (opsOf Try.f6 14) = codicillaw19_GraphUsers.T14 := by kernel_rfl
theorem codicillaw19_GraphUsers.bits14 : waitsOk codicillaw19_GraphUsers.T14.2 codicillaw19_GraphUsers.B14 = true := by kernel_rfl
set_option maxHeartbeats 8000000 in
set_option maxRecDepth 100000 in
theorem codicillaw19_GraphUsers.calls (k : Nat) (A0 : Option Addr) (c0 : Nat) (l0 : List (S40)) (a1_0 : ByteArray) (a1_1 : Int) (A1_2 : Option Addr) (c1_2 : Nat) (l1_2 : List (S24)) (r : Bool) (w : World) (hr0 : Kd.C k40 w A0 l0.length l0) (hc0 : l0.length ≤ c0) (hr1_2 : Kd.C k24 w A1_2 l1_2.length l1_2) (hc1_2 : l1_2.length ≤ c1_2) (h : codicillaw19_GraphUsers.f k l0 a1_0 a1_1 l1_2 = some r) :
  Calls Try.prog 6 #[.slice A0 l0.length c0, .agg #[.string a1_0, .int .i64 a1_1, .slice A1_2 l1_2.length c1_2]] w fun e w' => e = .returned (.bool r) ∧ Below w.heap.size w w' := by
 have hu40 := Try.underlying40
 have hu24 := Try.underlying24
 have HR0 := qH hr0
 have HC0 := qH hc0
 clear hr0 hc0
 have HR1_2 := qH hr1_2
 have HC1_2 := qH hc1_2
 clear hr1_2 hc1_2
 have HB := qH (Below.refl w.heap.size w)
 have H : ((codicillaw19_Heavy.f k l0).bind fun t253 => (if t253 = true then (codicillaw19_GraphUsers.j0 k l0 true a1_0 a1_1 l1_2) else (codicillaw19_GraphUsers.j0 k l0 (decide ((l1_2.length : Int) > 40)) a1_0 a1_1 l1_2))) = some r := h
 clear h
 have HC3 := qH H
 clear H
 go_enter Try.func6, Try.ntmps6
 go_upto_region 1 with (first | ((with_reducible refine gate_dst (N := 3) rfl ?_); (try (refine gate_guard (by rfl) ?_; dsimp only)); refine box_event ?hg (N := 3) ?hd (cs := #[.string a1_0, .int .i64 a1_1, .slice A1_2 l1_2.length c1_2]) (t := 40) ?hr ?_; (case hd => rfl); (case hg => rfl); (case hr => first | (go_simp; done) | (go_simp; rfl) | (go_simp; simp [IntKind.wrap_u32]; done)); intro gb252 hg w4 hbox hb; have n0_ := qH (below_step (by repeat (first | (with_reducible first | exact HB.out | apply qL | apply qJ | apply qK) | exact HB.out)) hb); have n1_ := qH (hbox); have n2_ := qH ((by rw [hg]; exact (below_size (by repeat (first | (with_reducible first | exact HB.out | apply qL | apply qJ | apply qK) | exact HB.out))) : w.heap.size ≤ gb252)); have n3_ := n2_; clear HB; have HB := n0_; have BK252 := n1_; have GW252 := n2_; have GE252 := n3_; clear n0_ n1_ n2_ n3_; clear hb hbox hg))
 (try simp only [Act.put, List.setIfInBounds_toArray, List.set_cons_zero, List.set_cons_succ])
 go_cut [26] (fun v26 wc => ∃ (kq : Nat) (x26_2 : Bool), v26 = .bool x26_2 ∧ Aside0 (codicillaw19_GraphUsers.j0 kq l0 x26_2 a1_0 a1_1 l1_2 = some r) ∧ Aside0 (kq ≤ k) ∧ Aside0 (wc.heap[gb252]? = some (.cells #[.string a1_0, .int .i64 a1_1, (.slice A1_2 l1_2.length c1_2)] 40 (0, 0))) ∧ Aside0 (Below w.heap.size w wc))
 case first =>
  have H := HC3.out
  clear HC3
  replace H := Option.bind_eq_some_iff.mp H
  obtain ⟨t253, A50, H⟩ := H
  (try dsimp only at H)
  have A5 := qH A50
  clear A50
  by_cases c6 : t253 = true
  ·subst c6
   have H1 : (codicillaw19_GraphUsers.j0 k l0 true a1_0 a1_1 l1_2) = some r := by rw [if_pos rfl] at H; exact H
   clear H
   have H := H1
   clear H1
   have H' := qH H
   clear H
   go_wp2_with (first | ((with_reducible refine gate_callee (f := 7) rfl ?_); refine goesL_ (some 20) rfl rfl Try.func7 (by kernel_rfl) rfl #[.slice A0 l0.length c0] rfl (by (try simp only [zX, zY, zZ]); first | done | rfl | (simp only [zD, zE]; rfl)) ?_; (with_reducible refine (codicillaw19_Heavy.calls k _ _ l0 true _ ?side1 ?side2 A5.out).mono ?_); (case side1 => repeat (first | exact (Kd.C_below HR0.out HB.out) | (with_reducible refine Kd.C_alloc ?_ _) | (with_reducible refine Kd.C_drewN ?_ _) | (with_reducible refine Kd.C_drew ?_))); (case side2 => exact HC0.out); rintro e w' ⟨rfl, ⟨nd, rfl⟩⟩; refine ⟨_, rfl, ?_⟩))
   go_meet
   case rel => exact ⟨_, (true), (by first | rfl | (simp; done) | (simp; exact qEmp _) | (simp [*]; done)), H', ⟨by first | omega | exact Nat.le_refl _⟩, ⟨by (with_reducible repeat first | apply qA | apply qC | apply qB); exact BK252.out⟩, ⟨by repeat (first | (with_reducible first | exact HB.out | apply qL | apply qJ | apply qK | refine qI ?_ GE252.out) | exact HB.out)⟩⟩
  ·replace c6 := Bool.eq_false_iff.mpr c6
   subst c6
   have H1 : (codicillaw19_GraphUsers.j0 k l0 (decide ((l1_2.length : Int) > 40)) a1_0 a1_1 l1_2) = some r := by rw [if_neg (show ¬ (false = true) by decide)] at H; exact H
   clear H
   have H := H1
   clear H1
   have H' := qH H
   clear H
   go_wp2_with (first | ((with_reducible refine gate_callee (f := 7) rfl ?_); refine goesL_ (some 20) rfl rfl Try.func7 (by kernel_rfl) rfl #[.slice A0 l0.length c0] rfl (by (try simp only [zX, zY, zZ]); first | done | rfl | (simp only [zD, zE]; rfl)) ?_; (with_reducible refine (codicillaw19_Heavy.calls k _ _ l0 false _ ?side1 ?side2 A5.out).mono ?_); (case side1 => repeat (first | exact (Kd.C_below HR0.out HB.out) | (with_reducible refine Kd.C_alloc ?_ _) | (with_reducible refine Kd.C_drewN ?_ _) | (with_reducible refine Kd.C_drew ?_))); (case side2 => exact HC0.out); rintro e w' ⟨rfl, ⟨nd, rfl⟩⟩; refine ⟨_, rfl, ?_⟩; obtain ⟨hcz7_0, hcz7_1, hcz7_2⟩ := qc3 BK252.out; obtain ⟨hfz7_0, hfz7_1, hfz7_2⟩ := qf3 BK252.out))
   go_meet
   case rel => exact ⟨_, (decide ((l1_2.length : Int) > 40)), (by first | rfl | (simp; done) | (simp; exact qEmp _) | (simp [*]; done)), H', ⟨by first | omega | exact Nat.le_refl _⟩, ⟨by (with_reducible repeat first | apply qA | apply qC | apply qB); exact BK252.out⟩, ⟨by repeat (first | (with_reducible first | exact HB.out | apply qL | apply qJ | apply qK | refine qI ?_ GE252.out) | exact HB.out)⟩⟩
 case rest =>
  clear HC3
  try clear c1
  try clear p2
  try clear c6
  try clear c7
  try clear hcz7_0
  try clear hcz7_1
  try clear hcz7_2
  try clear hfz7_0
  try clear hfz7_1
  try clear hfz7_2
  obtain ⟨kq, x26_2, rfl, HA, HJ2, BK252, HB⟩ := hcut
  cases kq with
  | zero => exact absurd HA.out (by simp [codicillaw19_GraphUsers.j0])
  | succ kj2 =>
   have H := HA.out
   clear HA
   simp only [codicillaw19_GraphUsers.j0] at H
   by_cases c8 : x26_2 = true
   ·subst c8
    have H1 : ((codicillaw19_alive.f kj2).bind fun t254 => (some t254)) = some r := by rw [if_pos rfl] at H; exact H
    clear H
    have H := H1
    clear H1
    replace H := Option.bind_eq_some_iff.mp H
    obtain ⟨t254, A90, H⟩ := H
    (try dsimp only at H)
    have A9 := qH A90
    clear A90
    obtain rfl := Option.some.inj H
    simp only [Option.some.injEq, Prod.mk.injEq] at H
    obtain ⟨rfl⟩ := H
    go_wp2_with (first | ((with_reducible refine gate_callee (f := 8) rfl ?_); refine goesL_ (some 27) rfl rfl Try.func8 (by kernel_rfl) rfl #[] rfl (by (try simp only [zX, zY, zZ]); first | done | rfl | (simp only [zD, zE]; rfl)) ?_; (with_reducible refine (codicillaw19_alive.calls kj2  t254 _ A9.out).mono ?_); rintro e w10 ⟨rfl, hb⟩; refine ⟨_, rfl, ?_⟩; have n0_ := qH (qD (g := gb252) (by (with_reducible repeat first | apply qA | apply qC | apply qB); exact BK252.out) hb); have n1_ := qH (below_step (by repeat (first | (with_reducible first | exact HB.out | apply qL | apply qJ | apply qK | refine qI ?_ GE252.out) | exact HB.out)) hb); clear BK252; clear HB; have BK252 := n0_; have HB := n1_; clear n0_ n1_; (try clear hb); (try clear hb2); (try clear hk); (try clear hi)))
    go_ret
    exact ⟨by first | rfl | (simp [errW_none, errW_some] <;> rfl) | (simp [*, errW_none, errW_some] <;> rfl), by repeat (first | (with_reducible first | exact HB.out | apply qL | apply qJ | apply qK | refine qI ?_ GE252.out) | exact HB.out)⟩
   ·replace c8 := Bool.eq_false_iff.mpr c8
    subst c8
    have H1 : ((graph_Add.f l0 a1_0 a1_1 l1_2).bind fun bt255 => (if bt255.2 = 0 then (codicillaw19_GraphUsers.l0 kj2 l0 bt255.1 0 a1_0 a1_1 l1_2) else ((codicillaw19_alive.f kj2).bind fun t259 => (some t259)))) = some r := by rw [if_neg (show ¬ (false = true) by decide)] at H; exact H
    clear H
    have H := H1
    clear H1
    replace H := Option.bind_eq_some_iff.mp H
    obtain ⟨⟨t255, t258⟩, A110, H⟩ := H
    (try dsimp only at H)
    have A11 := qH A110
    clear A110
    by_cases c12 : t258 = 0
    ·rw [if_pos c12] at H
     have c12b0 : (t258 == 0) = true := beq_iff_eq.mpr c12
     have c12b1 : (t258 != 0) = false := bne_eq_false_iff_eq.mpr c12
     clear c12
     have H' := qH H
     clear H
     have hcz13_0 : wc.cell? ⟨gb252, 0, none⟩ = some (.string a1_0) := (qE BK252.out 0).trans rfl
     have hcz13_1 : wc.cell? ⟨gb252, 1, none⟩ = some (.int .i64 a1_1) := (qE BK252.out 1).trans rfl
     have hcz13_2 : wc.cell? ⟨gb252, 2, none⟩ = some (.slice A1_2 l1_2.length c1_2) := (qE BK252.out 2).trans rfl
     have hfz13_0 := qF BK252.out 0
     have hfz13_1 := qF BK252.out 1
     have hfz13_2 := qF BK252.out 2
     go_wp2_with (first | ((with_reducible refine gate_callee (f := 19) rfl ?_); refine goesL_ (some 31) rfl rfl Try.func19 (by kernel_rfl) rfl #[.slice A0 l0.length c0, .agg #[.string a1_0, .int .i64 a1_1, .slice A1_2 l1_2.length c1_2]] rfl (by (try simp only [zX, zY, zZ]); first | done | rfl | (simp only [zD, zE]; rfl)) ?_; (with_reducible refine (graph_Add.calls (fun k_ => k_ < w.heap.size) _ _ l0 a1_0 a1_1 (fun k_ => k_ < w.heap.size) _ _ l1_2 t255 t258 _ ?side1 ?side2 A11.out).mono ?_); (case side1 => exact Kd.V_mk HC0.out (Kd.F_below (Kd.C_F k40_heap HR0.out) (by repeat (first | (with_reducible first | exact HB.out | apply qL | apply qJ | apply qK | refine qI ?_ GE252.out) | exact HB.out)))); (case side2 => exact Kd.V_mk HC1_2.out (Kd.F_below (Kd.C_F k24_heap HR1_2.out) (by repeat (first | (with_reducible first | exact HB.out | apply qL | apply qJ | apply qK | refine qI ?_ GE252.out) | exact HB.out)))); rintro e w14 ⟨v256, rfl, ho0, hb⟩; refine ⟨_, rfl, ?_⟩; have n0_ := qH (Kd.V_lower (Kd.V_mono (ok' := fun k_ => k_ ≠ gb252) ho0 (fun k_ hk_ => Or.elim hk_ (fun hs_ => Or.elim hs_ (fun hs_ => fun e_ => Nat.not_le.2 hs_ (by rw [e_]; exact GW252.out)) (fun hs_ => fun e_ => Nat.not_le.2 hs_ (by rw [e_]; exact GW252.out))) (fun hn_ => (Kd.freshB (g := gb252) (by (with_reducible repeat first | apply qA | apply qC | apply qB); exact BK252.out) k_ hn_)))) (below_size (by repeat (first | (with_reducible first | exact HB.out | apply qL | apply qJ | apply qK | refine qI ?_ GE252.out) | exact HB.out)))); have n1_ := qH (qD (g := gb252) (by (with_reducible repeat first | apply qA | apply qC | apply qB); exact BK252.out) hb); have n2_ := qH (below_step (by repeat (first | (with_reducible first | exact HB.out | apply qL | apply qJ | apply qK | refine qI ?_ GE252.out) | exact HB.out)) hb); clear BK252; clear HB; have HO257 := n0_; have BK252 := n1_; have HB := n2_; clear n0_ n1_ n2_; (try clear hb); (try clear hb2); (try clear hk); (try clear hi); (try clear ho0)))
     go_loopg [7] kj2 (fun kq v7 w' => ∃ (x7_2 : Int), v7 = .int .i64 x7_2 ∧ Aside0 (codicillaw19_GraphUsers.l0 kq l0 t255 x7_2 a1_0 a1_1 l1_2 = some r) ∧ Aside0 (kq ≤ kj2) ∧ Aside0 (Kd.V k40 40 w' w.heap.size (fun k_ => k_ ≠ gb252) v256 t255) ∧ Aside0 (w'.heap[gb252]? = some (.cells #[.string a1_0, .int .i64 a1_1, (.slice A1_2 l1_2.length c1_2)] 40 (0, 0))) ∧ Aside0 (Below w.heap.size w w'))
     case atStart => exact ⟨(0), (by first | rfl | (simp; done) | (simp; exact qEmp _) | (simp [*]; done)), H', ⟨Nat.le_refl _⟩, ⟨by (with_reducible repeat first | apply zVa | apply zVb | apply zVc); exact HO257.out⟩, ⟨by (with_reducible repeat first | apply qA | apply qC | apply qB); exact BK252.out⟩, ⟨by repeat (first | (with_reducible first | exact HB.out | apply qL | apply qJ | apply qK | refine qI ?_ GE252.out) | exact HB.out)⟩⟩
     case round =>
      clear H'
      try clear c1
      try clear p2
      try clear c6
      try clear c7
      try clear c8
      try clear c12
      try clear c12b0
      try clear c12b1
      try clear hcz13_0
      try clear hcz13_1
      try clear hcz13_2
      try clear hcz7_0
      try clear hcz7_1
      try clear hcz7_2
      try clear hfz13_0
      try clear hfz13_1
      try clear hfz13_2
      try clear hfz7_0
      try clear hfz7_1
      try clear hfz7_2
      try clear p2
      obtain ⟨x7_2, rfl, HA, HK2, HO_5, BK252, HB⟩ := hrel
      cases gk with
      | zero => exact absurd HA.out (by simp [codicillaw19_GraphUsers.l0])
      | succ k2 =>
       have H := HA.out
       clear HA
       simp only [codicillaw19_GraphUsers.l0] at H
       by_cases c15 : x7_2 < (t255.length : Int)
       ·rw [if_pos c15] at H
        have c15b0 : decide (x7_2 < (t255.length : Int)) = true := decide_eq_true c15
        clear c15
        by_cases c16 : 0 ≤ x7_2
        ·rw [if_pos c16] at H
         have c16b0 : decide (0 ≤ x7_2) = true := decide_eq_true c16
         clear c16
         replace H := Option.bind_eq_some_iff.mp H
         obtain ⟨t262, A170, H⟩ := H
         (try dsimp only at H)
         have A17 := qH A170
         clear A170
         have H' := qH H
         clear H
         obtain ⟨Ao18, co18, eo18⟩ := Kd.V_slice HO_5.out
         subst eo18
         have p260 : 0 ≤ (x7_2 : Int) := of_decide_eq_true (by first | (with_reducible assumption) | assumption)
         have q260 : x7_2 < (t255.length : Int) := of_decide_eq_true (by first | (with_reducible assumption) | assumption)
         obtain ⟨ad260, A260_2, c260_2, e260, hx260_0, hx260_1, hx260_2, hl260_2, hi260_2⟩ := at_T40 (Kd.V_reads' HO_5.out).2.2 x7_2 p260 q260
         cases e260
         obtain ⟨ce260, hce260, hMe260, hcc260⟩ := Kd.V_get HO_5.out z40 x7_2 p260 (by first | exact q260 | exact of_decide_eq_true (by first | (with_reducible assumption) | assumption) | (have e_ := (Kd.V_reads' HO_5.out).1; omega))
         obtain ⟨ua260_2, uc260_2, rfl, ul260_2, ge260_2⟩ := k40_openF hMe260
         have hv260_2 := hcc260 2 _ rfl
         rw [add_field _ _ 2 (by omega)] at hv260_2
         replace hv260_2 := Option.some.inj (hv260_2.symm.trans hx260_2)
         injection hv260_2 with hva_ hvn_ hvc_
         rw [hva_] at ge260_2
         rw [hvc_] at ul260_2
         have HL260_2 := qH (show Kd.V k24 24 _ w.heap.size _ _ ((rd_T40 t255 x7_2).f1) from Kd.V_mk ul260_2 ge260_2)
         clear hva_ hvn_ hvc_ ge260_2 ul260_2
         clear hcc260 hce260
         have HR260_2 := qH hi260_2
         have HC260_2 := qH hl260_2
         clear hi260_2 hl260_2
         replace p260 := eq_true p260
         replace q260 := eq_true q260
         go_wp2_with (first | ((with_reducible refine gate_dst (N := 8) rfl ?_); (try (refine gate_guard (by rfl) ?_; dsimp only)); refine box_event ?hg (N := 8) ?hd (cs := #[.string (⟨#[]⟩ : ByteArray), .int .i64 0]) (t := 24) ?hr ?_; (case hd => rfl); (case hg => rfl); (case hr => first | (go_simp; done) | (go_simp; rfl) | (go_simp; simp [IntKind.wrap_u32]; done)); intro gb261 hg w19 hbox hb; have n0_ := qH (Kd.V_below (Kd.V_elderB (by (with_reducible repeat first | apply zVa | apply zVb | apply zVc); exact HO_5.out) gb261 (Nat.le_of_eq hg.symm)) hb); have n1_ := qH (Kd.V_below (Kd.V_elderB (by (with_reducible repeat first | apply zVa | apply zVb | apply zVc); exact HL260_2.out) gb261 (Nat.le_of_eq hg.symm)) hb); have n2_ := qH (qD (g := gb252) (by (with_reducible repeat first | apply qA | apply qC | apply qB); exact BK252.out) hb); have n3_ := qH (Kd.C_below (by repeat (first | (with_reducible exact HR260_2.out) | (with_reducible refine Kd.C_alloc ?_ _) | (with_reducible refine Kd.C_drewN ?_ _) | (with_reducible refine Kd.C_drew ?_) | exact HR260_2.out)) hb); have n4_ := qH (below_step (by repeat (first | (with_reducible first | exact HB.out | apply qL | apply qJ | apply qK | refine qI ?_ GE252.out) | exact HB.out)) hb); have n5_ := qH (hbox); have n6_ := qH ((by rw [hg]; exact (below_size (by repeat (first | (with_reducible first | exact HB.out | apply qL | apply qJ | apply qK | refine qI ?_ GE252.out) | exact HB.out))) : w.heap.size ≤ gb261)); have n7_ := n6_; have n8_ := qH ((by rw [hg]; exact qN (blk_lt (g := gb252) (by (with_reducible repeat first | apply qA | apply qC | apply qB); exact BK252.out)) : gb252 ≠ gb261)); have n9_ := qH ((by rw [hg]; exact Nat.ne_of_gt (blk_lt (g := gb252) (by (with_reducible repeat first | apply qA | apply qC | apply qB); exact BK252.out)) : gb261 ≠ gb252)); clear HO_5; clear HL260_2; clear BK252; clear HR260_2; clear HB; have HO_5 := n0_; have HL260_2 := n1_; have BK252 := n2_; have HR260_2 := n3_; have HB := n4_; have BK261 := n5_; have GW261 := n6_; have GE261 := n7_; have NB252_261 := n8_; have NB261_252 := n9_; clear n0_ n1_ n2_ n3_ n4_ n5_ n6_ n7_ n8_ n9_; clear hb hbox hg; have hnb20 := NB261_252.out; have hnc20 := NB252_261.out; obtain ⟨hcz21_0, hcz21_1⟩ := qc2 BK261.out; obtain ⟨hfz21_0, hfz21_1⟩ := qf2 BK261.out) | ((with_reducible refine gate_callee (f := 16) rfl ?_); refine goesL_ (some 50) rfl rfl Try.func16 (by kernel_rfl) rfl #[.slice (some ad260) t255.length co18, .agg #[.string ((rd_T40 t255 x7_2).f0.f0), .int .i64 ((rd_T40 t255 x7_2).f0.f1)]] rfl (by (try simp only [zX, zY, zZ]); first | done | rfl | (simp only [zD, zE]; rfl)) ?_; (with_reducible refine (graph_Users.calls k2 _ _ t255 ((rd_T40 t255 x7_2).f0.f0) ((rd_T40 t255 x7_2).f0.f1) t262 _ ?side1 ?side2 A17.out).mono ?_); (case side1 => refine (Kd.V_reads' (e := 40) (base := w.heap.size) (ok := fun k_ => (k_ ≠ gb252 ∧ k_ ≠ gb261)) (n := t255.length) (c := co18) ?_).2.2; exact (by (with_reducible repeat first | apply zVa | apply zVb | apply zVc); exact (Kd.V_mono (Kd.V_far (p := ⟨gb261, 1, none⟩) (Kd.V_far (p := ⟨gb261, 0, none⟩) (Kd.V_mono HO_5.out (fun k_ hk => (⟨hk, hk.2⟩ : _ ∧ k_ ≠ gb261))) (fun _ hk => hk.2) (.string ((rd_T40 t255 x7_2).f0.f0))) (fun _ hk => hk.2) (.int .i64 ((rd_T40 t255 x7_2).f0.f1))) (fun _ h_ => h_.1)))); (case side2 => exact (Kd.V_reads' HO_5.out).2.1); rintro e w22 ⟨v263, rfl, ho0, hb⟩; refine ⟨_, rfl, ?_⟩; have n0_ := qH (Kd.V_elder' (by (with_reducible repeat first | apply zVa | apply zVb | apply zVc); exact (Kd.V_mono (Kd.V_far (p := ⟨gb261, 1, none⟩) (Kd.V_far (p := ⟨gb261, 0, none⟩) (Kd.V_mono HO_5.out (fun k_ hk => (⟨hk, hk.2⟩ : _ ∧ k_ ≠ gb261))) (fun _ hk => hk.2) (.string ((rd_T40 t255 x7_2).f0.f0))) (fun _ hk => hk.2) (.int .i64 ((rd_T40 t255 x7_2).f0.f1))) (fun _ h_ => h_.1))) (Kd.R_base ho0) hb); have n1_ := qH (Kd.V_elder' (by (with_reducible repeat first | apply zVa | apply zVb | apply zVc); exact (Kd.V_mono (Kd.V_far (p := ⟨gb261, 1, none⟩) (Kd.V_far (p := ⟨gb261, 0, none⟩) (Kd.V_mono HL260_2.out (fun k_ hk => (⟨hk, hk.2⟩ : _ ∧ k_ ≠ gb261))) (fun _ hk => hk.2) (.string ((rd_T40 t255 x7_2).f0.f0))) (fun _ hk => hk.2) (.int .i64 ((rd_T40 t255 x7_2).f0.f1))) (fun _ h_ => h_.1))) (Kd.R_base ho0) hb); have n2_ := qH (Kd.R_lower (Kd.R_newB ho0 (g := gb261) (o := .cells #[.string ((rd_T40 t255 x7_2).f0.f0), .int .i64 ((rd_T40 t255 x7_2).f0.f1)] 24 (0, 0)) (by (with_reducible repeat first | apply qA | apply qC | apply qB); refine blk_put (cs := #[.string ((rd_T40 t255 x7_2).f0.f0), .int .i64 0]) ?_ 1 _ rfl; (with_reducible repeat first | apply qA | apply qC | apply qB); refine blk_put (cs := #[.string (⟨#[]⟩ : ByteArray), .int .i64 0]) ?_ 0 _ rfl; (with_reducible repeat first | apply qA | apply qC | apply qB); exact BK261.out)) (below_size (by repeat (first | (with_reducible first | exact HB.out | apply qL | apply qJ | apply qK | refine qI ?_ GE252.out | refine qI ?_ GE261.out) | exact HB.out)))); have n3_ := qH (qD (g := gb252) (o := .cells #[.string a1_0, .int .i64 a1_1, .slice A1_2 l1_2.length c1_2] 40 (0, 0)) (by (with_reducible repeat first | apply qA | apply qC | apply qB); refine qG ?_ NB252_261.out _; (with_reducible repeat first | apply qA | apply qC | apply qB); refine qG ?_ NB252_261.out _; (with_reducible repeat first | apply qA | apply qC | apply qB); exact BK252.out) hb); have n4_ := qH (Kd.C_below ((Kd.V_reads' (by (with_reducible repeat first | apply zVa | apply zVb | apply zVc); exact (Kd.V_mono (Kd.V_far (p := ⟨gb261, 1, none⟩) (Kd.V_far (p := ⟨gb261, 0, none⟩) (Kd.V_mono HL260_2.out (fun k_ hk => (⟨hk, hk.2⟩ : _ ∧ k_ ≠ gb261))) (fun _ hk => hk.2) (.string ((rd_T40 t255 x7_2).f0.f0))) (fun _ hk => hk.2) (.int .i64 ((rd_T40 t255 x7_2).f0.f1))) (fun _ h_ => h_.1)))).2.2) hb); have n5_ := qH (qD (g := gb261) (o := .cells #[.string ((rd_T40 t255 x7_2).f0.f0), .int .i64 ((rd_T40 t255 x7_2).f0.f1)] 24 (0, 0)) (by (with_reducible repeat first | apply qA | apply qC | apply qB); refine blk_put (cs := #[.string ((rd_T40 t255 x7_2).f0.f0), .int .i64 0]) ?_ 1 _ rfl; (with_reducible repeat first | apply qA | apply qC | apply qB); refine blk_put (cs := #[.string (⟨#[]⟩ : ByteArray), .int .i64 0]) ?_ 0 _ rfl; (with_reducible repeat first | apply qA | apply qC | apply qB); exact BK261.out) hb); have n6_ := qH (below_step (by repeat (first | (with_reducible first | exact HB.out | apply qL | apply qJ | apply qK | refine qI ?_ GE252.out | refine qI ?_ GE261.out) | exact HB.out)) hb); clear HO_5; clear HL260_2; clear BK252; clear HR260_2; clear BK261; clear HB; have HO_5 := n0_; have HL260_2 := n1_; have HO264 := n2_; have BK252 := n3_; have HR260_2 := n4_; have BK261 := n5_; have HB := n6_; clear n0_ n1_ n2_ n3_ n4_ n5_ n6_; (try clear hb); (try clear hb2); (try clear hk); (try clear hi); (try clear ho0)))
         go_loopg [10] k2 (fun kq v10 w' => ∃ (x10_3 : Int), v10 = .int .i64 x10_3 ∧ Aside0 (codicillaw19_GraphUsers.l1 kq l0 t255 x7_2 t262 x10_3 a1_0 a1_1 l1_2 ((rd_T40 t255 x7_2).f0.f0) ((rd_T40 t255 x7_2).f0.f1) = some r) ∧ Aside0 (kq ≤ k2) ∧ Aside0 (Kd.V k40 40 w' w.heap.size (fun k_ => some k_ ≠ (v263 : Value).ownBlock ∧ k_ ≠ gb252 ∧ k_ ≠ gb261) (.slice (some ad260) t255.length co18) t255) ∧ Aside0 (Kd.R k24 24 w' w.heap.size (fun k_ => k_ ≠ gb261) v263 t262) ∧ Aside0 (w'.heap[gb252]? = some (.cells #[.string a1_0, .int .i64 a1_1, (.slice A1_2 l1_2.length c1_2)] 40 (0, 0))) ∧ Aside0 (w'.heap[gb261]? = some (.cells #[.string ((rd_T40 t255 x7_2).f0.f0), .int .i64 ((rd_T40 t255 x7_2).f0.f1)] 24 (0, 0))) ∧ Aside0 (Kd.C k24 w' A260_2 ((rd_T40 t255 x7_2).f1).length ((rd_T40 t255 x7_2).f1)) ∧ Aside0 (Below w.heap.size w w'))
         case atStart => exact ⟨(0), (by first | rfl | (simp; done) | (simp; exact qEmp _) | (simp [*]; done)), H', ⟨Nat.le_refl _⟩, ⟨by (with_reducible repeat first | apply zVa | apply zVb | apply zVc); exact Kd.V_mono HO_5.out (fun _ hk => ⟨hk.2, ⟨hk.1.1, hk.1.2⟩⟩)⟩, ⟨by (with_reducible repeat first | apply zRa | apply zRb | apply zRc); exact Kd.R_mono HO264.out (fun _ hk => hk.2)⟩, ⟨by (with_reducible repeat first | apply qA | apply qC | apply qB); exact BK252.out⟩, ⟨by (with_reducible repeat first | apply qA | apply qC | apply qB); exact BK261.out⟩, ⟨by repeat (first | (with_reducible exact HR260_2.out) | (with_reducible refine Kd.C_alloc ?_ _) | (with_reducible refine Kd.C_drewN ?_ _) | (with_reducible refine Kd.C_drew ?_) | exact HR260_2.out)⟩, ⟨by repeat (first | (with_reducible first | exact HB.out | apply qL | apply qJ | apply qK | refine qI ?_ GE252.out | refine qI ?_ GE261.out) | exact HB.out)⟩⟩
         case round =>
          clear H'
          try clear c1
          try clear c2
          try clear p2
          try clear q2
          try clear hx2
          try clear c6
          try clear c7
          try clear c8
          try clear c12
          try clear c12b0
          try clear c12b1
          try clear c15
          try clear c15b0
          try clear c16
          try clear c16b0
          try clear c19
          try clear c20
          try clear hcz13_0
          try clear hcz13_1
          try clear hcz13_2
          try clear hcz21_0
          try clear hcz21_1
          try clear hcz7_0
          try clear hcz7_1
          try clear hcz7_2
          try clear hfz13_0
          try clear hfz13_1
          try clear hfz13_2
          try clear hfz21_0
          try clear hfz21_1
          try clear hfz7_0
          try clear hfz7_1
          try clear hfz7_2
          try clear hx260_0
          try clear hx260_1
          try clear hx260_2
          try clear p2
          try clear p260
          try clear q260
          obtain ⟨x10_3, rfl, HA, HK3, HO_5, HO_9, BK252, BK261, HR260_2, HB⟩ := hrel
          cases gk with
          | zero => exact absurd HA.out (by simp [codicillaw19_GraphUsers.l1])
          | succ k3 =>
           have H := HA.out
           clear HA
           simp only [codicillaw19_GraphUsers.l1] at H
           by_cases c23 : x10_3 < (t255.length : Int)
           ·rw [if_pos c23] at H
            have c23b0 : decide (x10_3 < (t255.length : Int)) = true := decide_eq_true c23
            clear c23
            by_cases c24 : 0 ≤ x10_3
            ·rw [if_pos c24] at H
             have c24b0 : decide (0 ≤ x10_3) = true := decide_eq_true c24
             clear c24
             replace H := Option.bind_eq_some_iff.mp H
             obtain ⟨t266, A250, H⟩ := H
             (try dsimp only at H)
             have A25 := qH A250
             clear A250
             replace H := Option.bind_eq_some_iff.mp H
             obtain ⟨t268, A260, H⟩ := H
             (try dsimp only at H)
             have A26 := qH A260
             clear A260
             by_cases c27 : ((decide (t266 ≥ 0)) != (decide (t268 ≥ 0))) = true
             ·rw [if_pos c27] at H
              have c27b0 : ((decide (t266 ≥ 0)) != (decide (t268 ≥ 0))) = true := c27
              (try (have c27b1 : decide ((decide (t266 ≥ 0)) = (decide (t268 ≥ 0))) = false := by simpa using c27))
              (try (have c27b2 : ((decide (t266 ≥ 0)) == (decide (t268 ≥ 0))) = false := by simpa using c27))
              (try (have c27b3 : ¬ ((decide (t266 ≥ 0)) = (decide (t268 ≥ 0))) := by simpa using c27))
              clear c27
              obtain rfl := Option.some.inj H
              simp only [Option.some.injEq, Prod.mk.injEq] at H
              obtain ⟨rfl⟩ := H
              try go_wp2
              have n0_ := qH (Kd.V_drew HO_5.out)
              have n1_ := qH (Kd.R_drew HO_9.out)
              have n2_ := qH (qC BK252.out)
              have n3_ := qH (qC BK261.out)
              have n4_ := qH (Kd.C_drew HR260_2.out)
              have n5_ := qH (qK HB.out)
              clear HO_5
              clear HO_9
              clear BK252
              clear BK261
              clear HR260_2
              clear HB
              have HO_5 := n0_
              have HO_9 := n1_
              have BK252 := n2_
              have BK261 := n3_
              have HR260_2 := n4_
              have HB := n5_
              clear n0_ n1_ n2_ n3_ n4_ n5_
              have p265 : 0 ≤ (x10_3 : Int) := of_decide_eq_true (by first | (with_reducible assumption) | assumption)
              have q265 : x10_3 < (t255.length : Int) := of_decide_eq_true (by first | (with_reducible assumption) | assumption)
              obtain ⟨ad265, A265_2, c265_2, e265, hx265_0, hx265_1, hx265_2, hl265_2, hi265_2⟩ := at_T40 (Kd.V_reads' HO_5.out).2.2 x10_3 p265 q265
              obtain rfl : ad260 = ad265 := (by injection e265)
              obtain ⟨ce265, hce265, hMe265, hcc265⟩ := Kd.V_get HO_5.out z40 x10_3 p265 (by first | exact q265 | exact of_decide_eq_true (by first | (with_reducible assumption) | assumption) | (have e_ := (Kd.V_reads' HO_5.out).1; omega))
              obtain ⟨ua265_2, uc265_2, rfl, ul265_2, ge265_2⟩ := k40_openF hMe265
              have hv265_2 := hcc265 2 _ rfl
              rw [add_field _ _ 2 (by omega)] at hv265_2
              replace hv265_2 := Option.some.inj (hv265_2.symm.trans hx265_2)
              injection hv265_2 with hva_ hvn_ hvc_
              rw [hva_] at ge265_2
              rw [hvc_] at ul265_2
              have HL265_2 := qH (show Kd.V k24 24 _ w.heap.size _ _ ((rd_T40 t255 x10_3).f1) from Kd.V_mk ul265_2 ge265_2)
              clear hva_ hvn_ hvc_ ge265_2 ul265_2
              clear hcc265 hce265
              have HR265_2 := qH hi265_2
              have HC265_2 := qH hl265_2
              clear hi265_2 hl265_2
              replace p265 := eq_true p265
              replace q265 := eq_true q265
              have p267 : 0 ≤ (x10_3 : Int) := of_decide_eq_true (by first | (with_reducible assumption) | assumption)
              have q267 : x10_3 < (t255.length : Int) := of_decide_eq_true (by first | (with_reducible assumption) | assumption)
              obtain ⟨ad267, A267_2, c267_2, e267, hx267_0, hx267_1, hx267_2, hl267_2, hi267_2⟩ := at_T40 (Kd.V_reads' HO_5.out).2.2 x10_3 p267 q267
              obtain rfl : ad260 = ad267 := (by injection e267)
              obtain ⟨ce267, hce267, hMe267, hcc267⟩ := Kd.V_get HO_5.out z40 x10_3 p267 (by first | exact q267 | exact of_decide_eq_true (by first | (with_reducible assumption) | assumption) | (have e_ := (Kd.V_reads' HO_5.out).1; omega))
              obtain ⟨ua267_2, uc267_2, rfl, ul267_2, ge267_2⟩ := k40_openF hMe267
              have hv267_2 := hcc267 2 _ rfl
              rw [add_field _ _ 2 (by omega)] at hv267_2
              replace hv267_2 := Option.some.inj (hv267_2.symm.trans hx267_2)
              injection hv267_2 with hva_ hvn_ hvc_
              rw [hva_] at ge267_2
              rw [hvc_] at ul267_2
              have HL267_2 := qH (show Kd.V k24 24 _ w.heap.size _ _ ((rd_T40 t255 x10_3).f1) from Kd.V_mk ul267_2 ge267_2)
              clear hva_ hvn_ hvc_ ge267_2 ul267_2
              clear hcc267 hce267
              have HR267_2 := qH hi267_2
              have HC267_2 := qH hl267_2
              clear hi267_2 hl267_2
              replace p267 := eq_true p267
              replace q267 := eq_true q267
              have ea_ := Option.some.inj (hx265_2.symm.trans hx267_2)
              injection ea_ with ea_ en_ ec_
              subst ea_
              subst ec_
              clear en_
              refine start_ (n := 17) (S := fun w' => w'.cell? ⟨gb261, 0, none⟩ = some (.string ((rd_T40 t255 x7_2).f0.f0)) ∧ w'.cell? ⟨gb261, 1, none⟩ = some (.int .i64 ((rd_T40 t255 x7_2).f0.f1)) ∧ w'.cell? (ad260.add ((x10_3).toNat * 3)) = some (.string ((rd_T40 t255 x10_3).f0.f0)) ∧ w'.cell? ⟨(ad260.add ((x10_3).toNat * 3)).block, (ad260.add ((x10_3).toNat * 3)).off + 1, none⟩ = some (.int .i64 ((rd_T40 t255 x10_3).f0.f1)) ∧ w'.cell? ⟨(ad260.add ((x10_3).toNat * 3)).block, (ad260.add ((x10_3).toNat * 3)).off + 2, none⟩ = some (.slice A265_2 ((rd_T40 t255 x10_3).f1).length c265_2) ∧ w'.cell? (ad260.add ((x10_3).toNat * 3)) = some (.string ((rd_T40 t255 x10_3).f0.f0)) ∧ w'.cell? ⟨(ad260.add ((x10_3).toNat * 3)).block, (ad260.add ((x10_3).toNat * 3)).off + 1, none⟩ = some (.int .i64 ((rd_T40 t255 x10_3).f0.f1)) ∧ w'.cell? ⟨(ad260.add ((x10_3).toNat * 3)).block, (ad260.add ((x10_3).toNat * 3)).off + 2, none⟩ = some (.slice A265_2 ((rd_T40 t255 x10_3).f1).length c265_2)) (ds := []) (lb 17 0) (by kernel_rfl) rfl rfl ⟨(qE BK261.out 0).trans rfl, (qE BK261.out 1).trans rfl, hx265_0, hx265_1, hx265_2, hx267_0, hx267_1, hx267_2⟩ (fun hHeld => ?_); refine with_tabW codicillaw19_GraphUsers.tab14 codicillaw19_GraphUsers.bits14 (fun HT_ HW_ => ?_)
              generalize wr.drew = w28 at HO_5 HO_9 BK252 BK261 HR260_2 HB HL265_2 HL267_2 HR265_2 HR267_2 hx265_0 hx265_1 hx265_2 hx267_0 hx267_1 hx267_2 hHeld ⊢
              refine pure_ (i := 0) (N := some 57) (v := ?_) (a' := ?_) (lb 17 1) rfl rfl (any_of HT_.out (by kernel_rfl)) (fun _ _ _ h => h) (Or.inl ⟨by rfl, ?_⟩) ?_ ?_
              rotate_left
              ·intro w'
               go_simp
               with_reducible rfl
              rotate_left
              ·simp only [Act.put, zS, zT, zU, zV, zW]
               rfl
              refine pure_ (i := 1) (N := some 58) (v := ?_) (a' := ?_) (lb 17 3) rfl rfl (any_of HT_.out (by kernel_rfl)) (fun _ _ _ h => h) (Or.inl ⟨by rfl, ?_⟩) ?_ ?_
              rotate_left
              ·intro w'
               go_simp
               with_reducible rfl
              rotate_left
              ·simp only [Act.put, zS, zT, zU, zV, zW]
               rfl
              refine pure_ (i := 2) (N := some 59) (v := ?_) (a' := ?_) (lb 17 7) rfl rfl (any_of HT_.out (by kernel_rfl)) (fun _ _ _ h => h) (Or.inl ⟨by rfl, ?_⟩) ?_ ?_
              rotate_left
              ·intro w'
               go_simp
               with_reducible rfl
              rotate_left
              ·simp only [Act.put, zS, zT, zU, zV, zW]
               rfl
              refine pure_ (i := 3) (N := some 60) (v := ?_) (a' := ?_) (lb 17 15) rfl rfl (any_of HT_.out (by kernel_rfl)) (fun _ _ _ h => h) (Or.inl ⟨by rfl, ?_⟩) ?_ ?_
              rotate_left
              ·intro w'
               go_simp
               with_reducible rfl
              rotate_left
              ·simp only [Act.put, zS, zT, zU, zV, zW]
               rfl
              refine pure_ (i := 8) (N := some 65) (v := ?_) (a' := ?_) (lb 17 271) rfl rfl (any_of HT_.out (by kernel_rfl)) (fun _ _ _ h => h) (Or.inl ⟨by rfl, ?_⟩) ?_ ?_
              rotate_left
              ·intro w'
               go_simp
               with_reducible rfl
              rotate_left
              ·simp only [Act.put, zS, zT, zU, zV, zW]
               rfl
              refine pure_ (i := 9) (N := some 66) (v := ?_) (a' := ?_) (lb 17 783) rfl rfl (any_of HT_.out (by kernel_rfl)) (fun _ _ _ h => h) (Or.inl ⟨by rfl, ?_⟩) ?_ ?_
              rotate_left
              ·intro w'
               go_simp
               with_reducible rfl
              rotate_left
              ·simp only [Act.put, zS, zT, zU, zV, zW]
               rfl
              refine pure_ (i := 10) (N := some 67) (v := ?_) (a' := ?_) (lb 17 1807) rfl rfl (any_of HT_.out (by kernel_rfl)) (fun _ _ _ h => h) (Or.inl ⟨by rfl, ?_⟩) ?_ ?_
              rotate_left
              ·intro w'
               go_simp
               with_reducible rfl
              rotate_left
              ·simp only [Act.put, zS, zT, zU, zV, zW]
               rfl
              refine pure_ (i := 11) (N := some 68) (v := ?_) (a' := ?_) (lb 17 3855) rfl rfl (any_of HT_.out (by kernel_rfl)) (fun _ _ _ h => h) (Or.inl ⟨by rfl, ?_⟩) ?_ ?_
              rotate_left
              ·intro w'
               go_simp
               with_reducible rfl
              rotate_left
              ·simp only [Act.put, zS, zT, zU, zV, zW]
               rfl
              refine pure_ (i := 12) (N := some 69) (v := ?_) (a' := ?_) (lb 17 7951) rfl rfl (any_of HT_.out (by kernel_rfl)) (fun _ _ _ h => h) (Or.inl ⟨by rfl, ?_⟩) ?_ ?_
              rotate_left
              ·intro w'
               go_simp
               with_reducible rfl
              rotate_left
              ·simp only [Act.put, zS, zT, zU, zV, zW]
               rfl
              refine take_ (i := 4) (N := some 61) (v := ?_) (a' := ?_) (lb 17 7967) rfl rfl (take_ofW HT_.out HW_.out (by kernel_rfl)) (fun _ _ _ h => h) (Or.inl ⟨by rfl, ?_⟩) hHeld ?_ ?_
              rotate_left
              ·rintro w' ⟨s0, s1, s2, s3, s4, s5, s6, s7⟩
               go_simp
               with_reducible rfl
              rotate_left
              ·simp only [Act.put, zS, zT, zU, zV, zW]
               rfl
              refine take_ (i := 5) (N := some 62) (v := ?_) (a' := ?_) (lb 17 7999) rfl rfl (take_ofW HT_.out HW_.out (by kernel_rfl)) (fun _ _ _ h => h) (Or.inl ⟨by rfl, ?_⟩) hHeld ?_ ?_
              rotate_left
              ·rintro w' ⟨s0, s1, s2, s3, s4, s5, s6, s7⟩
               go_simp
               with_reducible rfl
              rotate_left
              ·simp only [Act.put, zS, zT, zU, zV, zW]
               rfl
              refine take_ (i := 13) (N := some 70) (v := ?_) (a' := ?_) (lb 17 16191) rfl rfl (take_ofW HT_.out HW_.out (by kernel_rfl)) (fun _ _ _ h => h) (Or.inl ⟨by rfl, ?_⟩) hHeld ?_ ?_
              rotate_left
              ·rintro w' ⟨s0, s1, s2, s3, s4, s5, s6, s7⟩
               go_simp
               with_reducible rfl
              rotate_left
              ·simp only [Act.put, zS, zT, zU, zV, zW]
               rfl
              refine one_ (i := 6) (N := some 63) (lb 17 16255) rfl rfl (one_of HT_.out (by kernel_rfl)) (by decide) (fun K hK => ?_)
              refine goes_ Try.func24 (by kernel_rfl) rfl #[.slice A265_2 ((rd_T40 t255 x10_3).f1).length c265_2, .agg #[.string ((rd_T40 t255 x7_2).f0.f0), .int .i64 ((rd_T40 t255 x7_2).f0.f1)]] (by rfl) rfl rfl (by (try simp only [zX, zY, zZ]); first | done | rfl | (simp only [zD, zE]; rfl)) ?_
              with_reducible refine (codicillaw19_place.calls k3 _ _ ((rd_T40 t255 x10_3).f1) ((rd_T40 t255 x7_2).f0.f0) ((rd_T40 t255 x7_2).f0.f1) t266 _ ?side1 ?side2 A25.out).mono ?_
              (case side1 => repeat (first | exact (by repeat (first | (with_reducible exact HR265_2.out) | (with_reducible refine Kd.C_alloc ?_ _) | (with_reducible refine Kd.C_drewN ?_ _) | (with_reducible refine Kd.C_drew ?_) | exact HR265_2.out)) | (with_reducible refine Kd.C_alloc ?_ _) | (with_reducible refine Kd.C_drewN ?_ _) | (with_reducible refine Kd.C_drew ?_)))
              (case side2 => exact HC265_2.out)
              rintro e w29 ⟨rfl, hb⟩
              have HS2_ := (hb.cell (qO _ _ (hHeld.2.2.1))).trans (hHeld.2.2.1)
              have HS3_ := (hb.cell (qO _ _ (hHeld.2.2.2.1))).trans (hHeld.2.2.2.1)
              have HS4_ := (hb.cell (qO _ _ (hHeld.2.2.2.2.1))).trans (hHeld.2.2.2.2.1)
              have HS5_ := (hb.cell (qO _ _ (hHeld.2.2.2.2.2.1))).trans (hHeld.2.2.2.2.2.1)
              have HS6_ := (hb.cell (qO _ _ (hHeld.2.2.2.2.2.2.1))).trans (hHeld.2.2.2.2.2.2.1)
              have HS7_ := (hb.cell (qO _ _ (hHeld.2.2.2.2.2.2.2))).trans (hHeld.2.2.2.2.2.2.2)
              refine ⟨_, rfl, ?_⟩
              have n0_ := qH (Kd.V_below (by (with_reducible repeat first | apply zVa | apply zVb | apply zVc); exact HO_5.out) hb)
              have n1_ := qH (Kd.R_below (by (with_reducible repeat first | apply zRa | apply zRb | apply zRc); exact HO_9.out) hb)
              have n2_ := qH (Kd.V_below (by (with_reducible repeat first | apply zVa | apply zVb | apply zVc); exact HL265_2.out) hb)
              have n3_ := qH (Kd.V_below (by (with_reducible repeat first | apply zVa | apply zVb | apply zVc); exact HL267_2.out) hb)
              have n4_ := qH (qD (g := gb252) (by (with_reducible repeat first | apply qA | apply qC | apply qB); exact BK252.out) hb)
              have n5_ := qH (qD (g := gb261) (by (with_reducible repeat first | apply qA | apply qC | apply qB); exact BK261.out) hb)
              have n6_ := qH (Kd.C_below (by repeat (first | (with_reducible exact HR260_2.out) | (with_reducible refine Kd.C_alloc ?_ _) | (with_reducible refine Kd.C_drewN ?_ _) | (with_reducible refine Kd.C_drew ?_) | exact HR260_2.out)) hb)
              have n7_ := qH (Kd.C_below (by repeat (first | (with_reducible exact HR265_2.out) | (with_reducible refine Kd.C_alloc ?_ _) | (with_reducible refine Kd.C_drewN ?_ _) | (with_reducible refine Kd.C_drew ?_) | exact HR265_2.out)) hb)
              have n8_ := qH (Kd.C_below (by repeat (first | (with_reducible exact HR267_2.out) | (with_reducible refine Kd.C_alloc ?_ _) | (with_reducible refine Kd.C_drewN ?_ _) | (with_reducible refine Kd.C_drew ?_) | exact HR267_2.out)) hb)
              have n9_ := qH (below_step (by repeat (first | (with_reducible first | exact HB.out | apply qL | apply qJ | apply qK | refine qI ?_ GE252.out | refine qI ?_ GE261.out) | exact HB.out)) hb)
              clear HO_5
              clear HO_9
              clear HL265_2
              clear HL267_2
              clear BK252
              clear BK261
              clear HR260_2
              clear HR265_2
              clear HR267_2
              clear HB
              have HO_5 := n0_
              have HO_9 := n1_
              have HL265_2 := n2_
              have HL267_2 := n3_
              have BK252 := n4_
              have BK261 := n5_
              have HR260_2 := n6_
              have HR265_2 := n7_
              have HR267_2 := n8_
              have HB := n9_
              clear n0_ n1_ n2_ n3_ n4_ n5_ n6_ n7_ n8_ n9_
              (try clear hb)
              (try clear hb2)
              (try clear hk)
              (try clear hi)
              obtain ⟨Ao30, co30, eo30⟩ := Kd.R_slice HO_9.out
              (first | subst eo30 | (injection eo30 with f1_ f2_ f3_; have f4_ := f1_.symm; have f5_ := f3_.symm; clear f1_ f2_ f3_; subst f4_; subst f5_))
              refine hK.out _ _ ⟨(qE BK261.out 0).trans rfl, (qE BK261.out 1).trans rfl, HS2_, HS3_, HS4_, HS5_, HS6_, HS7_⟩ (fun hHeld => ?_)
              clear hK K
              refine norm_ (a' := ?_) ?_ ?_
              rotate_left
              ·show Act.put _ (some 63) _ = _
               simp only [Act.put, zS, zT, zU, zV, zW]
               rfl
              refine pure_ (i := 7) (N := some 64) (v := ?_) (a' := ?_) (lb 17 16383) rfl rfl (any_of HT_.out (by kernel_rfl)) (fun _ _ _ h => h) (Or.inl ⟨by rfl, ?_⟩) ?_ ?_
              rotate_left
              ·intro w'
               go_simp
               with_reducible rfl
              rotate_left
              ·simp only [Act.put, zS, zT, zU, zV, zW]
               rfl
              refine one_ (i := 14) (N := some 71) (lb 17 32767) rfl rfl (one_of HT_.out (by kernel_rfl)) (by decide) (fun K hK => ?_)
              refine goes_ Try.func24 (by kernel_rfl) rfl #[.slice Ao30 t262.length co30, .agg #[.string ((rd_T40 t255 x10_3).f0.f0), .int .i64 ((rd_T40 t255 x10_3).f0.f1)]] (by rfl) rfl rfl (by (try simp only [zX, zY, zZ]); first | done | rfl | (simp only [zD, zE]; rfl)) ?_
              with_reducible refine (codicillaw19_place.calls k3 _ _ t262 ((rd_T40 t255 x10_3).f0.f0) ((rd_T40 t255 x10_3).f0.f1) t268 _ ?side1 ?side2 A26.out).mono ?_
              (case side1 => repeat (first | exact (Kd.R_reads' HO_9.out).2.2 | (with_reducible refine Kd.C_alloc ?_ _) | (with_reducible refine Kd.C_drewN ?_ _) | (with_reducible refine Kd.C_drew ?_)))
              (case side2 => exact (Kd.R_reads' HO_9.out).2.1)
              rintro e w31 ⟨rfl, hb⟩
              have HS2_ := (hb.cell (qO _ _ (hHeld.2.2.1))).trans (hHeld.2.2.1)
              have HS3_ := (hb.cell (qO _ _ (hHeld.2.2.2.1))).trans (hHeld.2.2.2.1)
              have HS4_ := (hb.cell (qO _ _ (hHeld.2.2.2.2.1))).trans (hHeld.2.2.2.2.1)
              have HS5_ := (hb.cell (qO _ _ (hHeld.2.2.2.2.2.1))).trans (hHeld.2.2.2.2.2.1)
              have HS6_ := (hb.cell (qO _ _ (hHeld.2.2.2.2.2.2.1))).trans (hHeld.2.2.2.2.2.2.1)
              have HS7_ := (hb.cell (qO _ _ (hHeld.2.2.2.2.2.2.2))).trans (hHeld.2.2.2.2.2.2.2)
              refine ⟨_, rfl, ?_⟩
              have n0_ := qH (Kd.V_below (by (with_reducible repeat first | apply zVa | apply zVb | apply zVc); exact HO_5.out) hb)
              have n1_ := qH (Kd.R_below (by (with_reducible repeat first | apply zRa | apply zRb | apply zRc); exact HO_9.out) hb)
              have n2_ := qH (Kd.V_below (by (with_reducible repeat first | apply zVa | apply zVb | apply zVc); exact HL265_2.out) hb)
              have n3_ := qH (Kd.V_below (by (with_reducible repeat first | apply zVa | apply zVb | apply zVc); exact HL267_2.out) hb)
              have n4_ := qH (qD (g := gb252) (by (with_reducible repeat first | apply qA | apply qC | apply qB); exact BK252.out) hb)
              have n5_ := qH (qD (g := gb261) (by (with_reducible repeat first | apply qA | apply qC | apply qB); exact BK261.out) hb)
              have n6_ := qH (Kd.C_below (by repeat (first | (with_reducible exact HR260_2.out) | (with_reducible refine Kd.C_alloc ?_ _) | (with_reducible refine Kd.C_drewN ?_ _) | (with_reducible refine Kd.C_drew ?_) | exact HR260_2.out)) hb)
              have n7_ := qH (Kd.C_below (by repeat (first | (with_reducible exact HR265_2.out) | (with_reducible refine Kd.C_alloc ?_ _) | (with_reducible refine Kd.C_drewN ?_ _) | (with_reducible refine Kd.C_drew ?_) | exact HR265_2.out)) hb)
              have n8_ := qH (Kd.C_below (by repeat (first | (with_reducible exact HR267_2.out) | (with_reducible refine Kd.C_alloc ?_ _) | (with_reducible refine Kd.C_drewN ?_ _) | (with_reducible refine Kd.C_drew ?_) | exact HR267_2.out)) hb)
              have n9_ := qH (below_step (by repeat (first | (with_reducible first | exact HB.out | apply qL | apply qJ | apply qK | refine qI ?_ GE252.out | refine qI ?_ GE261.out) | exact HB.out)) hb)
              clear HO_5
              clear HO_9
              clear HL265_2
              clear HL267_2
              clear BK252
              clear BK261
              clear HR260_2
              clear HR265_2
              clear HR267_2
              clear HB
              have HO_5 := n0_
              have HO_9 := n1_
              have HL265_2 := n2_
              have HL267_2 := n3_
              have BK252 := n4_
              have BK261 := n5_
              have HR260_2 := n6_
              have HR265_2 := n7_
              have HR267_2 := n8_
              have HB := n9_
              clear n0_ n1_ n2_ n3_ n4_ n5_ n6_ n7_ n8_ n9_
              (try clear hb)
              (try clear hb2)
              (try clear hk)
              (try clear hi)
              refine hK.out _ _ ⟨(qE BK261.out 0).trans rfl, (qE BK261.out 1).trans rfl, HS2_, HS3_, HS4_, HS5_, HS6_, HS7_⟩ (fun hHeld => ?_)
              clear hK K
              refine norm_ (a' := ?_) ?_ ?_
              rotate_left
              ·show Act.put _ (some 71) _ = _
               simp only [Act.put, zS, zT, zU, zV, zW]
               rfl
              refine pure_ (i := 15) (N := some 72) (v := ?_) (a' := ?_) (lb 17 65535) rfl rfl (any_of HT_.out (by kernel_rfl)) (fun _ _ _ h => h) (Or.inl ⟨by rfl, ?_⟩) ?_ ?_
              rotate_left
              ·intro w'
               go_simp
               with_reducible rfl
              rotate_left
              ·simp only [Act.put, zS, zT, zU, zV, zW]
               rfl
              refine pure_ (i := 16) (N := some 73) (v := ?_) (a' := ?_) (lb 17 131071) rfl rfl (any_of HT_.out (by kernel_rfl)) (fun _ _ _ h => h) (Or.inl ⟨by rfl, ?_⟩) ?_ ?_
              rotate_left
              ·intro w'
               go_simp
               with_reducible rfl
              rotate_left
              ·simp only [Act.put, zS, zT, zU, zV, zW]
               rfl
              refine done_ (done_of HT_.out (by kernel_rfl)) ?_
              try go_wp2
              go_ret
              exact ⟨by first | rfl | (simp [errW_none, errW_some] <;> rfl) | (simp [*, errW_none, errW_some] <;> rfl), by repeat (first | (with_reducible first | exact HB.out | apply qL | apply qJ | apply qK | refine qI ?_ GE252.out | refine qI ?_ GE261.out) | exact HB.out)⟩
             ·rw [if_neg c27] at H
              have c27b0 : ((decide (t266 ≥ 0)) != (decide (t268 ≥ 0))) = false := by simpa using c27
              (try (have c27b1 : decide ((decide (t266 ≥ 0)) = (decide (t268 ≥ 0))) = true := by simpa using c27))
              (try (have c27b2 : ((decide (t266 ≥ 0)) == (decide (t268 ≥ 0))) = true := by simpa using c27))
              clear c27
              have H' := qH H
              clear H
              try go_wp2
              have n0_ := qH (Kd.V_drew HO_5.out)
              have n1_ := qH (Kd.R_drew HO_9.out)
              have n2_ := qH (qC BK252.out)
              have n3_ := qH (qC BK261.out)
              have n4_ := qH (Kd.C_drew HR260_2.out)
              have n5_ := qH (qK HB.out)
              clear HO_5
              clear HO_9
              clear BK252
              clear BK261
              clear HR260_2
              clear HB
              have HO_5 := n0_
              have HO_9 := n1_
              have BK252 := n2_
              have BK261 := n3_
              have HR260_2 := n4_
              have HB := n5_
              clear n0_ n1_ n2_ n3_ n4_ n5_
              have p265 : 0 ≤ (x10_3 : Int) := of_decide_eq_true (by first | (with_reducible assumption) | assumption)
              have q265 : x10_3 < (t255.length : Int) := of_decide_eq_true (by first | (with_reducible assumption) | assumption)
              obtain ⟨ad265, A265_2, c265_2, e265, hx265_0, hx265_1, hx265_2, hl265_2, hi265_2⟩ := at_T40 (Kd.V_reads' HO_5.out).2.2 x10_3 p265 q265
              obtain rfl : ad260 = ad265 := (by injection e265)
              obtain ⟨ce265, hce265, hMe265, hcc265⟩ := Kd.V_get HO_5.out z40 x10_3 p265 (by first | exact q265 | exact of_decide_eq_true (by first | (with_reducible assumption) | assumption) | (have e_ := (Kd.V_reads' HO_5.out).1; omega))
              obtain ⟨ua265_2, uc265_2, rfl, ul265_2, ge265_2⟩ := k40_openF hMe265
              have hv265_2 := hcc265 2 _ rfl
              rw [add_field _ _ 2 (by omega)] at hv265_2
              replace hv265_2 := Option.some.inj (hv265_2.symm.trans hx265_2)
              injection hv265_2 with hva_ hvn_ hvc_
              rw [hva_] at ge265_2
              rw [hvc_] at ul265_2
              have HL265_2 := qH (show Kd.V k24 24 _ w.heap.size _ _ ((rd_T40 t255 x10_3).f1) from Kd.V_mk ul265_2 ge265_2)
              clear hva_ hvn_ hvc_ ge265_2 ul265_2
              clear hcc265 hce265
              have HR265_2 := qH hi265_2
              have HC265_2 := qH hl265_2
              clear hi265_2 hl265_2
              replace p265 := eq_true p265
              replace q265 := eq_true q265
              have p267 : 0 ≤ (x10_3 : Int) := of_decide_eq_true (by first | (with_reducible assumption) | assumption)
              have q267 : x10_3 < (t255.length : Int) := of_decide_eq_true (by first | (with_reducible assumption) | assumption)
              obtain ⟨ad267, A267_2, c267_2, e267, hx267_0, hx267_1, hx267_2, hl267_2, hi267_2⟩ := at_T40 (Kd.V_reads' HO_5.out).2.2 x10_3 p267 q267
              obtain rfl : ad260 = ad267 := (by injection e267)
              obtain ⟨ce267, hce267, hMe267, hcc267⟩ := Kd.V_get HO_5.out z40 x10_3 p267 (by first | exact q267 | exact of_decide_eq_true (by first | (with_reducible assumption) | assumption) | (have e_ := (Kd.V_reads' HO_5.out).1; omega))
              obtain ⟨ua267_2, uc267_2, rfl, ul267_2, ge267_2⟩ := k40_openF hMe267
              have hv267_2 := hcc267 2 _ rfl
              rw [add_field _ _ 2 (by omega)] at hv267_2
              replace hv267_2 := Option.some.inj (hv267_2.symm.trans hx267_2)
              injection hv267_2 with hva_ hvn_ hvc_
              rw [hva_] at ge267_2
              rw [hvc_] at ul267_2
              have HL267_2 := qH (show Kd.V k24 24 _ w.heap.size _ _ ((rd_T40 t255 x10_3).f1) from Kd.V_mk ul267_2 ge267_2)
              clear hva_ hvn_ hvc_ ge267_2 ul267_2
              clear hcc267 hce267
              have HR267_2 := qH hi267_2
              have HC267_2 := qH hl267_2
              clear hi267_2 hl267_2
              replace p267 := eq_true p267
              replace q267 := eq_true q267
              have ea_ := Option.some.inj (hx265_2.symm.trans hx267_2)
              injection ea_ with ea_ en_ ec_
              subst ea_
              subst ec_
              clear en_
              refine start_ (n := 17) (S := fun w' => w'.cell? ⟨gb261, 0, none⟩ = some (.string ((rd_T40 t255 x7_2).f0.f0)) ∧ w'.cell? ⟨gb261, 1, none⟩ = some (.int .i64 ((rd_T40 t255 x7_2).f0.f1)) ∧ w'.cell? (ad260.add ((x10_3).toNat * 3)) = some (.string ((rd_T40 t255 x10_3).f0.f0)) ∧ w'.cell? ⟨(ad260.add ((x10_3).toNat * 3)).block, (ad260.add ((x10_3).toNat * 3)).off + 1, none⟩ = some (.int .i64 ((rd_T40 t255 x10_3).f0.f1)) ∧ w'.cell? ⟨(ad260.add ((x10_3).toNat * 3)).block, (ad260.add ((x10_3).toNat * 3)).off + 2, none⟩ = some (.slice A265_2 ((rd_T40 t255 x10_3).f1).length c265_2) ∧ w'.cell? (ad260.add ((x10_3).toNat * 3)) = some (.string ((rd_T40 t255 x10_3).f0.f0)) ∧ w'.cell? ⟨(ad260.add ((x10_3).toNat * 3)).block, (ad260.add ((x10_3).toNat * 3)).off + 1, none⟩ = some (.int .i64 ((rd_T40 t255 x10_3).f0.f1)) ∧ w'.cell? ⟨(ad260.add ((x10_3).toNat * 3)).block, (ad260.add ((x10_3).toNat * 3)).off + 2, none⟩ = some (.slice A265_2 ((rd_T40 t255 x10_3).f1).length c265_2)) (ds := []) (lb 17 0) (by kernel_rfl) rfl rfl ⟨(qE BK261.out 0).trans rfl, (qE BK261.out 1).trans rfl, hx265_0, hx265_1, hx265_2, hx267_0, hx267_1, hx267_2⟩ (fun hHeld => ?_); refine with_tabW codicillaw19_GraphUsers.tab14 codicillaw19_GraphUsers.bits14 (fun HT_ HW_ => ?_)
              generalize wr.drew = w32 at HO_5 HO_9 BK252 BK261 HR260_2 HB HL265_2 HL267_2 HR265_2 HR267_2 hx265_0 hx265_1 hx265_2 hx267_0 hx267_1 hx267_2 hHeld ⊢
              refine pure_ (i := 0) (N := some 57) (v := ?_) (a' := ?_) (lb 17 1) rfl rfl (any_of HT_.out (by kernel_rfl)) (fun _ _ _ h => h) (Or.inl ⟨by rfl, ?_⟩) ?_ ?_
              rotate_left
              ·intro w'
               go_simp
               with_reducible rfl
              rotate_left
              ·simp only [Act.put, zS, zT, zU, zV, zW]
               rfl
              refine pure_ (i := 1) (N := some 58) (v := ?_) (a' := ?_) (lb 17 3) rfl rfl (any_of HT_.out (by kernel_rfl)) (fun _ _ _ h => h) (Or.inl ⟨by rfl, ?_⟩) ?_ ?_
              rotate_left
              ·intro w'
               go_simp
               with_reducible rfl
              rotate_left
              ·simp only [Act.put, zS, zT, zU, zV, zW]
               rfl
              refine pure_ (i := 2) (N := some 59) (v := ?_) (a' := ?_) (lb 17 7) rfl rfl (any_of HT_.out (by kernel_rfl)) (fun _ _ _ h => h) (Or.inl ⟨by rfl, ?_⟩) ?_ ?_
              rotate_left
              ·intro w'
               go_simp
               with_reducible rfl
              rotate_left
              ·simp only [Act.put, zS, zT, zU, zV, zW]
               rfl
              refine pure_ (i := 3) (N := some 60) (v := ?_) (a' := ?_) (lb 17 15) rfl rfl (any_of HT_.out (by kernel_rfl)) (fun _ _ _ h => h) (Or.inl ⟨by rfl, ?_⟩) ?_ ?_
              rotate_left
              ·intro w'
               go_simp
               with_reducible rfl
              rotate_left
              ·simp only [Act.put, zS, zT, zU, zV, zW]
               rfl
              refine pure_ (i := 8) (N := some 65) (v := ?_) (a' := ?_) (lb 17 271) rfl rfl (any_of HT_.out (by kernel_rfl)) (fun _ _ _ h => h) (Or.inl ⟨by rfl, ?_⟩) ?_ ?_
              rotate_left
              ·intro w'
               go_simp
               with_reducible rfl
              rotate_left
              ·simp only [Act.put, zS, zT, zU, zV, zW]
               rfl
              refine pure_ (i := 9) (N := some 66) (v := ?_) (a' := ?_) (lb 17 783) rfl rfl (any_of HT_.out (by kernel_rfl)) (fun _ _ _ h => h) (Or.inl ⟨by rfl, ?_⟩) ?_ ?_
              rotate_left
              ·intro w'
               go_simp
               with_reducible rfl
              rotate_left
              ·simp only [Act.put, zS, zT, zU, zV, zW]
               rfl
              refine pure_ (i := 10) (N := some 67) (v := ?_) (a' := ?_) (lb 17 1807) rfl rfl (any_of HT_.out (by kernel_rfl)) (fun _ _ _ h => h) (Or.inl ⟨by rfl, ?_⟩) ?_ ?_
              rotate_left
              ·intro w'
               go_simp
               with_reducible rfl
              rotate_left
              ·simp only [Act.put, zS, zT, zU, zV, zW]
               rfl
              refine pure_ (i := 11) (N := some 68) (v := ?_) (a' := ?_) (lb 17 3855) rfl rfl (any_of HT_.out (by kernel_rfl)) (fun _ _ _ h => h) (Or.inl ⟨by rfl, ?_⟩) ?_ ?_
              rotate_left
              ·intro w'
               go_simp
               with_reducible rfl
              rotate_left
              ·simp only [Act.put, zS, zT, zU, zV, zW]
               rfl
              refine pure_ (i := 12) (N := some 69) (v := ?_) (a' := ?_) (lb 17 7951) rfl rfl (any_of HT_.out (by kernel_rfl)) (fun _ _ _ h => h) (Or.inl ⟨by rfl, ?_⟩) ?_ ?_
              rotate_left
              ·intro w'
               go_simp
               with_reducible rfl
              rotate_left
              ·simp only [Act.put, zS, zT, zU, zV, zW]
               rfl
              refine take_ (i := 4) (N := some 61) (v := ?_) (a' := ?_) (lb 17 7967) rfl rfl (take_ofW HT_.out HW_.out (by kernel_rfl)) (fun _ _ _ h => h) (Or.inl ⟨by rfl, ?_⟩) hHeld ?_ ?_
              rotate_left
              ·rintro w' ⟨s0, s1, s2, s3, s4, s5, s6, s7⟩
               go_simp
               with_reducible rfl
              rotate_left
              ·simp only [Act.put, zS, zT, zU, zV, zW]
               rfl
              refine take_ (i := 5) (N := some 62) (v := ?_) (a' := ?_) (lb 17 7999) rfl rfl (take_ofW HT_.out HW_.out (by kernel_rfl)) (fun _ _ _ h => h) (Or.inl ⟨by rfl, ?_⟩) hHeld ?_ ?_
              rotate_left
              ·rintro w' ⟨s0, s1, s2, s3, s4, s5, s6, s7⟩
               go_simp
               with_reducible rfl
              rotate_left
              ·simp only [Act.put, zS, zT, zU, zV, zW]
               rfl
              refine take_ (i := 13) (N := some 70) (v := ?_) (a' := ?_) (lb 17 16191) rfl rfl (take_ofW HT_.out HW_.out (by kernel_rfl)) (fun _ _ _ h => h) (Or.inl ⟨by rfl, ?_⟩) hHeld ?_ ?_
              rotate_left
              ·rintro w' ⟨s0, s1, s2, s3, s4, s5, s6, s7⟩
               go_simp
               with_reducible rfl
              rotate_left
              ·simp only [Act.put, zS, zT, zU, zV, zW]
               rfl
              refine one_ (i := 6) (N := some 63) (lb 17 16255) rfl rfl (one_of HT_.out (by kernel_rfl)) (by decide) (fun K hK => ?_)
              refine goes_ Try.func24 (by kernel_rfl) rfl #[.slice A265_2 ((rd_T40 t255 x10_3).f1).length c265_2, .agg #[.string ((rd_T40 t255 x7_2).f0.f0), .int .i64 ((rd_T40 t255 x7_2).f0.f1)]] (by rfl) rfl rfl (by (try simp only [zX, zY, zZ]); first | done | rfl | (simp only [zD, zE]; rfl)) ?_
              with_reducible refine (codicillaw19_place.calls k3 _ _ ((rd_T40 t255 x10_3).f1) ((rd_T40 t255 x7_2).f0.f0) ((rd_T40 t255 x7_2).f0.f1) t266 _ ?side1 ?side2 A25.out).mono ?_
              (case side1 => repeat (first | exact (by repeat (first | (with_reducible exact HR265_2.out) | (with_reducible refine Kd.C_alloc ?_ _) | (with_reducible refine Kd.C_drewN ?_ _) | (with_reducible refine Kd.C_drew ?_) | exact HR265_2.out)) | (with_reducible refine Kd.C_alloc ?_ _) | (with_reducible refine Kd.C_drewN ?_ _) | (with_reducible refine Kd.C_drew ?_)))
              (case side2 => exact HC265_2.out)
              rintro e w33 ⟨rfl, hb⟩
              have HS2_ := (hb.cell (qO _ _ (hHeld.2.2.1))).trans (hHeld.2.2.1)
              have HS3_ := (hb.cell (qO _ _ (hHeld.2.2.2.1))).trans (hHeld.2.2.2.1)
              have HS4_ := (hb.cell (qO _ _ (hHeld.2.2.2.2.1))).trans (hHeld.2.2.2.2.1)
              have HS5_ := (hb.cell (qO _ _ (hHeld.2.2.2.2.2.1))).trans (hHeld.2.2.2.2.2.1)
              have HS6_ := (hb.cell (qO _ _ (hHeld.2.2.2.2.2.2.1))).trans (hHeld.2.2.2.2.2.2.1)
              have HS7_ := (hb.cell (qO _ _ (hHeld.2.2.2.2.2.2.2))).trans (hHeld.2.2.2.2.2.2.2)
              refine ⟨_, rfl, ?_⟩
              have n0_ := qH (Kd.V_below (by (with_reducible repeat first | apply zVa | apply zVb | apply zVc); exact HO_5.out) hb)
              have n1_ := qH (Kd.R_below (by (with_reducible repeat first | apply zRa | apply zRb | apply zRc); exact HO_9.out) hb)
              have n2_ := qH (Kd.V_below (by (with_reducible repeat first | apply zVa | apply zVb | apply zVc); exact HL265_2.out) hb)
              have n3_ := qH (Kd.V_below (by (with_reducible repeat first | apply zVa | apply zVb | apply zVc); exact HL267_2.out) hb)
              have n4_ := qH (qD (g := gb252) (by (with_reducible repeat first | apply qA | apply qC | apply qB); exact BK252.out) hb)
              have n5_ := qH (qD (g := gb261) (by (with_reducible repeat first | apply qA | apply qC | apply qB); exact BK261.out) hb)
              have n6_ := qH (Kd.C_below (by repeat (first | (with_reducible exact HR260_2.out) | (with_reducible refine Kd.C_alloc ?_ _) | (with_reducible refine Kd.C_drewN ?_ _) | (with_reducible refine Kd.C_drew ?_) | exact HR260_2.out)) hb)
              have n7_ := qH (Kd.C_below (by repeat (first | (with_reducible exact HR265_2.out) | (with_reducible refine Kd.C_alloc ?_ _) | (with_reducible refine Kd.C_drewN ?_ _) | (with_reducible refine Kd.C_drew ?_) | exact HR265_2.out)) hb)
              have n8_ := qH (Kd.C_below (by repeat (first | (with_reducible exact HR267_2.out) | (with_reducible refine Kd.C_alloc ?_ _) | (with_reducible refine Kd.C_drewN ?_ _) | (with_reducible refine Kd.C_drew ?_) | exact HR267_2.out)) hb)
              have n9_ := qH (below_step (by repeat (first | (with_reducible first | exact HB.out | apply qL | apply qJ | apply qK | refine qI ?_ GE252.out | refine qI ?_ GE261.out) | exact HB.out)) hb)
              clear HO_5
              clear HO_9
              clear HL265_2
              clear HL267_2
              clear BK252
              clear BK261
              clear HR260_2
              clear HR265_2
              clear HR267_2
              clear HB
              have HO_5 := n0_
              have HO_9 := n1_
              have HL265_2 := n2_
              have HL267_2 := n3_
              have BK252 := n4_
              have BK261 := n5_
              have HR260_2 := n6_
              have HR265_2 := n7_
              have HR267_2 := n8_
              have HB := n9_
              clear n0_ n1_ n2_ n3_ n4_ n5_ n6_ n7_ n8_ n9_
              (try clear hb)
              (try clear hb2)
              (try clear hk)
              (try clear hi)
              obtain ⟨Ao34, co34, eo34⟩ := Kd.R_slice HO_9.out
              (first | subst eo34 | (injection eo34 with f1_ f2_ f3_; have f4_ := f1_.symm; have f5_ := f3_.symm; clear f1_ f2_ f3_; subst f4_; subst f5_))
              refine hK.out _ _ ⟨(qE BK261.out 0).trans rfl, (qE BK261.out 1).trans rfl, HS2_, HS3_, HS4_, HS5_, HS6_, HS7_⟩ (fun hHeld => ?_)
              clear hK K
              refine norm_ (a' := ?_) ?_ ?_
              rotate_left
              ·show Act.put _ (some 63) _ = _
               simp only [Act.put, zS, zT, zU, zV, zW]
               rfl
              refine pure_ (i := 7) (N := some 64) (v := ?_) (a' := ?_) (lb 17 16383) rfl rfl (any_of HT_.out (by kernel_rfl)) (fun _ _ _ h => h) (Or.inl ⟨by rfl, ?_⟩) ?_ ?_
              rotate_left
              ·intro w'
               go_simp
               with_reducible rfl
              rotate_left
              ·simp only [Act.put, zS, zT, zU, zV, zW]
               rfl
              refine one_ (i := 14) (N := some 71) (lb 17 32767) rfl rfl (one_of HT_.out (by kernel_rfl)) (by decide) (fun K hK => ?_)
              refine goes_ Try.func24 (by kernel_rfl) rfl #[.slice Ao34 t262.length co34, .agg #[.string ((rd_T40 t255 x10_3).f0.f0), .int .i64 ((rd_T40 t255 x10_3).f0.f1)]] (by rfl) rfl rfl (by (try simp only [zX, zY, zZ]); first | done | rfl | (simp only [zD, zE]; rfl)) ?_
              with_reducible refine (codicillaw19_place.calls k3 _ _ t262 ((rd_T40 t255 x10_3).f0.f0) ((rd_T40 t255 x10_3).f0.f1) t268 _ ?side1 ?side2 A26.out).mono ?_
              (case side1 => repeat (first | exact (Kd.R_reads' HO_9.out).2.2 | (with_reducible refine Kd.C_alloc ?_ _) | (with_reducible refine Kd.C_drewN ?_ _) | (with_reducible refine Kd.C_drew ?_)))
              (case side2 => exact (Kd.R_reads' HO_9.out).2.1)
              rintro e w35 ⟨rfl, hb⟩
              have HS2_ := (hb.cell (qO _ _ (hHeld.2.2.1))).trans (hHeld.2.2.1)
              have HS3_ := (hb.cell (qO _ _ (hHeld.2.2.2.1))).trans (hHeld.2.2.2.1)
              have HS4_ := (hb.cell (qO _ _ (hHeld.2.2.2.2.1))).trans (hHeld.2.2.2.2.1)
              have HS5_ := (hb.cell (qO _ _ (hHeld.2.2.2.2.2.1))).trans (hHeld.2.2.2.2.2.1)
              have HS6_ := (hb.cell (qO _ _ (hHeld.2.2.2.2.2.2.1))).trans (hHeld.2.2.2.2.2.2.1)
              have HS7_ := (hb.cell (qO _ _ (hHeld.2.2.2.2.2.2.2))).trans (hHeld.2.2.2.2.2.2.2)
              refine ⟨_, rfl, ?_⟩
              have n0_ := qH (Kd.V_below (by (with_reducible repeat first | apply zVa | apply zVb | apply zVc); exact HO_5.out) hb)
              have n1_ := qH (Kd.R_below (by (with_reducible repeat first | apply zRa | apply zRb | apply zRc); exact HO_9.out) hb)
              have n2_ := qH (Kd.V_below (by (with_reducible repeat first | apply zVa | apply zVb | apply zVc); exact HL265_2.out) hb)
              have n3_ := qH (Kd.V_below (by (with_reducible repeat first | apply zVa | apply zVb | apply zVc); exact HL267_2.out) hb)
              have n4_ := qH (qD (g := gb252) (by (with_reducible repeat first | apply qA | apply qC | apply qB); exact BK252.out) hb)
              have n5_ := qH (qD (g := gb261) (by (with_reducible repeat first | apply qA | apply qC | apply qB); exact BK261.out) hb)
              have n6_ := qH (Kd.C_below (by repeat (first | (with_reducible exact HR260_2.out) | (with_reducible refine Kd.C_alloc ?_ _) | (with_reducible refine Kd.C_drewN ?_ _) | (with_reducible refine Kd.C_drew ?_) | exact HR260_2.out)) hb)
              have n7_ := qH (Kd.C_below (by repeat (first | (with_reducible exact HR265_2.out) | (with_reducible refine Kd.C_alloc ?_ _) | (with_reducible refine Kd.C_drewN ?_ _) | (with_reducible refine Kd.C_drew ?_) | exact HR265_2.out)) hb)
              have n8_ := qH (Kd.C_below (by repeat (first | (with_reducible exact HR267_2.out) | (with_reducible refine Kd.C_alloc ?_ _) | (with_reducible refine Kd.C_drewN ?_ _) | (with_reducible refine Kd.C_drew ?_) | exact HR267_2.out)) hb)
              have n9_ := qH (below_step (by repeat (first | (with_reducible first | exact HB.out | apply qL | apply qJ | apply qK | refine qI ?_ GE252.out | refine qI ?_ GE261.out) | exact HB.out)) hb)
              clear HO_5
              clear HO_9
              clear HL265_2
              clear HL267_2
              clear BK252
              clear BK261
              clear HR260_2
              clear HR265_2
              clear HR267_2
              clear HB
              have HO_5 := n0_
              have HO_9 := n1_
              have HL265_2 := n2_
              have HL267_2 := n3_
              have BK252 := n4_
              have BK261 := n5_
              have HR260_2 := n6_
              have HR265_2 := n7_
              have HR267_2 := n8_
              have HB := n9_
              clear n0_ n1_ n2_ n3_ n4_ n5_ n6_ n7_ n8_ n9_
              (try clear hb)
              (try clear hb2)
              (try clear hk)
              (try clear hi)
              refine hK.out _ _ ⟨(qE BK261.out 0).trans rfl, (qE BK261.out 1).trans rfl, HS2_, HS3_, HS4_, HS5_, HS6_, HS7_⟩ (fun hHeld => ?_)
              clear hK K
              refine norm_ (a' := ?_) ?_ ?_
              rotate_left
              ·show Act.put _ (some 71) _ = _
               simp only [Act.put, zS, zT, zU, zV, zW]
               rfl
              refine pure_ (i := 15) (N := some 72) (v := ?_) (a' := ?_) (lb 17 65535) rfl rfl (any_of HT_.out (by kernel_rfl)) (fun _ _ _ h => h) (Or.inl ⟨by rfl, ?_⟩) ?_ ?_
              rotate_left
              ·intro w'
               go_simp
               with_reducible rfl
              rotate_left
              ·simp only [Act.put, zS, zT, zU, zV, zW]
               rfl
              refine pure_ (i := 16) (N := some 73) (v := ?_) (a' := ?_) (lb 17 131071) rfl rfl (any_of HT_.out (by kernel_rfl)) (fun _ _ _ h => h) (Or.inl ⟨by rfl, ?_⟩) ?_ ?_
              rotate_left
              ·intro w'
               go_simp
               with_reducible rfl
              rotate_left
              ·simp only [Act.put, zS, zT, zU, zV, zW]
               rfl
              refine done_ (done_of HT_.out (by kernel_rfl)) ?_
              try go_wp2
              go_roundg k3
              case measure => have := HJ2.out; have := HK2.out; have := HK3.out; omega
              case rel => exact ⟨(wrap64 (x10_3 + 1)), (by first | rfl | (simp; done) | (simp; exact qEmp _) | (simp [*]; done)), H', ⟨by have := HJ2.out; have := HK2.out; have := HK3.out; omega⟩, ⟨by (with_reducible repeat first | apply zVa | apply zVb | apply zVc); exact HO_5.out⟩, ⟨by (with_reducible repeat first | apply zRa | apply zRb | apply zRc); exact HO_9.out⟩, ⟨by (with_reducible repeat first | apply qA | apply qC | apply qB); exact BK252.out⟩, ⟨by (with_reducible repeat first | apply qA | apply qC | apply qB); exact BK261.out⟩, ⟨by repeat (first | (with_reducible exact HR260_2.out) | (with_reducible refine Kd.C_alloc ?_ _) | (with_reducible refine Kd.C_drewN ?_ _) | (with_reducible refine Kd.C_drew ?_) | exact HR260_2.out)⟩, ⟨by repeat (first | (with_reducible first | exact HB.out | apply qL | apply qJ | apply qK | refine qI ?_ GE252.out | refine qI ?_ GE261.out) | exact HB.out)⟩⟩
            ·rw [if_neg c24] at H
             exact absurd H (by simp)
           ·rw [if_neg c23] at H
            have c23b0 : decide (x10_3 < (t255.length : Int)) = false := decide_eq_false c23
            clear c23
            have H' := qH H
            clear H
            go_wp2
            go_roundg k3
            case measure => have := HJ2.out; have := HK2.out; have := HK3.out; omega
            case rel => exact ⟨(wrap64 (x7_2 + 1)), (by first | rfl | (simp; done) | (simp; exact qEmp _) | (simp [*]; done)), H', ⟨by have := HJ2.out; have := HK2.out; have := HK3.out; omega⟩, ⟨by (with_reducible repeat first | apply zVa | apply zVb | apply zVc); exact Kd.V_mono HO_5.out (fun _ hk => hk.2.1)⟩, ⟨by (with_reducible repeat first | apply qA | apply qC | apply qB); exact BK252.out⟩, ⟨by repeat (first | (with_reducible first | exact HB.out | apply qL | apply qJ | apply qK | refine qI ?_ GE252.out | refine qI ?_ GE261.out) | exact HB.out)⟩⟩
        ·rw [if_neg c16] at H
         exact absurd H (by simp)
       ·rw [if_neg c15] at H
        have c15b0 : decide (x7_2 < (t255.length : Int)) = false := decide_eq_false c15
        clear c15
        replace H := Option.bind_eq_some_iff.mp H
        obtain ⟨⟨t269, t270⟩, A360, H⟩ := H
        (try dsimp only at H)
        have A36 := qH A360
        clear A360
        replace H := Option.bind_eq_some_iff.mp H
        obtain ⟨⟨t273, t274⟩, A370, H⟩ := H
        (try dsimp only at H)
        have A37 := qH A370
        clear A370
        obtain ⟨y277, hy277⟩ : ∃ y_ : List (S24), y_ = (([(⟨a1_0, a1_1⟩ : S24)] : List (S24))) := ⟨_, rfl⟩
        replace H : ((graph_Order.f t255 y277).bind fun bt280 => ((graph_Drop.f t255 a1_0 a1_1).bind fun bt284 => (if t270 = 0 then (if t274 = 0 then (if bt280.2 = 0 then ((codicilref19_Nodes.f k2 t269 t273).bind fun t288 => (if t288 = true then (if (bt280.1.length : Int) = (wrap64 ((t269.length : Int) + 1)) then (if 0 ≤ (wrap64 ((bt280.1.length : Int) - 1)) then (if (wrap64 ((bt280.1.length : Int) - 1)) ≤ (bt280.1.length : Int) then ((codicilref19_Nodes.f k2 (bt280.1.take ((wrap64 ((bt280.1.length : Int) - 1)) : Int).toNat) t269).bind fun t293 => (if t293 = true then (if bt284.2 = 0 then ((codicilref19_Same.f k2 bt284.1 l0).bind fun t294 => (if t294 = true then ((codicillaw19_alive.f k2).bind fun t295 => (some t295)) else (some false))) else (some false)) else (some false))) else (none)) else (none)) else (some false)) else (some false))) else (some false)) else (some false)) else (some false)))) = some r := by first | (rw [hy277]; with_reducible exact H) | (have H2_ := (Option.bind_some _ _).symm.trans H; rw [hy277]; with_reducible exact H2_) | (have H2_ := (Option.bind_some _ _).symm.trans H; with_reducible exact H2_) | with_reducible exact H | (rw [hy277]; exact H) | exact H
        have Ny277 := qH hy277
        clear hy277
        replace H := Option.bind_eq_some_iff.mp H
        obtain ⟨⟨t280, t281⟩, A380, H⟩ := H
        (try dsimp only at H)
        have A38 := qH A380
        clear A380
        replace H := Option.bind_eq_some_iff.mp H
        obtain ⟨⟨t284, t287⟩, A390, H⟩ := H
        (try dsimp only at H)
        have A39 := qH A390
        clear A390
        by_cases c40 : t270 = 0
        ·rw [if_pos c40] at H
         have c40b0 : (t270 == 0) = true := beq_iff_eq.mpr c40
         have c40b1 : (t270 != 0) = false := bne_eq_false_iff_eq.mpr c40
         clear c40
         by_cases c41 : t274 = 0
         ·rw [if_pos c41] at H
          have c41b0 : (t274 == 0) = true := beq_iff_eq.mpr c41
          have c41b1 : (t274 != 0) = false := bne_eq_false_iff_eq.mpr c41
          clear c41
          by_cases c42 : t281 = 0
          ·rw [if_pos c42] at H
           have c42b0 : (t281 == 0) = true := beq_iff_eq.mpr c42
           have c42b1 : (t281 != 0) = false := bne_eq_false_iff_eq.mpr c42
           clear c42
           replace H := Option.bind_eq_some_iff.mp H
           obtain ⟨t288, A430, H⟩ := H
           (try dsimp only at H)
           have A43 := qH A430
           clear A430
           by_cases c44 : t288 = true
           ·subst c44
            have H1 : (if (t280.length : Int) = (wrap64 ((t269.length : Int) + 1)) then (if 0 ≤ (wrap64 ((t280.length : Int) - 1)) then (if (wrap64 ((t280.length : Int) - 1)) ≤ (t280.length : Int) then ((codicilref19_Nodes.f k2 (t280.take ((wrap64 ((t280.length : Int) - 1)) : Int).toNat) t269).bind fun t293 => (if t293 = true then (if t287 = 0 then ((codicilref19_Same.f k2 t284 l0).bind fun t294 => (if t294 = true then ((codicillaw19_alive.f k2).bind fun t295 => (some t295)) else (some false))) else (some false)) else (some false))) else (none)) else (none)) else (some false)) = some r := by rw [if_pos rfl] at H; exact H
            clear H
            have H := H1
            clear H1
            by_cases c45 : (t280.length : Int) = (wrap64 ((t269.length : Int) + 1))
            ·rw [if_pos c45] at H
             have c45b0 : ((t280.length : Int) == (wrap64 ((t269.length : Int) + 1))) = true := beq_iff_eq.mpr c45
             have c45b1 : ((t280.length : Int) != (wrap64 ((t269.length : Int) + 1))) = false := bne_eq_false_iff_eq.mpr c45
             clear c45
             obtain ⟨ji46, hji46⟩ : ∃ j_ : Int, (wrap64 ((t280.length : Int) - 1)) = j_ := ⟨_, rfl⟩
             replace H : (if 0 ≤ (ji46) then (if (ji46) ≤ (t280.length : Int) then ((codicilref19_Nodes.f k2 (t280.take ((ji46) : Int).toNat) t269).bind fun t293 => (if t293 = true then (if t287 = 0 then ((codicilref19_Same.f k2 t284 l0).bind fun t294 => (if t294 = true then ((codicillaw19_alive.f k2).bind fun t295 => (some t295)) else (some false))) else (some false)) else (some false))) else (none)) else (none)) = some r := by first | (rw [hji46] at H; exact H) | (simp only [hji46] at H ⊢; exact H)
             (try rw [hji46] at A36)
             (try rw [hji46] at A37)
             (try rw [hji46] at A38)
             (try rw [hji46] at A39)
             (try rw [hji46] at A43)
             have hji46w : (IntKind.i64.wrap ((t280.length : Int) - 1)) = ji46 := (i64_w _).trans hji46
             by_cases c47 : 0 ≤ (ji46)
             ·rw [if_pos c47] at H
              have c47b0 := eq_true c47
              have c47b1 : decide (0 ≤ (ji46)) = true := decide_eq_true c47
              clear c47
              by_cases c48 : (ji46) ≤ (t280.length : Int)
              ·rw [if_pos c48] at H
               have c48b0 := eq_true c48
               have c48b1 : decide ((ji46) ≤ (t280.length : Int)) = true := decide_eq_true c48
               clear c48
               obtain ⟨y289, hy289⟩ : ∃ y_ : List (S24), y_ = (t280.take ((ji46) : Int).toNat) := ⟨_, rfl⟩
               replace H : ((codicilref19_Nodes.f k2 y289 t269).bind fun t293 => (if t293 = true then (if t287 = 0 then ((codicilref19_Same.f k2 t284 l0).bind fun t294 => (if t294 = true then ((codicillaw19_alive.f k2).bind fun t295 => (some t295)) else (some false))) else (some false)) else (some false))) = some r := by first | (rw [hy289]; with_reducible exact H) | (have H2_ := (Option.bind_some _ _).symm.trans H; rw [hy289]; with_reducible exact H2_) | (have H2_ := (Option.bind_some _ _).symm.trans H; with_reducible exact H2_) | with_reducible exact H | (rw [hy289]; exact H) | exact H
               have Ny289 := qH hy289
               clear hy289
               replace H := Option.bind_eq_some_iff.mp H
               obtain ⟨t293, A490, H⟩ := H
               (try dsimp only at H)
               have A49 := qH A490
               clear A490
               by_cases c50 : t293 = true
               ·subst c50
                have H1 : (if t287 = 0 then ((codicilref19_Same.f k2 t284 l0).bind fun t294 => (if t294 = true then ((codicillaw19_alive.f k2).bind fun t295 => (some t295)) else (some false))) else (some false)) = some r := by rw [if_pos rfl] at H; exact H
                clear H
                have H := H1
                clear H1
                by_cases c51 : t287 = 0
                ·rw [if_pos c51] at H
                 have c51b0 : (t287 == 0) = true := beq_iff_eq.mpr c51
                 have c51b1 : (t287 != 0) = false := bne_eq_false_iff_eq.mpr c51
                 clear c51
                 replace H := Option.bind_eq_some_iff.mp H
                 obtain ⟨t294, A520, H⟩ := H
                 (try dsimp only at H)
                 have A52 := qH A520
                 clear A520
                 by_cases c53 : t294 = true
                 ·subst c53
                  have H1 : ((codicillaw19_alive.f k2).bind fun t295 => (some t295)) = some r := by rw [if_pos rfl] at H; exact H
                  clear H
                  have H := H1
                  clear H1
                  replace H := Option.bind_eq_some_iff.mp H
                  obtain ⟨t295, A540, H⟩ := H
                  (try dsimp only at H)
                  have A54 := qH A540
                  clear A540
                  obtain rfl := Option.some.inj H
                  simp only [Option.some.injEq, Prod.mk.injEq] at H
                  obtain ⟨rfl⟩ := H
                  obtain ⟨Ao55, co55, eo55⟩ := Kd.V_slice HO_5.out
                  subst eo55
                  have hcz56_0 : wr.cell? ⟨gb252, 0, none⟩ = some (.string a1_0) := (qE BK252.out 0).trans rfl
                  have hcz56_1 : wr.cell? ⟨gb252, 1, none⟩ = some (.int .i64 a1_1) := (qE BK252.out 1).trans rfl
                  have hcz56_2 : wr.cell? ⟨gb252, 2, none⟩ = some (.slice A1_2 l1_2.length c1_2) := (qE BK252.out 2).trans rfl
                  have hfz56_0 := qF BK252.out 0
                  have hfz56_1 := qF BK252.out 1
                  have hfz56_2 := qF BK252.out 2
                  go_wp2_with (first | ((with_reducible refine gate_callee (f := 9) rfl ?_); refine goesL_ (some 78) rfl rfl Try.func9 (by kernel_rfl) rfl #[.slice A0 l0.length c0, .slice A1_2 l1_2.length c1_2] rfl (by (try simp only [zX, zY, zZ]); first | done | rfl | (simp only [zD, zE]; rfl)) ?_; (with_reducible refine (graph_Order.calls _ _ l0 _ _ l1_2 t269 t270 _ ?side1 ?side2 ?side3 ?side4 A36.out).mono ?_); (case side1 => repeat (first | exact (Kd.C_below HR0.out HB.out) | (with_reducible refine Kd.C_alloc ?_ _) | (with_reducible refine Kd.C_drewN ?_ _) | (with_reducible refine Kd.C_drew ?_))); (case side2 => exact HC0.out); (case side3 => repeat (first | exact (Kd.C_below HR1_2.out HB.out) | (with_reducible refine Kd.C_alloc ?_ _) | (with_reducible refine Kd.C_drewN ?_ _) | (with_reducible refine Kd.C_drew ?_))); (case side4 => exact HC1_2.out); rintro e w57 ⟨v271, rfl, ho0, hb⟩; refine ⟨_, rfl, ?_⟩; have n0_ := qH (Kd.V_elder' (by (with_reducible repeat first | apply zVa | apply zVb | apply zVc); exact HO_5.out) (Kd.R_base ho0) hb); have n1_ := qH (Kd.R_lower ho0 (below_size (by repeat (first | (with_reducible first | exact HB.out | apply qL | apply qJ | apply qK | refine qI ?_ GE252.out) | exact HB.out)))); have n2_ := qH (qD (g := gb252) (by (with_reducible repeat first | apply qA | apply qC | apply qB); exact BK252.out) hb); have n3_ := qH (below_step (by repeat (first | (with_reducible first | exact HB.out | apply qL | apply qJ | apply qK | refine qI ?_ GE252.out) | exact HB.out)) hb); clear HO_5; clear BK252; clear HB; have HO_5 := n0_; have HO272 := n1_; have BK252 := n2_; have HB := n3_; clear n0_ n1_ n2_ n3_; (try clear hb); (try clear hb2); (try clear hk); (try clear hi); (try clear ho0); obtain ⟨hcz58_0, hcz58_1, hcz58_2⟩ := qc3 BK252.out; obtain ⟨hfz58_0, hfz58_1, hfz58_2⟩ := qf3 BK252.out) | ((with_reducible refine gate_callee (f := 9) rfl ?_); refine goesL_ (some 85) rfl rfl Try.func9 (by kernel_rfl) rfl #[.slice Ao55 t255.length co55, .slice A1_2 l1_2.length c1_2] rfl (by (try simp only [zX, zY, zZ]); first | done | rfl | (simp only [zD, zE]; rfl)) ?_; (with_reducible refine (graph_Order.calls _ _ t255 _ _ l1_2 t273 t274 _ ?side1 ?side2 ?side3 ?side4 A37.out).mono ?_); (case side1 => repeat (first | exact (Kd.V_reads' HO_5.out).2.2 | (with_reducible refine Kd.C_alloc ?_ _) | (with_reducible refine Kd.C_drewN ?_ _) | (with_reducible refine Kd.C_drew ?_))); (case side2 => exact (Kd.V_reads' HO_5.out).2.1); (case side3 => repeat (first | exact (Kd.C_below HR1_2.out HB.out) | (with_reducible refine Kd.C_alloc ?_ _) | (with_reducible refine Kd.C_drewN ?_ _) | (with_reducible refine Kd.C_drew ?_))); (case side4 => exact HC1_2.out); rintro e w59 ⟨v275, rfl, ho0, hb⟩; refine ⟨_, rfl, ?_⟩; have n0_ := qH (Kd.V_elder' (by (with_reducible repeat first | apply zVa | apply zVb | apply zVc); exact HO_5.out) (Kd.R_base ho0) hb); have n1_ := qH (Kd.R_elder' (by (with_reducible repeat first | apply zRa | apply zRb | apply zRc); exact HO272.out) (Kd.R_base ho0) hb); have n2_ := qH (Kd.R_lower (Kd.R_new' ho0 (Kd.R_lt (by (with_reducible repeat first | apply zRa | apply zRb | apply zRc); exact HO272.out))) (below_size (by repeat (first | (with_reducible first | exact HB.out | apply qL | apply qJ | apply qK | refine qI ?_ GE252.out) | exact HB.out)))); have n3_ := qH (qD (g := gb252) (by (with_reducible repeat first | apply qA | apply qC | apply qB); exact BK252.out) hb); have n4_ := qH (below_step (by repeat (first | (with_reducible first | exact HB.out | apply qL | apply qJ | apply qK | refine qI ?_ GE252.out) | exact HB.out)) hb); clear HO_5; clear HO272; clear BK252; clear HB; have HO_5 := n0_; have HO272 := n1_; have HO276 := n2_; have BK252 := n3_; have HB := n4_; clear n0_ n1_ n2_ n3_ n4_; (try clear hb); (try clear hb2); (try clear hk); (try clear hi); (try clear ho0); obtain ⟨hcz60_0, hcz60_1, hcz60_2⟩ := qc3 BK252.out; obtain ⟨hfz60_0, hfz60_1, hfz60_2⟩ := qf3 BK252.out) | ((with_reducible refine gate_dst (N := 92) rfl ?_); (try (refine gate_guard (by rfl) ?_; dsimp only)); refine Kd.R_lit k24 _ 24 ?hg (N := 92) ?hd (xs := ([(⟨a1_0, a1_1⟩ : S24)] : List (S24))) (inner := [.string a1_0, .int .i64 a1_1]) (ok := fun _ => True) (okp := fun _ => True) ?hr ?hp (fun _ hk => hk) trivial (Below.refl _ _) (Nat.le_refl _) (by simp) ?_; (case hd => rfl); (case hg => rfl); (case hr => first | (go_simp; done) | (go_simp; rfl) | (go_simp; simp [IntKind.wrap_u32]; done)); (case hp => exact (Reps.c2 (show Kd.M k24 _ _ _ (⟨a1_0, a1_1⟩ : S24) [.string a1_0, .int .i64 a1_1] from (k24_mkM _ _ _ (⟨a1_0, a1_1⟩ : S24) )) (Reps.none _ _))); intro v278 w61 ho62 hb hg_ hnew_; clear hg_ hnew_; (first | rw [← Ny277.out] at ho62 | (simp only [Int.reduceToNat] at ho62; rw [← Ny277.out] at ho62)); have n0_ := qH (Kd.V_elder' (by (with_reducible repeat first | apply zVa | apply zVb | apply zVc); exact HO_5.out) (Kd.R_base ho62) hb); have n1_ := qH (Kd.R_elder' (by (with_reducible repeat first | apply zRa | apply zRb | apply zRc); exact HO272.out) (Kd.R_base ho62) hb); have n2_ := qH (Kd.R_elder' (by (with_reducible repeat first | apply zRa | apply zRb | apply zRc); exact HO276.out) (Kd.R_base ho62) hb); have n3_ := qH (Kd.R_lower (Kd.R_new' (Kd.R_new' ho62 (Kd.R_lt (by (with_reducible repeat first | apply zRa | apply zRb | apply zRc); exact HO272.out))) (Kd.R_lt (by (with_reducible repeat first | apply zRa | apply zRb | apply zRc); exact HO276.out))) (below_size (by repeat (first | (with_reducible first | exact HB.out | apply qL | apply qJ | apply qK | refine qI ?_ GE252.out) | exact HB.out)))); have n4_ := qH (qD (g := gb252) (by (with_reducible repeat first | apply qA | apply qC | apply qB); exact BK252.out) hb); have n5_ := qH (below_step (by repeat (first | (with_reducible first | exact HB.out | apply qL | apply qJ | apply qK | refine qI ?_ GE252.out) | exact HB.out)) hb); clear HO_5; clear HO272; clear HO276; clear BK252; clear HB; have HO_5 := n0_; have HO272 := n1_; have HO276 := n2_; have HO279 := n3_; have BK252 := n4_; have HB := n5_; clear n0_ n1_ n2_ n3_ n4_ n5_; clear hb ho62; obtain ⟨Ao63, co63, eo63⟩ := Kd.R_slice HO279.out; subst eo63) | ((with_reducible refine gate_callee (f := 9) rfl ?_); refine goesL_ (some 93) rfl rfl Try.func9 (by kernel_rfl) rfl #[.slice Ao55 t255.length co55, .slice Ao63 y277.length co63] rfl (by (try simp only [zX, zY, zZ]); first | done | rfl | (simp only [zD, zE]; rfl)) ?_; (with_reducible refine (graph_Order.calls _ _ t255 _ _ y277 t280 t281 _ ?side1 ?side2 ?side3 ?side4 A38.out).mono ?_); (case side1 => repeat (first | exact (Kd.V_reads' HO_5.out).2.2 | (with_reducible refine Kd.C_alloc ?_ _) | (with_reducible refine Kd.C_drewN ?_ _) | (with_reducible refine Kd.C_drew ?_))); (case side2 => exact (Kd.V_reads' HO_5.out).2.1); (case side3 => repeat (first | exact (Kd.R_reads' HO279.out).2.2 | (with_reducible refine Kd.C_alloc ?_ _) | (with_reducible refine Kd.C_drewN ?_ _) | (with_reducible refine Kd.C_drew ?_))); (case side4 => exact (Kd.R_reads' HO279.out).2.1); rintro e w64 ⟨v282, rfl, ho0, hb⟩; refine ⟨_, rfl, ?_⟩; have n0_ := qH (Kd.V_elder' (by (with_reducible repeat first | apply zVa | apply zVb | apply zVc); exact HO_5.out) (Kd.R_base ho0) hb); have n1_ := qH (Kd.R_elder' (by (with_reducible repeat first | apply zRa | apply zRb | apply zRc); exact HO272.out) (Kd.R_base ho0) hb); have n2_ := qH (Kd.R_elder' (by (with_reducible repeat first | apply zRa | apply zRb | apply zRc); exact HO276.out) (Kd.R_base ho0) hb); have n3_ := qH (Kd.R_elder' (by (with_reducible repeat first | apply zRa | apply zRb | apply zRc); exact HO279.out) (Kd.R_base ho0) hb); have n4_ := qH (Kd.R_lower (Kd.R_new' (Kd.R_new' (Kd.R_new' ho0 (Kd.R_lt (by (with_reducible repeat first | apply zRa | apply zRb | apply zRc); exact HO272.out))) (Kd.R_lt (by (with_reducible repeat first | apply zRa | apply zRb | apply zRc); exact HO276.out))) (Kd.R_lt (by (with_reducible repeat first | apply zRa | apply zRb | apply zRc); exact HO279.out))) (below_size (by repeat (first | (with_reducible first | exact HB.out | apply qL | apply qJ | apply qK | refine qI ?_ GE252.out) | exact HB.out)))); have n5_ := qH (qD (g := gb252) (by (with_reducible repeat first | apply qA | apply qC | apply qB); exact BK252.out) hb); have n6_ := qH (below_step (by repeat (first | (with_reducible first | exact HB.out | apply qL | apply qJ | apply qK | refine qI ?_ GE252.out) | exact HB.out)) hb); clear HO_5; clear HO272; clear HO276; clear HO279; clear BK252; clear HB; have HO_5 := n0_; have HO272 := n1_; have HO276 := n2_; have HO279 := n3_; have HO283 := n4_; have BK252 := n5_; have HB := n6_; clear n0_ n1_ n2_ n3_ n4_ n5_ n6_; (try clear hb); (try clear hb2); (try clear hk); (try clear hi); (try clear ho0); obtain ⟨hcz65_0, hcz65_1, hcz65_2⟩ := qc3 BK252.out; obtain ⟨hfz65_0, hfz65_1, hfz65_2⟩ := qf3 BK252.out) | ((with_reducible refine gate_callee (f := 21) rfl ?_); refine goesL_ (some 100) rfl rfl Try.func21 (by kernel_rfl) rfl #[.slice Ao55 t255.length co55, .agg #[.string a1_0, .int .i64 a1_1]] rfl (by (try simp only [zX, zY, zZ]); first | done | rfl | (simp only [zD, zE]; rfl)) ?_; (with_reducible refine (graph_Drop.calls (fun k_ => ((((k_ ≠ gb252 ∧ some k_ ≠ (v271 : Value).ownBlock) ∧ some k_ ≠ (v275 : Value).ownBlock) ∧ some k_ ≠ (.slice Ao63 y277.length co63 : Value).ownBlock) ∧ some k_ ≠ (v282 : Value).ownBlock)) _ _ t255 a1_0 a1_1 t284 t287 _ ?side1 A39.out).mono ?_); (case side1 => exact HO_5.out); rintro e w66 ⟨v285, rfl, ho0, hb⟩; refine ⟨_, rfl, ?_⟩; have n0_ := qH (Kd.V_below (by (with_reducible repeat first | apply zVa | apply zVb | apply zVc); exact HO_5.out) hb); have n1_ := qH (Kd.R_below (by (with_reducible repeat first | apply zRa | apply zRb | apply zRc); exact HO272.out) hb); have n2_ := qH (Kd.R_below (by (with_reducible repeat first | apply zRa | apply zRb | apply zRc); exact HO276.out) hb); have n3_ := qH (Kd.R_below (by (with_reducible repeat first | apply zRa | apply zRb | apply zRc); exact HO279.out) hb); have n4_ := qH (Kd.R_below (by (with_reducible repeat first | apply zRa | apply zRb | apply zRc); exact HO283.out) hb); have n5_ := qH (Kd.V_lower (Kd.V_mono (ok' := fun k_ => some k_ ≠ (v271 : Value).ownBlock ∧ some k_ ≠ (v275 : Value).ownBlock ∧ some k_ ≠ (.slice Ao63 y277.length co63 : Value).ownBlock ∧ some k_ ≠ (v282 : Value).ownBlock ∧ k_ ≠ gb252) ho0 (fun k_ hk_ => ⟨Or.elim hk_ (fun hs_ => hs_.1.1.1.2) (fun hn_ => (Kd.fresh' (Kd.R_lt (by (with_reducible repeat first | apply zRa | apply zRb | apply zRc); exact HO272.out)) k_ hn_)), Or.elim hk_ (fun hs_ => hs_.1.1.2) (fun hn_ => (Kd.fresh' (Kd.R_lt (by (with_reducible repeat first | apply zRa | apply zRb | apply zRc); exact HO276.out)) k_ hn_)), Or.elim hk_ (fun hs_ => hs_.1.2) (fun hn_ => (Kd.fresh' (Kd.R_lt (by (with_reducible repeat first | apply zRa | apply zRb | apply zRc); exact HO279.out)) k_ hn_)), Or.elim hk_ (fun hs_ => hs_.2) (fun hn_ => (Kd.fresh' (Kd.R_lt (by (with_reducible repeat first | apply zRa | apply zRb | apply zRc); exact HO283.out)) k_ hn_)), Or.elim hk_ (fun hs_ => hs_.1.1.1.1) (fun hn_ => (Kd.freshB (g := gb252) (by (with_reducible repeat first | apply qA | apply qC | apply qB); exact BK252.out) k_ hn_))⟩)) (below_size (by repeat (first | (with_reducible first | exact HB.out | apply qL | apply qJ | apply qK | refine qI ?_ GE252.out) | exact HB.out)))); have n6_ := qH (qD (g := gb252) (by (with_reducible repeat first | apply qA | apply qC | apply qB); exact BK252.out) hb); have n7_ := qH (below_step (by repeat (first | (with_reducible first | exact HB.out | apply qL | apply qJ | apply qK | refine qI ?_ GE252.out) | exact HB.out)) hb); clear HO_5; clear HO272; clear HO276; clear HO279; clear HO283; clear BK252; clear HB; have HO_5 := n0_; have HO272 := n1_; have HO276 := n2_; have HO279 := n3_; have HO283 := n4_; have HO286 := n5_; have BK252 := n6_; have HB := n7_; clear n0_ n1_ n2_ n3_ n4_ n5_ n6_ n7_; (try clear hb); (try clear hb2); (try clear hk); (try clear hi); (try clear ho0); obtain ⟨Ao67, co67, eo67⟩ := Kd.R_slice HO272.out; subst eo67; obtain ⟨Ao68, co68, eo68⟩ := Kd.R_slice HO276.out; subst eo68) | (go_at_call 15; (with_reducible refine (codicilref19_Nodes.calls k2 _ _ t269 _ _ t273 true _ ?side1 ?side2 ?side3 ?side4 A43.out).mono ?_); (case side1 => repeat (first | exact (Kd.R_reads' HO272.out).2.2 | (with_reducible refine Kd.C_alloc ?_ _) | (with_reducible refine Kd.C_drewN ?_ _) | (with_reducible refine Kd.C_drew ?_))); (case side2 => exact (Kd.R_reads' HO272.out).2.1); (case side3 => repeat (first | exact (Kd.R_reads' HO276.out).2.2 | (with_reducible refine Kd.C_alloc ?_ _) | (with_reducible refine Kd.C_drewN ?_ _) | (with_reducible refine Kd.C_drew ?_))); (case side4 => exact (Kd.R_reads' HO276.out).2.1); rintro e w' ⟨rfl, ⟨nd, rfl⟩⟩; obtain ⟨Ao69, co69, eo69⟩ := Kd.R_slice HO283.out; subst eo69; have q70 : ((ji46) : Int) ≤ ((t280.length : Int) : Int) := of_decide_eq_true (by first | (with_reducible assumption) | assumption); obtain ⟨i070, hi070, _, hsz70, _⟩ := info_parts info24; have hroom70 : t280.length ≤ co69 := (Kd.R_reads' HO283.out).2.1; have hC70 : Kd.C k24 _ Ao69 t280.length t280 := (Kd.R_reads' HO283.out).2.2; have hcut70 := cut_to (P := Try.prog) 25 24 .i64 Try.underlying25 hi070 Ao69 t280.length co69 (ji46) (of_decide_eq_true (by first | (with_reducible assumption) | assumption)) q70 hroom70; have hr70 := Kd.C_take (m := ((ji46) : Int).toNat) hC70 (by omega); have hy70 : y289.length = ((ji46) : Int).toNat := (by rw [Ny289.out, List.length_take]; omega); rw [← Ny289.out] at hr70; rw [← hy70] at hcut70; have HR292 := qH hr70; have HC292 := qH (show y289.length ≤ co69 from by omega); clear hr70 hC70 hroom70 hi070 hsz70; have KY70 := qH hy70; clear hy70; have KL70 := qH (show ((ji46) : Int).toNat ≤ t280.length from by omega); replace q70 := eq_true q70) | (go_at_call 15; (with_reducible refine (codicilref19_Nodes.calls k2 _ _ y289 _ _ t269 true _ ?side1 ?side2 ?side3 ?side4 A49.out).mono ?_); (case side1 => repeat (first | exact (by repeat (first | (with_reducible exact HR292.out) | (with_reducible refine Kd.C_alloc ?_ _) | (with_reducible refine Kd.C_drewN ?_ _) | (with_reducible refine Kd.C_drew ?_) | exact HR292.out)) | (with_reducible refine Kd.C_alloc ?_ _) | (with_reducible refine Kd.C_drewN ?_ _) | (with_reducible refine Kd.C_drew ?_))); (case side2 => exact HC292.out); (case side3 => repeat (first | exact (Kd.R_reads' HO272.out).2.2 | (with_reducible refine Kd.C_alloc ?_ _) | (with_reducible refine Kd.C_drewN ?_ _) | (with_reducible refine Kd.C_drew ?_))); (case side4 => exact (Kd.R_reads' HO272.out).2.1); rintro e w' ⟨rfl, ⟨nd, rfl⟩⟩; obtain ⟨Ao71, co71, eo71⟩ := Kd.V_slice HO286.out; subst eo71) | (go_at_call 23; (with_reducible refine (codicilref19_Same.calls k2 _ _ t284 _ _ l0 true _ ?side1 ?side2 ?side3 ?side4 A52.out).mono ?_); (case side1 => repeat (first | exact (Kd.V_reads' HO286.out).2.2 | (with_reducible refine Kd.C_alloc ?_ _) | (with_reducible refine Kd.C_drewN ?_ _) | (with_reducible refine Kd.C_drew ?_))); (case side2 => exact (Kd.V_reads' HO286.out).2.1); (case side3 => repeat (first | exact (Kd.C_below HR0.out (by repeat (first | (with_reducible first | exact HB.out | apply qL | apply qJ | apply qK | refine qI ?_ GE252.out) | exact HB.out))) | (with_reducible refine Kd.C_alloc ?_ _) | (with_reducible refine Kd.C_drewN ?_ _) | (with_reducible refine Kd.C_drew ?_))); (case side4 => exact HC0.out); rintro e w' ⟨rfl, ⟨nd, rfl⟩⟩) | (go_at_call 8; (with_reducible refine (codicillaw19_alive.calls k2  t295 _ A54.out).mono ?_); rintro e w72 ⟨rfl, hb⟩; have n0_ := qH (Kd.V_below (by (with_reducible repeat first | apply zVa | apply zVb | apply zVc); exact HO_5.out) hb); have n1_ := qH (Kd.R_below (by (with_reducible repeat first | apply zRa | apply zRb | apply zRc); exact HO272.out) hb); have n2_ := qH (Kd.R_below (by (with_reducible repeat first | apply zRa | apply zRb | apply zRc); exact HO276.out) hb); have n3_ := qH (Kd.R_below (by (with_reducible repeat first | apply zRa | apply zRb | apply zRc); exact HO279.out) hb); have n4_ := qH (Kd.R_below (by (with_reducible repeat first | apply zRa | apply zRb | apply zRc); exact HO283.out) hb); have n5_ := qH (Kd.V_below (by (with_reducible repeat first | apply zVa | apply zVb | apply zVc); exact HO286.out) hb); have n6_ := qH (qD (g := gb252) (by (with_reducible repeat first | apply qA | apply qC | apply qB); exact BK252.out) hb); have n7_ := qH (Kd.C_below (by repeat (first | (with_reducible exact HR292.out) | (with_reducible refine Kd.C_alloc ?_ _) | (with_reducible refine Kd.C_drewN ?_ _) | (with_reducible refine Kd.C_drew ?_) | exact HR292.out)) hb); have n8_ := qH (below_step (by repeat (first | (with_reducible first | exact HB.out | apply qL | apply qJ | apply qK | refine qI ?_ GE252.out) | exact HB.out)) hb); clear HO_5; clear HO272; clear HO276; clear HO279; clear HO283; clear HO286; clear BK252; clear HR292; clear HB; have HO_5 := n0_; have HO272 := n1_; have HO276 := n2_; have HO279 := n3_; have HO283 := n4_; have HO286 := n5_; have BK252 := n6_; have HR292 := n7_; have HB := n8_; clear n0_ n1_ n2_ n3_ n4_ n5_ n6_ n7_ n8_; (try clear hb); (try clear hb2); (try clear hk); (try clear hi)))
                  go_ret
                  exact ⟨by first | rfl | (simp [errW_none, errW_some] <;> rfl) | (simp only [← hji46]; first | rfl | (simp [errW_none, errW_some] <;> rfl)) | (simp [*, errW_none, errW_some] <;> rfl), by repeat (first | (with_reducible first | exact HB.out | apply qL | apply qJ | apply qK | refine qI ?_ GE252.out) | exact HB.out)⟩
                 ·replace c53 := Bool.eq_false_iff.mpr c53
                  subst c53
                  have H1 : (some false) = some r := by rw [if_neg (show ¬ (false = true) by decide)] at H; exact H
                  clear H
                  have H := H1
                  clear H1
                  obtain rfl := Option.some.inj H
                  simp only [Option.some.injEq, Prod.mk.injEq] at H
                  obtain ⟨rfl⟩ := H
                  obtain ⟨Ao73, co73, eo73⟩ := Kd.V_slice HO_5.out
                  subst eo73
                  have hcz74_0 : wr.cell? ⟨gb252, 0, none⟩ = some (.string a1_0) := (qE BK252.out 0).trans rfl
                  have hcz74_1 : wr.cell? ⟨gb252, 1, none⟩ = some (.int .i64 a1_1) := (qE BK252.out 1).trans rfl
                  have hcz74_2 : wr.cell? ⟨gb252, 2, none⟩ = some (.slice A1_2 l1_2.length c1_2) := (qE BK252.out 2).trans rfl
                  have hfz74_0 := qF BK252.out 0
                  have hfz74_1 := qF BK252.out 1
                  have hfz74_2 := qF BK252.out 2
                  go_wp2_with (first | ((with_reducible refine gate_callee (f := 9) rfl ?_); refine goesL_ (some 78) rfl rfl Try.func9 (by kernel_rfl) rfl #[.slice A0 l0.length c0, .slice A1_2 l1_2.length c1_2] rfl (by (try simp only [zX, zY, zZ]); first | done | rfl | (simp only [zD, zE]; rfl)) ?_; (with_reducible refine (graph_Order.calls _ _ l0 _ _ l1_2 t269 t270 _ ?side1 ?side2 ?side3 ?side4 A36.out).mono ?_); (case side1 => repeat (first | exact (Kd.C_below HR0.out HB.out) | (with_reducible refine Kd.C_alloc ?_ _) | (with_reducible refine Kd.C_drewN ?_ _) | (with_reducible refine Kd.C_drew ?_))); (case side2 => exact HC0.out); (case side3 => repeat (first | exact (Kd.C_below HR1_2.out HB.out) | (with_reducible refine Kd.C_alloc ?_ _) | (with_reducible refine Kd.C_drewN ?_ _) | (with_reducible refine Kd.C_drew ?_))); (case side4 => exact HC1_2.out); rintro e w75 ⟨v271, rfl, ho0, hb⟩; refine ⟨_, rfl, ?_⟩; have n0_ := qH (Kd.V_elder' (by (with_reducible repeat first | apply zVa | apply zVb | apply zVc); exact HO_5.out) (Kd.R_base ho0) hb); have n1_ := qH (Kd.R_lower ho0 (below_size (by repeat (first | (with_reducible first | exact HB.out | apply qL | apply qJ | apply qK | refine qI ?_ GE252.out) | exact HB.out)))); have n2_ := qH (qD (g := gb252) (by (with_reducible repeat first | apply qA | apply qC | apply qB); exact BK252.out) hb); have n3_ := qH (below_step (by repeat (first | (with_reducible first | exact HB.out | apply qL | apply qJ | apply qK | refine qI ?_ GE252.out) | exact HB.out)) hb); clear HO_5; clear BK252; clear HB; have HO_5 := n0_; have HO272 := n1_; have BK252 := n2_; have HB := n3_; clear n0_ n1_ n2_ n3_; (try clear hb); (try clear hb2); (try clear hk); (try clear hi); (try clear ho0); obtain ⟨hcz76_0, hcz76_1, hcz76_2⟩ := qc3 BK252.out; obtain ⟨hfz76_0, hfz76_1, hfz76_2⟩ := qf3 BK252.out) | ((with_reducible refine gate_callee (f := 9) rfl ?_); refine goesL_ (some 85) rfl rfl Try.func9 (by kernel_rfl) rfl #[.slice Ao73 t255.length co73, .slice A1_2 l1_2.length c1_2] rfl (by (try simp only [zX, zY, zZ]); first | done | rfl | (simp only [zD, zE]; rfl)) ?_; (with_reducible refine (graph_Order.calls _ _ t255 _ _ l1_2 t273 t274 _ ?side1 ?side2 ?side3 ?side4 A37.out).mono ?_); (case side1 => repeat (first | exact (Kd.V_reads' HO_5.out).2.2 | (with_reducible refine Kd.C_alloc ?_ _) | (with_reducible refine Kd.C_drewN ?_ _) | (with_reducible refine Kd.C_drew ?_))); (case side2 => exact (Kd.V_reads' HO_5.out).2.1); (case side3 => repeat (first | exact (Kd.C_below HR1_2.out HB.out) | (with_reducible refine Kd.C_alloc ?_ _) | (with_reducible refine Kd.C_drewN ?_ _) | (with_reducible refine Kd.C_drew ?_))); (case side4 => exact HC1_2.out); rintro e w77 ⟨v275, rfl, ho0, hb⟩; refine ⟨_, rfl, ?_⟩; have n0_ := qH (Kd.V_elder' (by (with_reducible repeat first | apply zVa | apply zVb | apply zVc); exact HO_5.out) (Kd.R_base ho0) hb); have n1_ := qH (Kd.R_elder' (by (with_reducible repeat first | apply zRa | apply zRb | apply zRc); exact HO272.out) (Kd.R_base ho0) hb); have n2_ := qH (Kd.R_lower (Kd.R_new' ho0 (Kd.R_lt (by (with_reducible repeat first | apply zRa | apply zRb | apply zRc); exact HO272.out))) (below_size (by repeat (first | (with_reducible first | exact HB.out | apply qL | apply qJ | apply qK | refine qI ?_ GE252.out) | exact HB.out)))); have n3_ := qH (qD (g := gb252) (by (with_reducible repeat first | apply qA | apply qC | apply qB); exact BK252.out) hb); have n4_ := qH (below_step (by repeat (first | (with_reducible first | exact HB.out | apply qL | apply qJ | apply qK | refine qI ?_ GE252.out) | exact HB.out)) hb); clear HO_5; clear HO272; clear BK252; clear HB; have HO_5 := n0_; have HO272 := n1_; have HO276 := n2_; have BK252 := n3_; have HB := n4_; clear n0_ n1_ n2_ n3_ n4_; (try clear hb); (try clear hb2); (try clear hk); (try clear hi); (try clear ho0); obtain ⟨hcz78_0, hcz78_1, hcz78_2⟩ := qc3 BK252.out; obtain ⟨hfz78_0, hfz78_1, hfz78_2⟩ := qf3 BK252.out) | ((with_reducible refine gate_dst (N := 92) rfl ?_); (try (refine gate_guard (by rfl) ?_; dsimp only)); refine Kd.R_lit k24 _ 24 ?hg (N := 92) ?hd (xs := ([(⟨a1_0, a1_1⟩ : S24)] : List (S24))) (inner := [.string a1_0, .int .i64 a1_1]) (ok := fun _ => True) (okp := fun _ => True) ?hr ?hp (fun _ hk => hk) trivial (Below.refl _ _) (Nat.le_refl _) (by simp) ?_; (case hd => rfl); (case hg => rfl); (case hr => first | (go_simp; done) | (go_simp; rfl) | (go_simp; simp [IntKind.wrap_u32]; done)); (case hp => exact (Reps.c2 (show Kd.M k24 _ _ _ (⟨a1_0, a1_1⟩ : S24) [.string a1_0, .int .i64 a1_1] from (k24_mkM _ _ _ (⟨a1_0, a1_1⟩ : S24) )) (Reps.none _ _))); intro v278 w79 ho80 hb hg_ hnew_; clear hg_ hnew_; (first | rw [← Ny277.out] at ho80 | (simp only [Int.reduceToNat] at ho80; rw [← Ny277.out] at ho80)); have n0_ := qH (Kd.V_elder' (by (with_reducible repeat first | apply zVa | apply zVb | apply zVc); exact HO_5.out) (Kd.R_base ho80) hb); have n1_ := qH (Kd.R_elder' (by (with_reducible repeat first | apply zRa | apply zRb | apply zRc); exact HO272.out) (Kd.R_base ho80) hb); have n2_ := qH (Kd.R_elder' (by (with_reducible repeat first | apply zRa | apply zRb | apply zRc); exact HO276.out) (Kd.R_base ho80) hb); have n3_ := qH (Kd.R_lower (Kd.R_new' (Kd.R_new' ho80 (Kd.R_lt (by (with_reducible repeat first | apply zRa | apply zRb | apply zRc); exact HO272.out))) (Kd.R_lt (by (with_reducible repeat first | apply zRa | apply zRb | apply zRc); exact HO276.out))) (below_size (by repeat (first | (with_reducible first | exact HB.out | apply qL | apply qJ | apply qK | refine qI ?_ GE252.out) | exact HB.out)))); have n4_ := qH (qD (g := gb252) (by (with_reducible repeat first | apply qA | apply qC | apply qB); exact BK252.out) hb); have n5_ := qH (below_step (by repeat (first | (with_reducible first | exact HB.out | apply qL | apply qJ | apply qK | refine qI ?_ GE252.out) | exact HB.out)) hb); clear HO_5; clear HO272; clear HO276; clear BK252; clear HB; have HO_5 := n0_; have HO272 := n1_; have HO276 := n2_; have HO279 := n3_; have BK252 := n4_; have HB := n5_; clear n0_ n1_ n2_ n3_ n4_ n5_; clear hb ho80; obtain ⟨Ao81, co81, eo81⟩ := Kd.R_slice HO279.out; subst eo81) | ((with_reducible refine gate_callee (f := 9) rfl ?_); refine goesL_ (some 93) rfl rfl Try.func9 (by kernel_rfl) rfl #[.slice Ao73 t255.length co73, .slice Ao81 y277.length co81] rfl (by (try simp only [zX, zY, zZ]); first | done | rfl | (simp only [zD, zE]; rfl)) ?_; (with_reducible refine (graph_Order.calls _ _ t255 _ _ y277 t280 t281 _ ?side1 ?side2 ?side3 ?side4 A38.out).mono ?_); (case side1 => repeat (first | exact (Kd.V_reads' HO_5.out).2.2 | (with_reducible refine Kd.C_alloc ?_ _) | (with_reducible refine Kd.C_drewN ?_ _) | (with_reducible refine Kd.C_drew ?_))); (case side2 => exact (Kd.V_reads' HO_5.out).2.1); (case side3 => repeat (first | exact (Kd.R_reads' HO279.out).2.2 | (with_reducible refine Kd.C_alloc ?_ _) | (with_reducible refine Kd.C_drewN ?_ _) | (with_reducible refine Kd.C_drew ?_))); (case side4 => exact (Kd.R_reads' HO279.out).2.1); rintro e w82 ⟨v282, rfl, ho0, hb⟩; refine ⟨_, rfl, ?_⟩; have n0_ := qH (Kd.V_elder' (by (with_reducible repeat first | apply zVa | apply zVb | apply zVc); exact HO_5.out) (Kd.R_base ho0) hb); have n1_ := qH (Kd.R_elder' (by (with_reducible repeat first | apply zRa | apply zRb | apply zRc); exact HO272.out) (Kd.R_base ho0) hb); have n2_ := qH (Kd.R_elder' (by (with_reducible repeat first | apply zRa | apply zRb | apply zRc); exact HO276.out) (Kd.R_base ho0) hb); have n3_ := qH (Kd.R_elder' (by (with_reducible repeat first | apply zRa | apply zRb | apply zRc); exact HO279.out) (Kd.R_base ho0) hb); have n4_ := qH (Kd.R_lower (Kd.R_new' (Kd.R_new' (Kd.R_new' ho0 (Kd.R_lt (by (with_reducible repeat first | apply zRa | apply zRb | apply zRc); exact HO272.out))) (Kd.R_lt (by (with_reducible repeat first | apply zRa | apply zRb | apply zRc); exact HO276.out))) (Kd.R_lt (by (with_reducible repeat first | apply zRa | apply zRb | apply zRc); exact HO279.out))) (below_size (by repeat (first | (with_reducible first | exact HB.out | apply qL | apply qJ | apply qK | refine qI ?_ GE252.out) | exact HB.out)))); have n5_ := qH (qD (g := gb252) (by (with_reducible repeat first | apply qA | apply qC | apply qB); exact BK252.out) hb); have n6_ := qH (below_step (by repeat (first | (with_reducible first | exact HB.out | apply qL | apply qJ | apply qK | refine qI ?_ GE252.out) | exact HB.out)) hb); clear HO_5; clear HO272; clear HO276; clear HO279; clear BK252; clear HB; have HO_5 := n0_; have HO272 := n1_; have HO276 := n2_; have HO279 := n3_; have HO283 := n4_; have BK252 := n5_; have HB := n6_; clear n0_ n1_ n2_ n3_ n4_ n5_ n6_; (try clear hb); (try clear hb2); (try clear hk); (try clear hi); (try clear ho0); obtain ⟨hcz83_0, hcz83_1, hcz83_2⟩ := qc3 BK252.out; obtain ⟨hfz83_0, hfz83_1, hfz83_2⟩ := qf3 BK252.out) | ((with_reducible refine gate_callee (f := 21) rfl ?_); refine goesL_ (some 100) rfl rfl Try.func21 (by kernel_rfl) rfl #[.slice Ao73 t255.length co73, .agg #[.string a1_0, .int .i64 a1_1]] rfl (by (try simp only [zX, zY, zZ]); first | done | rfl | (simp only [zD, zE]; rfl)) ?_; (with_reducible refine (graph_Drop.calls (fun k_ => ((((k_ ≠ gb252 ∧ some k_ ≠ (v271 : Value).ownBlock) ∧ some k_ ≠ (v275 : Value).ownBlock) ∧ some k_ ≠ (.slice Ao81 y277.length co81 : Value).ownBlock) ∧ some k_ ≠ (v282 : Value).ownBlock)) _ _ t255 a1_0 a1_1 t284 t287 _ ?side1 A39.out).mono ?_); (case side1 => exact HO_5.out); rintro e w84 ⟨v285, rfl, ho0, hb⟩; refine ⟨_, rfl, ?_⟩; have n0_ := qH (Kd.V_below (by (with_reducible repeat first | apply zVa | apply zVb | apply zVc); exact HO_5.out) hb); have n1_ := qH (Kd.R_below (by (with_reducible repeat first | apply zRa | apply zRb | apply zRc); exact HO272.out) hb); have n2_ := qH (Kd.R_below (by (with_reducible repeat first | apply zRa | apply zRb | apply zRc); exact HO276.out) hb); have n3_ := qH (Kd.R_below (by (with_reducible repeat first | apply zRa | apply zRb | apply zRc); exact HO279.out) hb); have n4_ := qH (Kd.R_below (by (with_reducible repeat first | apply zRa | apply zRb | apply zRc); exact HO283.out) hb); have n5_ := qH (Kd.V_lower (Kd.V_mono (ok' := fun k_ => some k_ ≠ (v271 : Value).ownBlock ∧ some k_ ≠ (v275 : Value).ownBlock ∧ some k_ ≠ (.slice Ao81 y277.length co81 : Value).ownBlock ∧ some k_ ≠ (v282 : Value).ownBlock ∧ k_ ≠ gb252) ho0 (fun k_ hk_ => ⟨Or.elim hk_ (fun hs_ => hs_.1.1.1.2) (fun hn_ => (Kd.fresh' (Kd.R_lt (by (with_reducible repeat first | apply zRa | apply zRb | apply zRc); exact HO272.out)) k_ hn_)), Or.elim hk_ (fun hs_ => hs_.1.1.2) (fun hn_ => (Kd.fresh' (Kd.R_lt (by (with_reducible repeat first | apply zRa | apply zRb | apply zRc); exact HO276.out)) k_ hn_)), Or.elim hk_ (fun hs_ => hs_.1.2) (fun hn_ => (Kd.fresh' (Kd.R_lt (by (with_reducible repeat first | apply zRa | apply zRb | apply zRc); exact HO279.out)) k_ hn_)), Or.elim hk_ (fun hs_ => hs_.2) (fun hn_ => (Kd.fresh' (Kd.R_lt (by (with_reducible repeat first | apply zRa | apply zRb | apply zRc); exact HO283.out)) k_ hn_)), Or.elim hk_ (fun hs_ => hs_.1.1.1.1) (fun hn_ => (Kd.freshB (g := gb252) (by (with_reducible repeat first | apply qA | apply qC | apply qB); exact BK252.out) k_ hn_))⟩)) (below_size (by repeat (first | (with_reducible first | exact HB.out | apply qL | apply qJ | apply qK | refine qI ?_ GE252.out) | exact HB.out)))); have n6_ := qH (qD (g := gb252) (by (with_reducible repeat first | apply qA | apply qC | apply qB); exact BK252.out) hb); have n7_ := qH (below_step (by repeat (first | (with_reducible first | exact HB.out | apply qL | apply qJ | apply qK | refine qI ?_ GE252.out) | exact HB.out)) hb); clear HO_5; clear HO272; clear HO276; clear HO279; clear HO283; clear BK252; clear HB; have HO_5 := n0_; have HO272 := n1_; have HO276 := n2_; have HO279 := n3_; have HO283 := n4_; have HO286 := n5_; have BK252 := n6_; have HB := n7_; clear n0_ n1_ n2_ n3_ n4_ n5_ n6_ n7_; (try clear hb); (try clear hb2); (try clear hk); (try clear hi); (try clear ho0); obtain ⟨Ao85, co85, eo85⟩ := Kd.R_slice HO272.out; subst eo85; obtain ⟨Ao86, co86, eo86⟩ := Kd.R_slice HO276.out; subst eo86) | (go_at_call 15; (with_reducible refine (codicilref19_Nodes.calls k2 _ _ t269 _ _ t273 true _ ?side1 ?side2 ?side3 ?side4 A43.out).mono ?_); (case side1 => repeat (first | exact (Kd.R_reads' HO272.out).2.2 | (with_reducible refine Kd.C_alloc ?_ _) | (with_reducible refine Kd.C_drewN ?_ _) | (with_reducible refine Kd.C_drew ?_))); (case side2 => exact (Kd.R_reads' HO272.out).2.1); (case side3 => repeat (first | exact (Kd.R_reads' HO276.out).2.2 | (with_reducible refine Kd.C_alloc ?_ _) | (with_reducible refine Kd.C_drewN ?_ _) | (with_reducible refine Kd.C_drew ?_))); (case side4 => exact (Kd.R_reads' HO276.out).2.1); rintro e w' ⟨rfl, ⟨nd, rfl⟩⟩; obtain ⟨Ao87, co87, eo87⟩ := Kd.R_slice HO283.out; subst eo87; have q88 : ((ji46) : Int) ≤ ((t280.length : Int) : Int) := of_decide_eq_true (by first | (with_reducible assumption) | assumption); obtain ⟨i088, hi088, _, hsz88, _⟩ := info_parts info24; have hroom88 : t280.length ≤ co87 := (Kd.R_reads' HO283.out).2.1; have hC88 : Kd.C k24 _ Ao87 t280.length t280 := (Kd.R_reads' HO283.out).2.2; have hcut88 := cut_to (P := Try.prog) 25 24 .i64 Try.underlying25 hi088 Ao87 t280.length co87 (ji46) (of_decide_eq_true (by first | (with_reducible assumption) | assumption)) q88 hroom88; have hr88 := Kd.C_take (m := ((ji46) : Int).toNat) hC88 (by omega); have hy88 : y289.length = ((ji46) : Int).toNat := (by rw [Ny289.out, List.length_take]; omega); rw [← Ny289.out] at hr88; rw [← hy88] at hcut88; have HR292 := qH hr88; have HC292 := qH (show y289.length ≤ co87 from by omega); clear hr88 hC88 hroom88 hi088 hsz88; have KY88 := qH hy88; clear hy88; have KL88 := qH (show ((ji46) : Int).toNat ≤ t280.length from by omega); replace q88 := eq_true q88) | (go_at_call 15; (with_reducible refine (codicilref19_Nodes.calls k2 _ _ y289 _ _ t269 true _ ?side1 ?side2 ?side3 ?side4 A49.out).mono ?_); (case side1 => repeat (first | exact (by repeat (first | (with_reducible exact HR292.out) | (with_reducible refine Kd.C_alloc ?_ _) | (with_reducible refine Kd.C_drewN ?_ _) | (with_reducible refine Kd.C_drew ?_) | exact HR292.out)) | (with_reducible refine Kd.C_alloc ?_ _) | (with_reducible refine Kd.C_drewN ?_ _) | (with_reducible refine Kd.C_drew ?_))); (case side2 => exact HC292.out); (case side3 => repeat (first | exact (Kd.R_reads' HO272.out).2.2 | (with_reducible refine Kd.C_alloc ?_ _) | (with_reducible refine Kd.C_drewN ?_ _) | (with_reducible refine Kd.C_drew ?_))); (case side4 => exact (Kd.R_reads' HO272.out).2.1); rintro e w' ⟨rfl, ⟨nd, rfl⟩⟩; obtain ⟨Ao89, co89, eo89⟩ := Kd.V_slice HO286.out; subst eo89) | (go_at_call 23; (with_reducible refine (codicilref19_Same.calls k2 _ _ t284 _ _ l0 false _ ?side1 ?side2 ?side3 ?side4 A52.out).mono ?_); (case side1 => repeat (first | exact (Kd.V_reads' HO286.out).2.2 | (with_reducible refine Kd.C_alloc ?_ _) | (with_reducible refine Kd.C_drewN ?_ _) | (with_reducible refine Kd.C_drew ?_))); (case side2 => exact (Kd.V_reads' HO286.out).2.1); (case side3 => repeat (first | exact (Kd.C_below HR0.out (by repeat (first | (with_reducible first | exact HB.out | apply qL | apply qJ | apply qK | refine qI ?_ GE252.out) | exact HB.out))) | (with_reducible refine Kd.C_alloc ?_ _) | (with_reducible refine Kd.C_drewN ?_ _) | (with_reducible refine Kd.C_drew ?_))); (case side4 => exact HC0.out); rintro e w' ⟨rfl, ⟨nd, rfl⟩⟩))
                  go_ret
                  exact ⟨by first | rfl | (simp [errW_none, errW_some] <;> rfl) | (simp only [← hji46]; first | rfl | (simp [errW_none, errW_some] <;> rfl)) | (simp [*, errW_none, errW_some] <;> rfl), by repeat (first | (with_reducible first | exact HB.out | apply qL | apply qJ | apply qK | refine qI ?_ GE252.out) | exact HB.out)⟩
                ·rw [if_neg c51] at H
                 have c51b0 : (t287 == 0) = false := beq_eq_false_iff_ne.mpr c51
                 have c51b1 : (t287 != 0) = true := bne_iff_ne.mpr c51
                 obtain rfl := Option.some.inj H
                 simp only [Option.some.injEq, Prod.mk.injEq] at H
                 obtain ⟨rfl⟩ := H
                 obtain ⟨Ao90, co90, eo90⟩ := Kd.V_slice HO_5.out
                 subst eo90
                 have hcz91_0 : wr.cell? ⟨gb252, 0, none⟩ = some (.string a1_0) := (qE BK252.out 0).trans rfl
                 have hcz91_1 : wr.cell? ⟨gb252, 1, none⟩ = some (.int .i64 a1_1) := (qE BK252.out 1).trans rfl
                 have hcz91_2 : wr.cell? ⟨gb252, 2, none⟩ = some (.slice A1_2 l1_2.length c1_2) := (qE BK252.out 2).trans rfl
                 have hfz91_0 := qF BK252.out 0
                 have hfz91_1 := qF BK252.out 1
                 have hfz91_2 := qF BK252.out 2
                 go_wp2_with (first | ((with_reducible refine gate_callee (f := 9) rfl ?_); refine goesL_ (some 78) rfl rfl Try.func9 (by kernel_rfl) rfl #[.slice A0 l0.length c0, .slice A1_2 l1_2.length c1_2] rfl (by (try simp only [zX, zY, zZ]); first | done | rfl | (simp only [zD, zE]; rfl)) ?_; (with_reducible refine (graph_Order.calls _ _ l0 _ _ l1_2 t269 t270 _ ?side1 ?side2 ?side3 ?side4 A36.out).mono ?_); (case side1 => repeat (first | exact (Kd.C_below HR0.out HB.out) | (with_reducible refine Kd.C_alloc ?_ _) | (with_reducible refine Kd.C_drewN ?_ _) | (with_reducible refine Kd.C_drew ?_))); (case side2 => exact HC0.out); (case side3 => repeat (first | exact (Kd.C_below HR1_2.out HB.out) | (with_reducible refine Kd.C_alloc ?_ _) | (with_reducible refine Kd.C_drewN ?_ _) | (with_reducible refine Kd.C_drew ?_))); (case side4 => exact HC1_2.out); rintro e w92 ⟨v271, rfl, ho0, hb⟩; refine ⟨_, rfl, ?_⟩; have n0_ := qH (Kd.V_elder' (by (with_reducible repeat first | apply zVa | apply zVb | apply zVc); exact HO_5.out) (Kd.R_base ho0) hb); have n1_ := qH (Kd.R_lower ho0 (below_size (by repeat (first | (with_reducible first | exact HB.out | apply qL | apply qJ | apply qK | refine qI ?_ GE252.out) | exact HB.out)))); have n2_ := qH (qD (g := gb252) (by (with_reducible repeat first | apply qA | apply qC | apply qB); exact BK252.out) hb); have n3_ := qH (below_step (by repeat (first | (with_reducible first | exact HB.out | apply qL | apply qJ | apply qK | refine qI ?_ GE252.out) | exact HB.out)) hb); clear HO_5; clear BK252; clear HB; have HO_5 := n0_; have HO272 := n1_; have BK252 := n2_; have HB := n3_; clear n0_ n1_ n2_ n3_; (try clear hb); (try clear hb2); (try clear hk); (try clear hi); (try clear ho0); obtain ⟨hcz93_0, hcz93_1, hcz93_2⟩ := qc3 BK252.out; obtain ⟨hfz93_0, hfz93_1, hfz93_2⟩ := qf3 BK252.out) | ((with_reducible refine gate_callee (f := 9) rfl ?_); refine goesL_ (some 85) rfl rfl Try.func9 (by kernel_rfl) rfl #[.slice Ao90 t255.length co90, .slice A1_2 l1_2.length c1_2] rfl (by (try simp only [zX, zY, zZ]); first | done | rfl | (simp only [zD, zE]; rfl)) ?_; (with_reducible refine (graph_Order.calls _ _ t255 _ _ l1_2 t273 t274 _ ?side1 ?side2 ?side3 ?side4 A37.out).mono ?_); (case side1 => repeat (first | exact (Kd.V_reads' HO_5.out).2.2 | (with_reducible refine Kd.C_alloc ?_ _) | (with_reducible refine Kd.C_drewN ?_ _) | (with_reducible refine Kd.C_drew ?_))); (case side2 => exact (Kd.V_reads' HO_5.out).2.1); (case side3 => repeat (first | exact (Kd.C_below HR1_2.out HB.out) | (with_reducible refine Kd.C_alloc ?_ _) | (with_reducible refine Kd.C_drewN ?_ _) | (with_reducible refine Kd.C_drew ?_))); (case side4 => exact HC1_2.out); rintro e w94 ⟨v275, rfl, ho0, hb⟩; refine ⟨_, rfl, ?_⟩; have n0_ := qH (Kd.V_elder' (by (with_reducible repeat first | apply zVa | apply zVb | apply zVc); exact HO_5.out) (Kd.R_base ho0) hb); have n1_ := qH (Kd.R_elder' (by (with_reducible repeat first | apply zRa | apply zRb | apply zRc); exact HO272.out) (Kd.R_base ho0) hb); have n2_ := qH (Kd.R_lower (Kd.R_new' ho0 (Kd.R_lt (by (with_reducible repeat first | apply zRa | apply zRb | apply zRc); exact HO272.out))) (below_size (by repeat (first | (with_reducible first | exact HB.out | apply qL | apply qJ | apply qK | refine qI ?_ GE252.out) | exact HB.out)))); have n3_ := qH (qD (g := gb252) (by (with_reducible repeat first | apply qA | apply qC | apply qB); exact BK252.out) hb); have n4_ := qH (below_step (by repeat (first | (with_reducible first | exact HB.out | apply qL | apply qJ | apply qK | refine qI ?_ GE252.out) | exact HB.out)) hb); clear HO_5; clear HO272; clear BK252; clear HB; have HO_5 := n0_; have HO272 := n1_; have HO276 := n2_; have BK252 := n3_; have HB := n4_; clear n0_ n1_ n2_ n3_ n4_; (try clear hb); (try clear hb2); (try clear hk); (try clear hi); (try clear ho0); obtain ⟨hcz95_0, hcz95_1, hcz95_2⟩ := qc3 BK252.out; obtain ⟨hfz95_0, hfz95_1, hfz95_2⟩ := qf3 BK252.out) | ((with_reducible refine gate_dst (N := 92) rfl ?_); (try (refine gate_guard (by rfl) ?_; dsimp only)); refine Kd.R_lit k24 _ 24 ?hg (N := 92) ?hd (xs := ([(⟨a1_0, a1_1⟩ : S24)] : List (S24))) (inner := [.string a1_0, .int .i64 a1_1]) (ok := fun _ => True) (okp := fun _ => True) ?hr ?hp (fun _ hk => hk) trivial (Below.refl _ _) (Nat.le_refl _) (by simp) ?_; (case hd => rfl); (case hg => rfl); (case hr => first | (go_simp; done) | (go_simp; rfl) | (go_simp; simp [IntKind.wrap_u32]; done)); (case hp => exact (Reps.c2 (show Kd.M k24 _ _ _ (⟨a1_0, a1_1⟩ : S24) [.string a1_0, .int .i64 a1_1] from (k24_mkM _ _ _ (⟨a1_0, a1_1⟩ : S24) )) (Reps.none _ _))); intro v278 w96 ho97 hb hg_ hnew_; clear hg_ hnew_; (first | rw [← Ny277.out] at ho97 | (simp only [Int.reduceToNat] at ho97; rw [← Ny277.out] at ho97)); have n0_ := qH (Kd.V_elder' (by (with_reducible repeat first | apply zVa | apply zVb | apply zVc); exact HO_5.out) (Kd.R_base ho97) hb); have n1_ := qH (Kd.R_elder' (by (with_reducible repeat first | apply zRa | apply zRb | apply zRc); exact HO272.out) (Kd.R_base ho97) hb); have n2_ := qH (Kd.R_elder' (by (with_reducible repeat first | apply zRa | apply zRb | apply zRc); exact HO276.out) (Kd.R_base ho97) hb); have n3_ := qH (Kd.R_lower (Kd.R_new' (Kd.R_new' ho97 (Kd.R_lt (by (with_reducible repeat first | apply zRa | apply zRb | apply zRc); exact HO272.out))) (Kd.R_lt (by (with_reducible repeat first | apply zRa | apply zRb | apply zRc); exact HO276.out))) (below_size (by repeat (first | (with_reducible first | exact HB.out | apply qL | apply qJ | apply qK | refine qI ?_ GE252.out) | exact HB.out)))); have n4_ := qH (qD (g := gb252) (by (with_reducible repeat first | apply qA | apply qC | apply qB); exact BK252.out) hb); have n5_ := qH (below_step (by repeat (first | (with_reducible first | exact HB.out | apply qL | apply qJ | apply qK | refine qI ?_ GE252.out) | exact HB.out)) hb); clear HO_5; clear HO272; clear HO276; clear BK252; clear HB; have HO_5 := n0_; have HO272 := n1_; have HO276 := n2_; have HO279 := n3_; have BK252 := n4_; have HB := n5_; clear n0_ n1_ n2_ n3_ n4_ n5_; clear hb ho97; obtain ⟨Ao98, co98, eo98⟩ := Kd.R_slice HO279.out; subst eo98) | ((with_reducible refine gate_callee (f := 9) rfl ?_); refine goesL_ (some 93) rfl rfl Try.func9 (by kernel_rfl) rfl #[.slice Ao90 t255.length co90, .slice Ao98 y277.length co98] rfl (by (try simp only [zX, zY, zZ]); first | done | rfl | (simp only [zD, zE]; rfl)) ?_; (with_reducible refine (graph_Order.calls _ _ t255 _ _ y277 t280 t281 _ ?side1 ?side2 ?side3 ?side4 A38.out).mono ?_); (case side1 => repeat (first | exact (Kd.V_reads' HO_5.out).2.2 | (with_reducible refine Kd.C_alloc ?_ _) | (with_reducible refine Kd.C_drewN ?_ _) | (with_reducible refine Kd.C_drew ?_))); (case side2 => exact (Kd.V_reads' HO_5.out).2.1); (case side3 => repeat (first | exact (Kd.R_reads' HO279.out).2.2 | (with_reducible refine Kd.C_alloc ?_ _) | (with_reducible refine Kd.C_drewN ?_ _) | (with_reducible refine Kd.C_drew ?_))); (case side4 => exact (Kd.R_reads' HO279.out).2.1); rintro e w99 ⟨v282, rfl, ho0, hb⟩; refine ⟨_, rfl, ?_⟩; have n0_ := qH (Kd.V_elder' (by (with_reducible repeat first | apply zVa | apply zVb | apply zVc); exact HO_5.out) (Kd.R_base ho0) hb); have n1_ := qH (Kd.R_elder' (by (with_reducible repeat first | apply zRa | apply zRb | apply zRc); exact HO272.out) (Kd.R_base ho0) hb); have n2_ := qH (Kd.R_elder' (by (with_reducible repeat first | apply zRa | apply zRb | apply zRc); exact HO276.out) (Kd.R_base ho0) hb); have n3_ := qH (Kd.R_elder' (by (with_reducible repeat first | apply zRa | apply zRb | apply zRc); exact HO279.out) (Kd.R_base ho0) hb); have n4_ := qH (Kd.R_lower (Kd.R_new' (Kd.R_new' (Kd.R_new' ho0 (Kd.R_lt (by (with_reducible repeat first | apply zRa | apply zRb | apply zRc); exact HO272.out))) (Kd.R_lt (by (with_reducible repeat first | apply zRa | apply zRb | apply zRc); exact HO276.out))) (Kd.R_lt (by (with_reducible repeat first | apply zRa | apply zRb | apply zRc); exact HO279.out))) (below_size (by repeat (first | (with_reducible first | exact HB.out | apply qL | apply qJ | apply qK | refine qI ?_ GE252.out) | exact HB.out)))); have n5_ := qH (qD (g := gb252) (by (with_reducible repeat first | apply qA | apply qC | apply qB); exact BK252.out) hb); have n6_ := qH (below_step (by repeat (first | (with_reducible first | exact HB.out | apply qL | apply qJ | apply qK | refine qI ?_ GE252.out) | exact HB.out)) hb); clear HO_5; clear HO272; clear HO276; clear HO279; clear BK252; clear HB; have HO_5 := n0_; have HO272 := n1_; have HO276 := n2_; have HO279 := n3_; have HO283 := n4_; have BK252 := n5_; have HB := n6_; clear n0_ n1_ n2_ n3_ n4_ n5_ n6_; (try clear hb); (try clear hb2); (try clear hk); (try clear hi); (try clear ho0); obtain ⟨hcz100_0, hcz100_1, hcz100_2⟩ := qc3 BK252.out; obtain ⟨hfz100_0, hfz100_1, hfz100_2⟩ := qf3 BK252.out) | ((with_reducible refine gate_callee (f := 21) rfl ?_); refine goesL_ (some 100) rfl rfl Try.func21 (by kernel_rfl) rfl #[.slice Ao90 t255.length co90, .agg #[.string a1_0, .int .i64 a1_1]] rfl (by (try simp only [zX, zY, zZ]); first | done | rfl | (simp only [zD, zE]; rfl)) ?_; (with_reducible refine (graph_Drop.calls (fun k_ => ((((k_ ≠ gb252 ∧ some k_ ≠ (v271 : Value).ownBlock) ∧ some k_ ≠ (v275 : Value).ownBlock) ∧ some k_ ≠ (.slice Ao98 y277.length co98 : Value).ownBlock) ∧ some k_ ≠ (v282 : Value).ownBlock)) _ _ t255 a1_0 a1_1 t284 t287 _ ?side1 A39.out).mono ?_); (case side1 => exact HO_5.out); rintro e w101 ⟨v285, rfl, ho0, hb⟩; refine ⟨_, rfl, ?_⟩; have n0_ := qH (Kd.V_below (by (with_reducible repeat first | apply zVa | apply zVb | apply zVc); exact HO_5.out) hb); have n1_ := qH (Kd.R_below (by (with_reducible repeat first | apply zRa | apply zRb | apply zRc); exact HO272.out) hb); have n2_ := qH (Kd.R_below (by (with_reducible repeat first | apply zRa | apply zRb | apply zRc); exact HO276.out) hb); have n3_ := qH (Kd.R_below (by (with_reducible repeat first | apply zRa | apply zRb | apply zRc); exact HO279.out) hb); have n4_ := qH (Kd.R_below (by (with_reducible repeat first | apply zRa | apply zRb | apply zRc); exact HO283.out) hb); have n5_ := qH (Kd.V_lower (Kd.V_mono (ok' := fun k_ => some k_ ≠ (v271 : Value).ownBlock ∧ some k_ ≠ (v275 : Value).ownBlock ∧ some k_ ≠ (.slice Ao98 y277.length co98 : Value).ownBlock ∧ some k_ ≠ (v282 : Value).ownBlock ∧ k_ ≠ gb252) ho0 (fun k_ hk_ => ⟨Or.elim hk_ (fun hs_ => hs_.1.1.1.2) (fun hn_ => (Kd.fresh' (Kd.R_lt (by (with_reducible repeat first | apply zRa | apply zRb | apply zRc); exact HO272.out)) k_ hn_)), Or.elim hk_ (fun hs_ => hs_.1.1.2) (fun hn_ => (Kd.fresh' (Kd.R_lt (by (with_reducible repeat first | apply zRa | apply zRb | apply zRc); exact HO276.out)) k_ hn_)), Or.elim hk_ (fun hs_ => hs_.1.2) (fun hn_ => (Kd.fresh' (Kd.R_lt (by (with_reducible repeat first | apply zRa | apply zRb | apply zRc); exact HO279.out)) k_ hn_)), Or.elim hk_ (fun hs_ => hs_.2) (fun hn_ => (Kd.fresh' (Kd.R_lt (by (with_reducible repeat first | apply zRa | apply zRb | apply zRc); exact HO283.out)) k_ hn_)), Or.elim hk_ (fun hs_ => hs_.1.1.1.1) (fun hn_ => (Kd.freshB (g := gb252) (by (with_reducible repeat first | apply qA | apply qC | apply qB); exact BK252.out) k_ hn_))⟩)) (below_size (by repeat (first | (with_reducible first | exact HB.out | apply qL | apply qJ | apply qK | refine qI ?_ GE252.out) | exact HB.out)))); have n6_ := qH (qD (g := gb252) (by (with_reducible repeat first | apply qA | apply qC | apply qB); exact BK252.out) hb); have n7_ := qH (below_step (by repeat (first | (with_reducible first | exact HB.out | apply qL | apply qJ | apply qK | refine qI ?_ GE252.out) | exact HB.out)) hb); clear HO_5; clear HO272; clear HO276; clear HO279; clear HO283; clear BK252; clear HB; have HO_5 := n0_; have HO272 := n1_; have HO276 := n2_; have HO279 := n3_; have HO283 := n4_; have HO286 := n5_; have BK252 := n6_; have HB := n7_; clear n0_ n1_ n2_ n3_ n4_ n5_ n6_ n7_; (try clear hb); (try clear hb2); (try clear hk); (try clear hi); (try clear ho0); obtain ⟨Ao102, co102, eo102⟩ := Kd.R_slice HO272.out; subst eo102; obtain ⟨Ao103, co103, eo103⟩ := Kd.R_slice HO276.out; subst eo103) | (go_at_call 15; (with_reducible refine (codicilref19_Nodes.calls k2 _ _ t269 _ _ t273 true _ ?side1 ?side2 ?side3 ?side4 A43.out).mono ?_); (case side1 => repeat (first | exact (Kd.R_reads' HO272.out).2.2 | (with_reducible refine Kd.C_alloc ?_ _) | (with_reducible refine Kd.C_drewN ?_ _) | (with_reducible refine Kd.C_drew ?_))); (case side2 => exact (Kd.R_reads' HO272.out).2.1); (case side3 => repeat (first | exact (Kd.R_reads' HO276.out).2.2 | (with_reducible refine Kd.C_alloc ?_ _) | (with_reducible refine Kd.C_drewN ?_ _) | (with_reducible refine Kd.C_drew ?_))); (case side4 => exact (Kd.R_reads' HO276.out).2.1); rintro e w' ⟨rfl, ⟨nd, rfl⟩⟩; obtain ⟨Ao104, co104, eo104⟩ := Kd.R_slice HO283.out; subst eo104; have q105 : ((ji46) : Int) ≤ ((t280.length : Int) : Int) := of_decide_eq_true (by first | (with_reducible assumption) | assumption); obtain ⟨i0105, hi0105, _, hsz105, _⟩ := info_parts info24; have hroom105 : t280.length ≤ co104 := (Kd.R_reads' HO283.out).2.1; have hC105 : Kd.C k24 _ Ao104 t280.length t280 := (Kd.R_reads' HO283.out).2.2; have hcut105 := cut_to (P := Try.prog) 25 24 .i64 Try.underlying25 hi0105 Ao104 t280.length co104 (ji46) (of_decide_eq_true (by first | (with_reducible assumption) | assumption)) q105 hroom105; have hr105 := Kd.C_take (m := ((ji46) : Int).toNat) hC105 (by omega); have hy105 : y289.length = ((ji46) : Int).toNat := (by rw [Ny289.out, List.length_take]; omega); rw [← Ny289.out] at hr105; rw [← hy105] at hcut105; have HR292 := qH hr105; have HC292 := qH (show y289.length ≤ co104 from by omega); clear hr105 hC105 hroom105 hi0105 hsz105; have KY105 := qH hy105; clear hy105; have KL105 := qH (show ((ji46) : Int).toNat ≤ t280.length from by omega); replace q105 := eq_true q105) | (go_at_call 15; (with_reducible refine (codicilref19_Nodes.calls k2 _ _ y289 _ _ t269 true _ ?side1 ?side2 ?side3 ?side4 A49.out).mono ?_); (case side1 => repeat (first | exact (by repeat (first | (with_reducible exact HR292.out) | (with_reducible refine Kd.C_alloc ?_ _) | (with_reducible refine Kd.C_drewN ?_ _) | (with_reducible refine Kd.C_drew ?_) | exact HR292.out)) | (with_reducible refine Kd.C_alloc ?_ _) | (with_reducible refine Kd.C_drewN ?_ _) | (with_reducible refine Kd.C_drew ?_))); (case side2 => exact HC292.out); (case side3 => repeat (first | exact (Kd.R_reads' HO272.out).2.2 | (with_reducible refine Kd.C_alloc ?_ _) | (with_reducible refine Kd.C_drewN ?_ _) | (with_reducible refine Kd.C_drew ?_))); (case side4 => exact (Kd.R_reads' HO272.out).2.1); rintro e w' ⟨rfl, ⟨nd, rfl⟩⟩))
                 go_ret
                 exact ⟨by first | rfl | (simp [errW_none, errW_some] <;> rfl) | (simp only [← hji46]; first | rfl | (simp [errW_none, errW_some] <;> rfl)) | (simp [*, errW_none, errW_some] <;> rfl), by repeat (first | (with_reducible first | exact HB.out | apply qL | apply qJ | apply qK | refine qI ?_ GE252.out) | exact HB.out)⟩
               ·replace c50 := Bool.eq_false_iff.mpr c50
                subst c50
                have H1 : (some false) = some r := by rw [if_neg (show ¬ (false = true) by decide)] at H; exact H
                clear H
                have H := H1
                clear H1
                obtain rfl := Option.some.inj H
                simp only [Option.some.injEq, Prod.mk.injEq] at H
                obtain ⟨rfl⟩ := H
                obtain ⟨Ao106, co106, eo106⟩ := Kd.V_slice HO_5.out
                subst eo106
                have hcz107_0 : wr.cell? ⟨gb252, 0, none⟩ = some (.string a1_0) := (qE BK252.out 0).trans rfl
                have hcz107_1 : wr.cell? ⟨gb252, 1, none⟩ = some (.int .i64 a1_1) := (qE BK252.out 1).trans rfl
                have hcz107_2 : wr.cell? ⟨gb252, 2, none⟩ = some (.slice A1_2 l1_2.length c1_2) := (qE BK252.out 2).trans rfl
                have hfz107_0 := qF BK252.out 0
                have hfz107_1 := qF BK252.out 1
                have hfz107_2 := qF BK252.out 2
                go_wp2_with (first | ((with_reducible refine gate_callee (f := 9) rfl ?_); refine goesL_ (some 78) rfl rfl Try.func9 (by kernel_rfl) rfl #[.slice A0 l0.length c0, .slice A1_2 l1_2.length c1_2] rfl (by (try simp only [zX, zY, zZ]); first | done | rfl | (simp only [zD, zE]; rfl)) ?_; (with_reducible refine (graph_Order.calls _ _ l0 _ _ l1_2 t269 t270 _ ?side1 ?side2 ?side3 ?side4 A36.out).mono ?_); (case side1 => repeat (first | exact (Kd.C_below HR0.out HB.out) | (with_reducible refine Kd.C_alloc ?_ _) | (with_reducible refine Kd.C_drewN ?_ _) | (with_reducible refine Kd.C_drew ?_))); (case side2 => exact HC0.out); (case side3 => repeat (first | exact (Kd.C_below HR1_2.out HB.out) | (with_reducible refine Kd.C_alloc ?_ _) | (with_reducible refine Kd.C_drewN ?_ _) | (with_reducible refine Kd.C_drew ?_))); (case side4 => exact HC1_2.out); rintro e w108 ⟨v271, rfl, ho0, hb⟩; refine ⟨_, rfl, ?_⟩; have n0_ := qH (Kd.V_elder' (by (with_reducible repeat first | apply zVa | apply zVb | apply zVc); exact HO_5.out) (Kd.R_base ho0) hb); have n1_ := qH (Kd.R_lower ho0 (below_size (by repeat (first | (with_reducible first | exact HB.out | apply qL | apply qJ | apply qK | refine qI ?_ GE252.out) | exact HB.out)))); have n2_ := qH (qD (g := gb252) (by (with_reducible repeat first | apply qA | apply qC | apply qB); exact BK252.out) hb); have n3_ := qH (below_step (by repeat (first | (with_reducible first | exact HB.out | apply qL | apply qJ | apply qK | refine qI ?_ GE252.out) | exact HB.out)) hb); clear HO_5; clear BK252; clear HB; have HO_5 := n0_; have HO272 := n1_; have BK252 := n2_; have HB := n3_; clear n0_ n1_ n2_ n3_; (try clear hb); (try clear hb2); (try clear hk); (try clear hi); (try clear ho0); obtain ⟨hcz109_0, hcz109_1, hcz109_2⟩ := qc3 BK252.out; obtain ⟨hfz109_0, hfz109_1, hfz109_2⟩ := qf3 BK252.out) | ((with_reducible refine gate_callee (f := 9) rfl ?_); refine goesL_ (some 85) rfl rfl Try.func9 (by kernel_rfl) rfl #[.slice Ao106 t255.length co106, .slice A1_2 l1_2.length c1_2] rfl (by (try simp only [zX, zY, zZ]); first | done | rfl | (simp only [zD, zE]; rfl)) ?_; (with_reducible refine (graph_Order.calls _ _ t255 _ _ l1_2 t273 t274 _ ?side1 ?side2 ?side3 ?side4 A37.out).mono ?_); (case side1 => repeat (first | exact (Kd.V_reads' HO_5.out).2.2 | (with_reducible refine Kd.C_alloc ?_ _) | (with_reducible refine Kd.C_drewN ?_ _) | (with_reducible refine Kd.C_drew ?_))); (case side2 => exact (Kd.V_reads' HO_5.out).2.1); (case side3 => repeat (first | exact (Kd.C_below HR1_2.out HB.out) | (with_reducible refine Kd.C_alloc ?_ _) | (with_reducible refine Kd.C_drewN ?_ _) | (with_reducible refine Kd.C_drew ?_))); (case side4 => exact HC1_2.out); rintro e w110 ⟨v275, rfl, ho0, hb⟩; refine ⟨_, rfl, ?_⟩; have n0_ := qH (Kd.V_elder' (by (with_reducible repeat first | apply zVa | apply zVb | apply zVc); exact HO_5.out) (Kd.R_base ho0) hb); have n1_ := qH (Kd.R_elder' (by (with_reducible repeat first | apply zRa | apply zRb | apply zRc); exact HO272.out) (Kd.R_base ho0) hb); have n2_ := qH (Kd.R_lower (Kd.R_new' ho0 (Kd.R_lt (by (with_reducible repeat first | apply zRa | apply zRb | apply zRc); exact HO272.out))) (below_size (by repeat (first | (with_reducible first | exact HB.out | apply qL | apply qJ | apply qK | refine qI ?_ GE252.out) | exact HB.out)))); have n3_ := qH (qD (g := gb252) (by (with_reducible repeat first | apply qA | apply qC | apply qB); exact BK252.out) hb); have n4_ := qH (below_step (by repeat (first | (with_reducible first | exact HB.out | apply qL | apply qJ | apply qK | refine qI ?_ GE252.out) | exact HB.out)) hb); clear HO_5; clear HO272; clear BK252; clear HB; have HO_5 := n0_; have HO272 := n1_; have HO276 := n2_; have BK252 := n3_; have HB := n4_; clear n0_ n1_ n2_ n3_ n4_; (try clear hb); (try clear hb2); (try clear hk); (try clear hi); (try clear ho0); obtain ⟨hcz111_0, hcz111_1, hcz111_2⟩ := qc3 BK252.out; obtain ⟨hfz111_0, hfz111_1, hfz111_2⟩ := qf3 BK252.out) | ((with_reducible refine gate_dst (N := 92) rfl ?_); (try (refine gate_guard (by rfl) ?_; dsimp only)); refine Kd.R_lit k24 _ 24 ?hg (N := 92) ?hd (xs := ([(⟨a1_0, a1_1⟩ : S24)] : List (S24))) (inner := [.string a1_0, .int .i64 a1_1]) (ok := fun _ => True) (okp := fun _ => True) ?hr ?hp (fun _ hk => hk) trivial (Below.refl _ _) (Nat.le_refl _) (by simp) ?_; (case hd => rfl); (case hg => rfl); (case hr => first | (go_simp; done) | (go_simp; rfl) | (go_simp; simp [IntKind.wrap_u32]; done)); (case hp => exact (Reps.c2 (show Kd.M k24 _ _ _ (⟨a1_0, a1_1⟩ : S24) [.string a1_0, .int .i64 a1_1] from (k24_mkM _ _ _ (⟨a1_0, a1_1⟩ : S24) )) (Reps.none _ _))); intro v278 w112 ho113 hb hg_ hnew_; clear hg_ hnew_; (first | rw [← Ny277.out] at ho113 | (simp only [Int.reduceToNat] at ho113; rw [← Ny277.out] at ho113)); have n0_ := qH (Kd.V_elder' (by (with_reducible repeat first | apply zVa | apply zVb | apply zVc); exact HO_5.out) (Kd.R_base ho113) hb); have n1_ := qH (Kd.R_elder' (by (with_reducible repeat first | apply zRa | apply zRb | apply zRc); exact HO272.out) (Kd.R_base ho113) hb); have n2_ := qH (Kd.R_elder' (by (with_reducible repeat first | apply zRa | apply zRb | apply zRc); exact HO276.out) (Kd.R_base ho113) hb); have n3_ := qH (Kd.R_lower (Kd.R_new' (Kd.R_new' ho113 (Kd.R_lt (by (with_reducible repeat first | apply zRa | apply zRb | apply zRc); exact HO272.out))) (Kd.R_lt (by (with_reducible repeat first | apply zRa | apply zRb | apply zRc); exact HO276.out))) (below_size (by repeat (first | (with_reducible first | exact HB.out | apply qL | apply qJ | apply qK | refine qI ?_ GE252.out) | exact HB.out)))); have n4_ := qH (qD (g := gb252) (by (with_reducible repeat first | apply qA | apply qC | apply qB); exact BK252.out) hb); have n5_ := qH (below_step (by repeat (first | (with_reducible first | exact HB.out | apply qL | apply qJ | apply qK | refine qI ?_ GE252.out) | exact HB.out)) hb); clear HO_5; clear HO272; clear HO276; clear BK252; clear HB; have HO_5 := n0_; have HO272 := n1_; have HO276 := n2_; have HO279 := n3_; have BK252 := n4_; have HB := n5_; clear n0_ n1_ n2_ n3_ n4_ n5_; clear hb ho113; obtain ⟨Ao114, co114, eo114⟩ := Kd.R_slice HO279.out; subst eo114) | ((with_reducible refine gate_callee (f := 9) rfl ?_); refine goesL_ (some 93) rfl rfl Try.func9 (by kernel_rfl) rfl #[.slice Ao106 t255.length co106, .slice Ao114 y277.length co114] rfl (by (try simp only [zX, zY, zZ]); first | done | rfl | (simp only [zD, zE]; rfl)) ?_; (with_reducible refine (graph_Order.calls _ _ t255 _ _ y277 t280 t281 _ ?side1 ?side2 ?side3 ?side4 A38.out).mono ?_); (case side1 => repeat (first | exact (Kd.V_reads' HO_5.out).2.2 | (with_reducible refine Kd.C_alloc ?_ _) | (with_reducible refine Kd.C_drewN ?_ _) | (with_reducible refine Kd.C_drew ?_))); (case side2 => exact (Kd.V_reads' HO_5.out).2.1); (case side3 => repeat (first | exact (Kd.R_reads' HO279.out).2.2 | (with_reducible refine Kd.C_alloc ?_ _) | (with_reducible refine Kd.C_drewN ?_ _) | (with_reducible refine Kd.C_drew ?_))); (case side4 => exact (Kd.R_reads' HO279.out).2.1); rintro e w115 ⟨v282, rfl, ho0, hb⟩; refine ⟨_, rfl, ?_⟩; have n0_ := qH (Kd.V_elder' (by (with_reducible repeat first | apply zVa | apply zVb | apply zVc); exact HO_5.out) (Kd.R_base ho0) hb); have n1_ := qH (Kd.R_elder' (by (with_reducible repeat first | apply zRa | apply zRb | apply zRc); exact HO272.out) (Kd.R_base ho0) hb); have n2_ := qH (Kd.R_elder' (by (with_reducible repeat first | apply zRa | apply zRb | apply zRc); exact HO276.out) (Kd.R_base ho0) hb); have n3_ := qH (Kd.R_elder' (by (with_reducible repeat first | apply zRa | apply zRb | apply zRc); exact HO279.out) (Kd.R_base ho0) hb); have n4_ := qH (Kd.R_lower (Kd.R_new' (Kd.R_new' (Kd.R_new' ho0 (Kd.R_lt (by (with_reducible repeat first | apply zRa | apply zRb | apply zRc); exact HO272.out))) (Kd.R_lt (by (with_reducible repeat first | apply zRa | apply zRb | apply zRc); exact HO276.out))) (Kd.R_lt (by (with_reducible repeat first | apply zRa | apply zRb | apply zRc); exact HO279.out))) (below_size (by repeat (first | (with_reducible first | exact HB.out | apply qL | apply qJ | apply qK | refine qI ?_ GE252.out) | exact HB.out)))); have n5_ := qH (qD (g := gb252) (by (with_reducible repeat first | apply qA | apply qC | apply qB); exact BK252.out) hb); have n6_ := qH (below_step (by repeat (first | (with_reducible first | exact HB.out | apply qL | apply qJ | apply qK | refine qI ?_ GE252.out) | exact HB.out)) hb); clear HO_5; clear HO272; clear HO276; clear HO279; clear BK252; clear HB; have HO_5 := n0_; have HO272 := n1_; have HO276 := n2_; have HO279 := n3_; have HO283 := n4_; have BK252 := n5_; have HB := n6_; clear n0_ n1_ n2_ n3_ n4_ n5_ n6_; (try clear hb); (try clear hb2); (try clear hk); (try clear hi); (try clear ho0); obtain ⟨hcz116_0, hcz116_1, hcz116_2⟩ := qc3 BK252.out; obtain ⟨hfz116_0, hfz116_1, hfz116_2⟩ := qf3 BK252.out) | ((with_reducible refine gate_callee (f := 21) rfl ?_); refine goesL_ (some 100) rfl rfl Try.func21 (by kernel_rfl) rfl #[.slice Ao106 t255.length co106, .agg #[.string a1_0, .int .i64 a1_1]] rfl (by (try simp only [zX, zY, zZ]); first | done | rfl | (simp only [zD, zE]; rfl)) ?_; (with_reducible refine (graph_Drop.calls (fun k_ => ((((k_ ≠ gb252 ∧ some k_ ≠ (v271 : Value).ownBlock) ∧ some k_ ≠ (v275 : Value).ownBlock) ∧ some k_ ≠ (.slice Ao114 y277.length co114 : Value).ownBlock) ∧ some k_ ≠ (v282 : Value).ownBlock)) _ _ t255 a1_0 a1_1 t284 t287 _ ?side1 A39.out).mono ?_); (case side1 => exact HO_5.out); rintro e w117 ⟨v285, rfl, ho0, hb⟩; refine ⟨_, rfl, ?_⟩; have n0_ := qH (Kd.V_below (by (with_reducible repeat first | apply zVa | apply zVb | apply zVc); exact HO_5.out) hb); have n1_ := qH (Kd.R_below (by (with_reducible repeat first | apply zRa | apply zRb | apply zRc); exact HO272.out) hb); have n2_ := qH (Kd.R_below (by (with_reducible repeat first | apply zRa | apply zRb | apply zRc); exact HO276.out) hb); have n3_ := qH (Kd.R_below (by (with_reducible repeat first | apply zRa | apply zRb | apply zRc); exact HO279.out) hb); have n4_ := qH (Kd.R_below (by (with_reducible repeat first | apply zRa | apply zRb | apply zRc); exact HO283.out) hb); have n5_ := qH (Kd.V_lower (Kd.V_mono (ok' := fun k_ => some k_ ≠ (v271 : Value).ownBlock ∧ some k_ ≠ (v275 : Value).ownBlock ∧ some k_ ≠ (.slice Ao114 y277.length co114 : Value).ownBlock ∧ some k_ ≠ (v282 : Value).ownBlock ∧ k_ ≠ gb252) ho0 (fun k_ hk_ => ⟨Or.elim hk_ (fun hs_ => hs_.1.1.1.2) (fun hn_ => (Kd.fresh' (Kd.R_lt (by (with_reducible repeat first | apply zRa | apply zRb | apply zRc); exact HO272.out)) k_ hn_)), Or.elim hk_ (fun hs_ => hs_.1.1.2) (fun hn_ => (Kd.fresh' (Kd.R_lt (by (with_reducible repeat first | apply zRa | apply zRb | apply zRc); exact HO276.out)) k_ hn_)), Or.elim hk_ (fun hs_ => hs_.1.2) (fun hn_ => (Kd.fresh' (Kd.R_lt (by (with_reducible repeat first | apply zRa | apply zRb | apply zRc); exact HO279.out)) k_ hn_)), Or.elim hk_ (fun hs_ => hs_.2) (fun hn_ => (Kd.fresh' (Kd.R_lt (by (with_reducible repeat first | apply zRa | apply zRb | apply zRc); exact HO283.out)) k_ hn_)), Or.elim hk_ (fun hs_ => hs_.1.1.1.1) (fun hn_ => (Kd.freshB (g := gb252) (by (with_reducible repeat first | apply qA | apply qC | apply qB); exact BK252.out) k_ hn_))⟩)) (below_size (by repeat (first | (with_reducible first | exact HB.out | apply qL | apply qJ | apply qK | refine qI ?_ GE252.out) | exact HB.out)))); have n6_ := qH (qD (g := gb252) (by (with_reducible repeat first | apply qA | apply qC | apply qB); exact BK252.out) hb); have n7_ := qH (below_step (by repeat (first | (with_reducible first | exact HB.out | apply qL | apply qJ | apply qK | refine qI ?_ GE252.out) | exact HB.out)) hb); clear HO_5; clear HO272; clear HO276; clear HO279; clear HO283; clear BK252; clear HB; have HO_5 := n0_; have HO272 := n1_; have HO276 := n2_; have HO279 := n3_; have HO283 := n4_; have HO286 := n5_; have BK252 := n6_; have HB := n7_; clear n0_ n1_ n2_ n3_ n4_ n5_ n6_ n7_; (try clear hb); (try clear hb2); (try clear hk); (try clear hi); (try clear ho0); obtain ⟨Ao118, co118, eo118⟩ := Kd.R_slice HO272.out; subst eo118; obtain ⟨Ao119, co119, eo119⟩ := Kd.R_slice HO276.out; subst eo119) | (go_at_call 15; (with_reducible refine (codicilref19_Nodes.calls k2 _ _ t269 _ _ t273 true _ ?side1 ?side2 ?side3 ?side4 A43.out).mono ?_); (case side1 => repeat (first | exact (Kd.R_reads' HO272.out).2.2 | (with_reducible refine Kd.C_alloc ?_ _) | (with_reducible refine Kd.C_drewN ?_ _) | (with_reducible refine Kd.C_drew ?_))); (case side2 => exact (Kd.R_reads' HO272.out).2.1); (case side3 => repeat (first | exact (Kd.R_reads' HO276.out).2.2 | (with_reducible refine Kd.C_alloc ?_ _) | (with_reducible refine Kd.C_drewN ?_ _) | (with_reducible refine Kd.C_drew ?_))); (case side4 => exact (Kd.R_reads' HO276.out).2.1); rintro e w' ⟨rfl, ⟨nd, rfl⟩⟩; obtain ⟨Ao120, co120, eo120⟩ := Kd.R_slice HO283.out; subst eo120; have q121 : ((ji46) : Int) ≤ ((t280.length : Int) : Int) := of_decide_eq_true (by first | (with_reducible assumption) | assumption); obtain ⟨i0121, hi0121, _, hsz121, _⟩ := info_parts info24; have hroom121 : t280.length ≤ co120 := (Kd.R_reads' HO283.out).2.1; have hC121 : Kd.C k24 _ Ao120 t280.length t280 := (Kd.R_reads' HO283.out).2.2; have hcut121 := cut_to (P := Try.prog) 25 24 .i64 Try.underlying25 hi0121 Ao120 t280.length co120 (ji46) (of_decide_eq_true (by first | (with_reducible assumption) | assumption)) q121 hroom121; have hr121 := Kd.C_take (m := ((ji46) : Int).toNat) hC121 (by omega); have hy121 : y289.length = ((ji46) : Int).toNat := (by rw [Ny289.out, List.length_take]; omega); rw [← Ny289.out] at hr121; rw [← hy121] at hcut121; have HR292 := qH hr121; have HC292 := qH (show y289.length ≤ co120 from by omega); clear hr121 hC121 hroom121 hi0121 hsz121; have KY121 := qH hy121; clear hy121; have KL121 := qH (show ((ji46) : Int).toNat ≤ t280.length from by omega); replace q121 := eq_true q121) | (go_at_call 15; (with_reducible refine (codicilref19_Nodes.calls k2 _ _ y289 _ _ t269 false _ ?side1 ?side2 ?side3 ?side4 A49.out).mono ?_); (case side1 => repeat (first | exact (by repeat (first | (with_reducible exact HR292.out) | (with_reducible refine Kd.C_alloc ?_ _) | (with_reducible refine Kd.C_drewN ?_ _) | (with_reducible refine Kd.C_drew ?_) | exact HR292.out)) | (with_reducible refine Kd.C_alloc ?_ _) | (with_reducible refine Kd.C_drewN ?_ _) | (with_reducible refine Kd.C_drew ?_))); (case side2 => exact HC292.out); (case side3 => repeat (first | exact (Kd.R_reads' HO272.out).2.2 | (with_reducible refine Kd.C_alloc ?_ _) | (with_reducible refine Kd.C_drewN ?_ _) | (with_reducible refine Kd.C_drew ?_))); (case side4 => exact (Kd.R_reads' HO272.out).2.1); rintro e w' ⟨rfl, ⟨nd, rfl⟩⟩))
                go_ret
                exact ⟨by first | rfl | (simp [errW_none, errW_some] <;> rfl) | (simp only [← hji46]; first | rfl | (simp [errW_none, errW_some] <;> rfl)) | (simp [*, errW_none, errW_some] <;> rfl), by repeat (first | (with_reducible first | exact HB.out | apply qL | apply qJ | apply qK | refine qI ?_ GE252.out) | exact HB.out)⟩
              ·rw [if_neg c48] at H
               exact absurd H (by simp)
             ·rw [if_neg c47] at H
              exact absurd H (by simp)
            ·rw [if_neg c45] at H
             have c45b0 : ((t280.length : Int) == (wrap64 ((t269.length : Int) + 1))) = false := beq_eq_false_iff_ne.mpr c45
             have c45b1 : ((t280.length : Int) != (wrap64 ((t269.length : Int) + 1))) = true := bne_iff_ne.mpr c45
             obtain rfl := Option.some.inj H
             simp only [Option.some.injEq, Prod.mk.injEq] at H
             obtain ⟨rfl⟩ := H
             obtain ⟨Ao122, co122, eo122⟩ := Kd.V_slice HO_5.out
             subst eo122
             have hcz123_0 : wr.cell? ⟨gb252, 0, none⟩ = some (.string a1_0) := (qE BK252.out 0).trans rfl
             have hcz123_1 : wr.cell? ⟨gb252, 1, none⟩ = some (.int .i64 a1_1) := (qE BK252.out 1).trans rfl
             have hcz123_2 : wr.cell? ⟨gb252, 2, none⟩ = some (.slice A1_2 l1_2.length c1_2) := (qE BK252.out 2).trans rfl
             have hfz123_0 := qF BK252.out 0
             have hfz123_1 := qF BK252.out 1
             have hfz123_2 := qF BK252.out 2
             go_wp2_with (first | ((with_reducible refine gate_callee (f := 9) rfl ?_); refine goesL_ (some 78) rfl rfl Try.func9 (by kernel_rfl) rfl #[.slice A0 l0.length c0, .slice A1_2 l1_2.length c1_2] rfl (by (try simp only [zX, zY, zZ]); first | done | rfl | (simp only [zD, zE]; rfl)) ?_; (with_reducible refine (graph_Order.calls _ _ l0 _ _ l1_2 t269 t270 _ ?side1 ?side2 ?side3 ?side4 A36.out).mono ?_); (case side1 => repeat (first | exact (Kd.C_below HR0.out HB.out) | (with_reducible refine Kd.C_alloc ?_ _) | (with_reducible refine Kd.C_drewN ?_ _) | (with_reducible refine Kd.C_drew ?_))); (case side2 => exact HC0.out); (case side3 => repeat (first | exact (Kd.C_below HR1_2.out HB.out) | (with_reducible refine Kd.C_alloc ?_ _) | (with_reducible refine Kd.C_drewN ?_ _) | (with_reducible refine Kd.C_drew ?_))); (case side4 => exact HC1_2.out); rintro e w124 ⟨v271, rfl, ho0, hb⟩; refine ⟨_, rfl, ?_⟩; have n0_ := qH (Kd.V_elder' (by (with_reducible repeat first | apply zVa | apply zVb | apply zVc); exact HO_5.out) (Kd.R_base ho0) hb); have n1_ := qH (Kd.R_lower ho0 (below_size (by repeat (first | (with_reducible first | exact HB.out | apply qL | apply qJ | apply qK | refine qI ?_ GE252.out) | exact HB.out)))); have n2_ := qH (qD (g := gb252) (by (with_reducible repeat first | apply qA | apply qC | apply qB); exact BK252.out) hb); have n3_ := qH (below_step (by repeat (first | (with_reducible first | exact HB.out | apply qL | apply qJ | apply qK | refine qI ?_ GE252.out) | exact HB.out)) hb); clear HO_5; clear BK252; clear HB; have HO_5 := n0_; have HO272 := n1_; have BK252 := n2_; have HB := n3_; clear n0_ n1_ n2_ n3_; (try clear hb); (try clear hb2); (try clear hk); (try clear hi); (try clear ho0); obtain ⟨hcz125_0, hcz125_1, hcz125_2⟩ := qc3 BK252.out; obtain ⟨hfz125_0, hfz125_1, hfz125_2⟩ := qf3 BK252.out) | ((with_reducible refine gate_callee (f := 9) rfl ?_); refine goesL_ (some 85) rfl rfl Try.func9 (by kernel_rfl) rfl #[.slice Ao122 t255.length co122, .slice A1_2 l1_2.length c1_2] rfl (by (try simp only [zX, zY, zZ]); first | done | rfl | (simp only [zD, zE]; rfl)) ?_; (with_reducible refine (graph_Order.calls _ _ t255 _ _ l1_2 t273 t274 _ ?side1 ?side2 ?side3 ?side4 A37.out).mono ?_); (case side1 => repeat (first | exact (Kd.V_reads' HO_5.out).2.2 | (with_reducible refine Kd.C_alloc ?_ _) | (with_reducible refine Kd.C_drewN ?_ _) | (with_reducible refine Kd.C_drew ?_))); (case side2 => exact (Kd.V_reads' HO_5.out).2.1); (case side3 => repeat (first | exact (Kd.C_below HR1_2.out HB.out) | (with_reducible refine Kd.C_alloc ?_ _) | (with_reducible refine Kd.C_drewN ?_ _) | (with_reducible refine Kd.C_drew ?_))); (case side4 => exact HC1_2.out); rintro e w126 ⟨v275, rfl, ho0, hb⟩; refine ⟨_, rfl, ?_⟩; have n0_ := qH (Kd.V_elder' (by (with_reducible repeat first | apply zVa | apply zVb | apply zVc); exact HO_5.out) (Kd.R_base ho0) hb); have n1_ := qH (Kd.R_elder' (by (with_reducible repeat first | apply zRa | apply zRb | apply zRc); exact HO272.out) (Kd.R_base ho0) hb); have n2_ := qH (Kd.R_lower (Kd.R_new' ho0 (Kd.R_lt (by (with_reducible repeat first | apply zRa | apply zRb | apply zRc); exact HO272.out))) (below_size (by repeat (first | (with_reducible first | exact HB.out | apply qL | apply qJ | apply qK | refine qI ?_ GE252.out) | exact HB.out)))); have n3_ := qH (qD (g := gb252) (by (with_reducible repeat first | apply qA | apply qC | apply qB); exact BK252.out) hb); have n4_ := qH (below_step (by repeat (first | (with_reducible first | exact HB.out | apply qL | apply qJ | apply qK | refine qI ?_ GE252.out) | exact HB.out)) hb); clear HO_5; clear HO272; clear BK252; clear HB; have HO_5 := n0_; have HO272 := n1_; have HO276 := n2_; have BK252 := n3_; have HB := n4_; clear n0_ n1_ n2_ n3_ n4_; (try clear hb); (try clear hb2); (try clear hk); (try clear hi); (try clear ho0); obtain ⟨hcz127_0, hcz127_1, hcz127_2⟩ := qc3 BK252.out; obtain ⟨hfz127_0, hfz127_1, hfz127_2⟩ := qf3 BK252.out) | ((with_reducible refine gate_dst (N := 92) rfl ?_); (try (refine gate_guard (by rfl) ?_; dsimp only)); refine Kd.R_lit k24 _ 24 ?hg (N := 92) ?hd (xs := ([(⟨a1_0, a1_1⟩ : S24)] : List (S24))) (inner := [.string a1_0, .int .i64 a1_1]) (ok := fun _ => True) (okp := fun _ => True) ?hr ?hp (fun _ hk => hk) trivial (Below.refl _ _) (Nat.le_refl _) (by simp) ?_; (case hd => rfl); (case hg => rfl); (case hr => first | (go_simp; done) | (go_simp; rfl) | (go_simp; simp [IntKind.wrap_u32]; done)); (case hp => exact (Reps.c2 (show Kd.M k24 _ _ _ (⟨a1_0, a1_1⟩ : S24) [.string a1_0, .int .i64 a1_1] from (k24_mkM _ _ _ (⟨a1_0, a1_1⟩ : S24) )) (Reps.none _ _))); intro v278 w128 ho129 hb hg_ hnew_; clear hg_ hnew_; (first | rw [← Ny277.out] at ho129 | (simp only [Int.reduceToNat] at ho129; rw [← Ny277.out] at ho129)); have n0_ := qH (Kd.V_elder' (by (with_reducible repeat first | apply zVa | apply zVb | apply zVc); exact HO_5.out) (Kd.R_base ho129) hb); have n1_ := qH (Kd.R_elder' (by (with_reducible repeat first | apply zRa | apply zRb | apply zRc); exact HO272.out) (Kd.R_base ho129) hb); have n2_ := qH (Kd.R_elder' (by (with_reducible repeat first | apply zRa | apply zRb | apply zRc); exact HO276.out) (Kd.R_base ho129) hb); have n3_ := qH (Kd.R_lower (Kd.R_new' (Kd.R_new' ho129 (Kd.R_lt (by (with_reducible repeat first | apply zRa | apply zRb | apply zRc); exact HO272.out))) (Kd.R_lt (by (with_reducible repeat first | apply zRa | apply zRb | apply zRc); exact HO276.out))) (below_size (by repeat (first | (with_reducible first | exact HB.out | apply qL | apply qJ | apply qK | refine qI ?_ GE252.out) | exact HB.out)))); have n4_ := qH (qD (g := gb252) (by (with_reducible repeat first | apply qA | apply qC | apply qB); exact BK252.out) hb); have n5_ := qH (below_step (by repeat (first | (with_reducible first | exact HB.out | apply qL | apply qJ | apply qK | refine qI ?_ GE252.out) | exact HB.out)) hb); clear HO_5; clear HO272; clear HO276; clear BK252; clear HB; have HO_5 := n0_; have HO272 := n1_; have HO276 := n2_; have HO279 := n3_; have BK252 := n4_; have HB := n5_; clear n0_ n1_ n2_ n3_ n4_ n5_; clear hb ho129; obtain ⟨Ao130, co130, eo130⟩ := Kd.R_slice HO279.out; subst eo130) | ((with_reducible refine gate_callee (f := 9) rfl ?_); refine goesL_ (some 93) rfl rfl Try.func9 (by kernel_rfl) rfl #[.slice Ao122 t255.length co122, .slice Ao130 y277.length co130] rfl (by (try simp only [zX, zY, zZ]); first | done | rfl | (simp only [zD, zE]; rfl)) ?_; (with_reducible refine (graph_Order.calls _ _ t255 _ _ y277 t280 t281 _ ?side1 ?side2 ?side3 ?side4 A38.out).mono ?_); (case side1 => repeat (first | exact (Kd.V_reads' HO_5.out).2.2 | (with_reducible refine Kd.C_alloc ?_ _) | (with_reducible refine Kd.C_drewN ?_ _) | (with_reducible refine Kd.C_drew ?_))); (case side2 => exact (Kd.V_reads' HO_5.out).2.1); (case side3 => repeat (first | exact (Kd.R_reads' HO279.out).2.2 | (with_reducible refine Kd.C_alloc ?_ _) | (with_reducible refine Kd.C_drewN ?_ _) | (with_reducible refine Kd.C_drew ?_))); (case side4 => exact (Kd.R_reads' HO279.out).2.1); rintro e w131 ⟨v282, rfl, ho0, hb⟩; refine ⟨_, rfl, ?_⟩; have n0_ := qH (Kd.V_elder' (by (with_reducible repeat first | apply zVa | apply zVb | apply zVc); exact HO_5.out) (Kd.R_base ho0) hb); have n1_ := qH (Kd.R_elder' (by (with_reducible repeat first | apply zRa | apply zRb | apply zRc); exact HO272.out) (Kd.R_base ho0) hb); have n2_ := qH (Kd.R_elder' (by (with_reducible repeat first | apply zRa | apply zRb | apply zRc); exact HO276.out) (Kd.R_base ho0) hb); have n3_ := qH (Kd.R_elder' (by (with_reducible repeat first | apply zRa | apply zRb | apply zRc); exact HO279.out) (Kd.R_base ho0) hb); have n4_ := qH (Kd.R_lower (Kd.R_new' (Kd.R_new' (Kd.R_new' ho0 (Kd.R_lt (by (with_reducible repeat first | apply zRa | apply zRb | apply zRc); exact HO272.out))) (Kd.R_lt (by (with_reducible repeat first | apply zRa | apply zRb | apply zRc); exact HO276.out))) (Kd.R_lt (by (with_reducible repeat first | apply zRa | apply zRb | apply zRc); exact HO279.out))) (below_size (by repeat (first | (with_reducible first | exact HB.out | apply qL | apply qJ | apply qK | refine qI ?_ GE252.out) | exact HB.out)))); have n5_ := qH (qD (g := gb252) (by (with_reducible repeat first | apply qA | apply qC | apply qB); exact BK252.out) hb); have n6_ := qH (below_step (by repeat (first | (with_reducible first | exact HB.out | apply qL | apply qJ | apply qK | refine qI ?_ GE252.out) | exact HB.out)) hb); clear HO_5; clear HO272; clear HO276; clear HO279; clear BK252; clear HB; have HO_5 := n0_; have HO272 := n1_; have HO276 := n2_; have HO279 := n3_; have HO283 := n4_; have BK252 := n5_; have HB := n6_; clear n0_ n1_ n2_ n3_ n4_ n5_ n6_; (try clear hb); (try clear hb2); (try clear hk); (try clear hi); (try clear ho0); obtain ⟨hcz132_0, hcz132_1, hcz132_2⟩ := qc3 BK252.out; obtain ⟨hfz132_0, hfz132_1, hfz132_2⟩ := qf3 BK252.out) | ((with_reducible refine gate_callee (f := 21) rfl ?_); refine goesL_ (some 100) rfl rfl Try.func21 (by kernel_rfl) rfl #[.slice Ao122 t255.length co122, .agg #[.string a1_0, .int .i64 a1_1]] rfl (by (try simp only [zX, zY, zZ]); first | done | rfl | (simp only [zD, zE]; rfl)) ?_; (with_reducible refine (graph_Drop.calls (fun k_ => ((((k_ ≠ gb252 ∧ some k_ ≠ (v271 : Value).ownBlock) ∧ some k_ ≠ (v275 : Value).ownBlock) ∧ some k_ ≠ (.slice Ao130 y277.length co130 : Value).ownBlock) ∧ some k_ ≠ (v282 : Value).ownBlock)) _ _ t255 a1_0 a1_1 t284 t287 _ ?side1 A39.out).mono ?_); (case side1 => exact HO_5.out); rintro e w133 ⟨v285, rfl, ho0, hb⟩; refine ⟨_, rfl, ?_⟩; have n0_ := qH (Kd.V_below (by (with_reducible repeat first | apply zVa | apply zVb | apply zVc); exact HO_5.out) hb); have n1_ := qH (Kd.R_below (by (with_reducible repeat first | apply zRa | apply zRb | apply zRc); exact HO272.out) hb); have n2_ := qH (Kd.R_below (by (with_reducible repeat first | apply zRa | apply zRb | apply zRc); exact HO276.out) hb); have n3_ := qH (Kd.R_below (by (with_reducible repeat first | apply zRa | apply zRb | apply zRc); exact HO279.out) hb); have n4_ := qH (Kd.R_below (by (with_reducible repeat first | apply zRa | apply zRb | apply zRc); exact HO283.out) hb); have n5_ := qH (Kd.V_lower (Kd.V_mono (ok' := fun k_ => some k_ ≠ (v271 : Value).ownBlock ∧ some k_ ≠ (v275 : Value).ownBlock ∧ some k_ ≠ (.slice Ao130 y277.length co130 : Value).ownBlock ∧ some k_ ≠ (v282 : Value).ownBlock ∧ k_ ≠ gb252) ho0 (fun k_ hk_ => ⟨Or.elim hk_ (fun hs_ => hs_.1.1.1.2) (fun hn_ => (Kd.fresh' (Kd.R_lt (by (with_reducible repeat first | apply zRa | apply zRb | apply zRc); exact HO272.out)) k_ hn_)), Or.elim hk_ (fun hs_ => hs_.1.1.2) (fun hn_ => (Kd.fresh' (Kd.R_lt (by (with_reducible repeat first | apply zRa | apply zRb | apply zRc); exact HO276.out)) k_ hn_)), Or.elim hk_ (fun hs_ => hs_.1.2) (fun hn_ => (Kd.fresh' (Kd.R_lt (by (with_reducible repeat first | apply zRa | apply zRb | apply zRc); exact HO279.out)) k_ hn_)), Or.elim hk_ (fun hs_ => hs_.2) (fun hn_ => (Kd.fresh' (Kd.R_lt (by (with_reducible repeat first | apply zRa | apply zRb | apply zRc); exact HO283.out)) k_ hn_)), Or.elim hk_ (fun hs_ => hs_.1.1.1.1) (fun hn_ => (Kd.freshB (g := gb252) (by (with_reducible repeat first | apply qA | apply qC | apply qB); exact BK252.out) k_ hn_))⟩)) (below_size (by repeat (first | (with_reducible first | exact HB.out | apply qL | apply qJ | apply qK | refine qI ?_ GE252.out) | exact HB.out)))); have n6_ := qH (qD (g := gb252) (by (with_reducible repeat first | apply qA | apply qC | apply qB); exact BK252.out) hb); have n7_ := qH (below_step (by repeat (first | (with_reducible first | exact HB.out | apply qL | apply qJ | apply qK | refine qI ?_ GE252.out) | exact HB.out)) hb); clear HO_5; clear HO272; clear HO276; clear HO279; clear HO283; clear BK252; clear HB; have HO_5 := n0_; have HO272 := n1_; have HO276 := n2_; have HO279 := n3_; have HO283 := n4_; have HO286 := n5_; have BK252 := n6_; have HB := n7_; clear n0_ n1_ n2_ n3_ n4_ n5_ n6_ n7_; (try clear hb); (try clear hb2); (try clear hk); (try clear hi); (try clear ho0); obtain ⟨Ao134, co134, eo134⟩ := Kd.R_slice HO272.out; subst eo134; obtain ⟨Ao135, co135, eo135⟩ := Kd.R_slice HO276.out; subst eo135) | (go_at_call 15; (with_reducible refine (codicilref19_Nodes.calls k2 _ _ t269 _ _ t273 true _ ?side1 ?side2 ?side3 ?side4 A43.out).mono ?_); (case side1 => repeat (first | exact (Kd.R_reads' HO272.out).2.2 | (with_reducible refine Kd.C_alloc ?_ _) | (with_reducible refine Kd.C_drewN ?_ _) | (with_reducible refine Kd.C_drew ?_))); (case side2 => exact (Kd.R_reads' HO272.out).2.1); (case side3 => repeat (first | exact (Kd.R_reads' HO276.out).2.2 | (with_reducible refine Kd.C_alloc ?_ _) | (with_reducible refine Kd.C_drewN ?_ _) | (with_reducible refine Kd.C_drew ?_))); (case side4 => exact (Kd.R_reads' HO276.out).2.1); rintro e w' ⟨rfl, ⟨nd, rfl⟩⟩; obtain ⟨Ao136, co136, eo136⟩ := Kd.R_slice HO283.out; subst eo136))
             go_ret
             exact ⟨by first | rfl | (simp [errW_none, errW_some] <;> rfl) | (simp [*, errW_none, errW_some] <;> rfl), by repeat (first | (with_reducible first | exact HB.out | apply qL | apply qJ | apply qK | refine qI ?_ GE252.out) | exact HB.out)⟩
           ·replace c44 := Bool.eq_false_iff.mpr c44
            subst c44
            have H1 : (some false) = some r := by rw [if_neg (show ¬ (false = true) by decide)] at H; exact H
            clear H
            have H := H1
            clear H1
            obtain rfl := Option.some.inj H
            simp only [Option.some.injEq, Prod.mk.injEq] at H
            obtain ⟨rfl⟩ := H
            obtain ⟨Ao137, co137, eo137⟩ := Kd.V_slice HO_5.out
            subst eo137
            have hcz138_0 : wr.cell? ⟨gb252, 0, none⟩ = some (.string a1_0) := (qE BK252.out 0).trans rfl
            have hcz138_1 : wr.cell? ⟨gb252, 1, none⟩ = some (.int .i64 a1_1) := (qE BK252.out 1).trans rfl
            have hcz138_2 : wr.cell? ⟨gb252, 2, none⟩ = some (.slice A1_2 l1_2.length c1_2) := (qE BK252.out 2).trans rfl
            have hfz138_0 := qF BK252.out 0
            have hfz138_1 := qF BK252.out 1
            have hfz138_2 := qF BK252.out 2
            go_wp2_with (first | ((with_reducible refine gate_callee (f := 9) rfl ?_); refine goesL_ (some 78) rfl rfl Try.func9 (by kernel_rfl) rfl #[.slice A0 l0.length c0, .slice A1_2 l1_2.length c1_2] rfl (by (try simp only [zX, zY, zZ]); first | done | rfl | (simp only [zD, zE]; rfl)) ?_; (with_reducible refine (graph_Order.calls _ _ l0 _ _ l1_2 t269 t270 _ ?side1 ?side2 ?side3 ?side4 A36.out).mono ?_); (case side1 => repeat (first | exact (Kd.C_below HR0.out HB.out) | (with_reducible refine Kd.C_alloc ?_ _) | (with_reducible refine Kd.C_drewN ?_ _) | (with_reducible refine Kd.C_drew ?_))); (case side2 => exact HC0.out); (case side3 => repeat (first | exact (Kd.C_below HR1_2.out HB.out) | (with_reducible refine Kd.C_alloc ?_ _) | (with_reducible refine Kd.C_drewN ?_ _) | (with_reducible refine Kd.C_drew ?_))); (case side4 => exact HC1_2.out); rintro e w139 ⟨v271, rfl, ho0, hb⟩; refine ⟨_, rfl, ?_⟩; have n0_ := qH (Kd.V_elder' (by (with_reducible repeat first | apply zVa | apply zVb | apply zVc); exact HO_5.out) (Kd.R_base ho0) hb); have n1_ := qH (Kd.R_lower ho0 (below_size (by repeat (first | (with_reducible first | exact HB.out | apply qL | apply qJ | apply qK | refine qI ?_ GE252.out) | exact HB.out)))); have n2_ := qH (qD (g := gb252) (by (with_reducible repeat first | apply qA | apply qC | apply qB); exact BK252.out) hb); have n3_ := qH (below_step (by repeat (first | (with_reducible first | exact HB.out | apply qL | apply qJ | apply qK | refine qI ?_ GE252.out) | exact HB.out)) hb); clear HO_5; clear BK252; clear HB; have HO_5 := n0_; have HO272 := n1_; have BK252 := n2_; have HB := n3_; clear n0_ n1_ n2_ n3_; (try clear hb); (try clear hb2); (try clear hk); (try clear hi); (try clear ho0); obtain ⟨hcz140_0, hcz140_1, hcz140_2⟩ := qc3 BK252.out; obtain ⟨hfz140_0, hfz140_1, hfz140_2⟩ := qf3 BK252.out) | ((with_reducible refine gate_callee (f := 9) rfl ?_); refine goesL_ (some 85) rfl rfl Try.func9 (by kernel_rfl) rfl #[.slice Ao137 t255.length co137, .slice A1_2 l1_2.length c1_2] rfl (by (try simp only [zX, zY, zZ]); first | done | rfl | (simp only [zD, zE]; rfl)) ?_; (with_reducible refine (graph_Order.calls _ _ t255 _ _ l1_2 t273 t274 _ ?side1 ?side2 ?side3 ?side4 A37.out).mono ?_); (case side1 => repeat (first | exact (Kd.V_reads' HO_5.out).2.2 | (with_reducible refine Kd.C_alloc ?_ _) | (with_reducible refine Kd.C_drewN ?_ _) | (with_reducible refine Kd.C_drew ?_))); (case side2 => exact (Kd.V_reads' HO_5.out).2.1); (case side3 => repeat (first | exact (Kd.C_below HR1_2.out HB.out) | (with_reducible refine Kd.C_alloc ?_ _) | (with_reducible refine Kd.C_drewN ?_ _) | (with_reducible refine Kd.C_drew ?_))); (case side4 => exact HC1_2.out); rintro e w141 ⟨v275, rfl, ho0, hb⟩; refine ⟨_, rfl, ?_⟩; have n0_ := qH (Kd.V_elder' (by (with_reducible repeat first | apply zVa | apply zVb | apply zVc); exact HO_5.out) (Kd.R_base ho0) hb); have n1_ := qH (Kd.R_elder' (by (with_reducible repeat first | apply zRa | apply zRb | apply zRc); exact HO272.out) (Kd.R_base ho0) hb); have n2_ := qH (Kd.R_lower (Kd.R_new' ho0 (Kd.R_lt (by (with_reducible repeat first | apply zRa | apply zRb | apply zRc); exact HO272.out))) (below_size (by repeat (first | (with_reducible first | exact HB.out | apply qL | apply qJ | apply qK | refine qI ?_ GE252.out) | exact HB.out)))); have n3_ := qH (qD (g := gb252) (by (with_reducible repeat first | apply qA | apply qC | apply qB); exact BK252.out) hb); have n4_ := qH (below_step (by repeat (first | (with_reducible first | exact HB.out | apply qL | apply qJ | apply qK | refine qI ?_ GE252.out) | exact HB.out)) hb); clear HO_5; clear HO272; clear BK252; clear HB; have HO_5 := n0_; have HO272 := n1_; have HO276 := n2_; have BK252 := n3_; have HB := n4_; clear n0_ n1_ n2_ n3_ n4_; (try clear hb); (try clear hb2); (try clear hk); (try clear hi); (try clear ho0); obtain ⟨hcz142_0, hcz142_1, hcz142_2⟩ := qc3 BK252.out; obtain ⟨hfz142_0, hfz142_1, hfz142_2⟩ := qf3 BK252.out) | ((with_reducible refine gate_dst (N := 92) rfl ?_); (try (refine gate_guard (by rfl) ?_; dsimp only)); refine Kd.R_lit k24 _ 24 ?hg (N := 92) ?hd (xs := ([(⟨a1_0, a1_1⟩ : S24)] : List (S24))) (inner := [.string a1_0, .int .i64 a1_1]) (ok := fun _ => True) (okp := fun _ => True) ?hr ?hp (fun _ hk => hk) trivial (Below.refl _ _) (Nat.le_refl _) (by simp) ?_; (case hd => rfl); (case hg => rfl); (case hr => first | (go_simp; done) | (go_simp; rfl) | (go_simp; simp [IntKind.wrap_u32]; done)); (case hp => exact (Reps.c2 (show Kd.M k24 _ _ _ (⟨a1_0, a1_1⟩ : S24) [.string a1_0, .int .i64 a1_1] from (k24_mkM _ _ _ (⟨a1_0, a1_1⟩ : S24) )) (Reps.none _ _))); intro v278 w143 ho144 hb hg_ hnew_; clear hg_ hnew_; (first | rw [← Ny277.out] at ho144 | (simp only [Int.reduceToNat] at ho144; rw [← Ny277.out] at ho144)); have n0_ := qH (Kd.V_elder' (by (with_reducible repeat first | apply zVa | apply zVb | apply zVc); exact HO_5.out) (Kd.R_base ho144) hb); have n1_ := qH (Kd.R_elder' (by (with_reducible repeat first | apply zRa | apply zRb | apply zRc); exact HO272.out) (Kd.R_base ho144) hb); have n2_ := qH (Kd.R_elder' (by (with_reducible repeat first | apply zRa | apply zRb | apply zRc); exact HO276.out) (Kd.R_base ho144) hb); have n3_ := qH (Kd.R_lower (Kd.R_new' (Kd.R_new' ho144 (Kd.R_lt (by (with_reducible repeat first | apply zRa | apply zRb | apply zRc); exact HO272.out))) (Kd.R_lt (by (with_reducible repeat first | apply zRa | apply zRb | apply zRc); exact HO276.out))) (below_size (by repeat (first | (with_reducible first | exact HB.out | apply qL | apply qJ | apply qK | refine qI ?_ GE252.out) | exact HB.out)))); have n4_ := qH (qD (g := gb252) (by (with_reducible repeat first | apply qA | apply qC | apply qB); exact BK252.out) hb); have n5_ := qH (below_step (by repeat (first | (with_reducible first | exact HB.out | apply qL | apply qJ | apply qK | refine qI ?_ GE252.out) | exact HB.out)) hb); clear HO_5; clear HO272; clear HO276; clear BK252; clear HB; have HO_5 := n0_; have HO272 := n1_; have HO276 := n2_; have HO279 := n3_; have BK252 := n4_; have HB := n5_; clear n0_ n1_ n2_ n3_ n4_ n5_; clear hb ho144; obtain ⟨Ao145, co145, eo145⟩ := Kd.R_slice HO279.out; subst eo145) | ((with_reducible refine gate_callee (f := 9) rfl ?_); refine goesL_ (some 93) rfl rfl Try.func9 (by kernel_rfl) rfl #[.slice Ao137 t255.length co137, .slice Ao145 y277.length co145] rfl (by (try simp only [zX, zY, zZ]); first | done | rfl | (simp only [zD, zE]; rfl)) ?_; (with_reducible refine (graph_Order.calls _ _ t255 _ _ y277 t280 t281 _ ?side1 ?side2 ?side3 ?side4 A38.out).mono ?_); (case side1 => repeat (first | exact (Kd.V_reads' HO_5.out).2.2 | (with_reducible refine Kd.C_alloc ?_ _) | (with_reducible refine Kd.C_drewN ?_ _) | (with_reducible refine Kd.C_drew ?_))); (case side2 => exact (Kd.V_reads' HO_5.out).2.1); (case side3 => repeat (first | exact (Kd.R_reads' HO279.out).2.2 | (with_reducible refine Kd.C_alloc ?_ _) | (with_reducible refine Kd.C_drewN ?_ _) | (with_reducible refine Kd.C_drew ?_))); (case side4 => exact (Kd.R_reads' HO279.out).2.1); rintro e w146 ⟨v282, rfl, ho0, hb⟩; refine ⟨_, rfl, ?_⟩; have n0_ := qH (Kd.V_elder' (by (with_reducible repeat first | apply zVa | apply zVb | apply zVc); exact HO_5.out) (Kd.R_base ho0) hb); have n1_ := qH (Kd.R_elder' (by (with_reducible repeat first | apply zRa | apply zRb | apply zRc); exact HO272.out) (Kd.R_base ho0) hb); have n2_ := qH (Kd.R_elder' (by (with_reducible repeat first | apply zRa | apply zRb | apply zRc); exact HO276.out) (Kd.R_base ho0) hb); have n3_ := qH (Kd.R_elder' (by (with_reducible repeat first | apply zRa | apply zRb | apply zRc); exact HO279.out) (Kd.R_base ho0) hb); have n4_ := qH (Kd.R_lower (Kd.R_new' (Kd.R_new' (Kd.R_new' ho0 (Kd.R_lt (by (with_reducible repeat first | apply zRa | apply zRb | apply zRc); exact HO272.out))) (Kd.R_lt (by (with_reducible repeat first | apply zRa | apply zRb | apply zRc); exact HO276.out))) (Kd.R_lt (by (with_reducible repeat first | apply zRa | apply zRb | apply zRc); exact HO279.out))) (below_size (by repeat (first | (with_reducible first | exact HB.out | apply qL | apply qJ | apply qK | refine qI ?_ GE252.out) | exact HB.out)))); have n5_ := qH (qD (g := gb252) (by (with_reducible repeat first | apply qA | apply qC | apply qB); exact BK252.out) hb); have n6_ := qH (below_step (by repeat (first | (with_reducible first | exact HB.out | apply qL | apply qJ | apply qK | refine qI ?_ GE252.out) | exact HB.out)) hb); clear HO_5; clear HO272; clear HO276; clear HO279; clear BK252; clear HB; have HO_5 := n0_; have HO272 := n1_; have HO276 := n2_; have HO279 := n3_; have HO283 := n4_; have BK252 := n5_; have HB := n6_; clear n0_ n1_ n2_ n3_ n4_ n5_ n6_; (try clear hb); (try clear hb2); (try clear hk); (try clear hi); (try clear ho0); obtain ⟨hcz147_0, hcz147_1, hcz147_2⟩ := qc3 BK252.out; obtain ⟨hfz147_0, hfz147_1, hfz147_2⟩ := qf3 BK252.out) | ((with_reducible refine gate_callee (f := 21) rfl ?_); refine goesL_ (some 100) rfl rfl Try.func21 (by kernel_rfl) rfl #[.slice Ao137 t255.length co137, .agg #[.string a1_0, .int .i64 a1_1]] rfl (by (try simp only [zX, zY, zZ]); first | done | rfl | (simp only [zD, zE]; rfl)) ?_; (with_reducible refine (graph_Drop.calls (fun k_ => ((((k_ ≠ gb252 ∧ some k_ ≠ (v271 : Value).ownBlock) ∧ some k_ ≠ (v275 : Value).ownBlock) ∧ some k_ ≠ (.slice Ao145 y277.length co145 : Value).ownBlock) ∧ some k_ ≠ (v282 : Value).ownBlock)) _ _ t255 a1_0 a1_1 t284 t287 _ ?side1 A39.out).mono ?_); (case side1 => exact HO_5.out); rintro e w148 ⟨v285, rfl, ho0, hb⟩; refine ⟨_, rfl, ?_⟩; have n0_ := qH (Kd.V_below (by (with_reducible repeat first | apply zVa | apply zVb | apply zVc); exact HO_5.out) hb); have n1_ := qH (Kd.R_below (by (with_reducible repeat first | apply zRa | apply zRb | apply zRc); exact HO272.out) hb); have n2_ := qH (Kd.R_below (by (with_reducible repeat first | apply zRa | apply zRb | apply zRc); exact HO276.out) hb); have n3_ := qH (Kd.R_below (by (with_reducible repeat first | apply zRa | apply zRb | apply zRc); exact HO279.out) hb); have n4_ := qH (Kd.R_below (by (with_reducible repeat first | apply zRa | apply zRb | apply zRc); exact HO283.out) hb); have n5_ := qH (Kd.V_lower (Kd.V_mono (ok' := fun k_ => some k_ ≠ (v271 : Value).ownBlock ∧ some k_ ≠ (v275 : Value).ownBlock ∧ some k_ ≠ (.slice Ao145 y277.length co145 : Value).ownBlock ∧ some k_ ≠ (v282 : Value).ownBlock ∧ k_ ≠ gb252) ho0 (fun k_ hk_ => ⟨Or.elim hk_ (fun hs_ => hs_.1.1.1.2) (fun hn_ => (Kd.fresh' (Kd.R_lt (by (with_reducible repeat first | apply zRa | apply zRb | apply zRc); exact HO272.out)) k_ hn_)), Or.elim hk_ (fun hs_ => hs_.1.1.2) (fun hn_ => (Kd.fresh' (Kd.R_lt (by (with_reducible repeat first | apply zRa | apply zRb | apply zRc); exact HO276.out)) k_ hn_)), Or.elim hk_ (fun hs_ => hs_.1.2) (fun hn_ => (Kd.fresh' (Kd.R_lt (by (with_reducible repeat first | apply zRa | apply zRb | apply zRc); exact HO279.out)) k_ hn_)), Or.elim hk_ (fun hs_ => hs_.2) (fun hn_ => (Kd.fresh' (Kd.R_lt (by (with_reducible repeat first | apply zRa | apply zRb | apply zRc); exact HO283.out)) k_ hn_)), Or.elim hk_ (fun hs_ => hs_.1.1.1.1) (fun hn_ => (Kd.freshB (g := gb252) (by (with_reducible repeat first | apply qA | apply qC | apply qB); exact BK252.out) k_ hn_))⟩)) (below_size (by repeat (first | (with_reducible first | exact HB.out | apply qL | apply qJ | apply qK | refine qI ?_ GE252.out) | exact HB.out)))); have n6_ := qH (qD (g := gb252) (by (with_reducible repeat first | apply qA | apply qC | apply qB); exact BK252.out) hb); have n7_ := qH (below_step (by repeat (first | (with_reducible first | exact HB.out | apply qL | apply qJ | apply qK | refine qI ?_ GE252.out) | exact HB.out)) hb); clear HO_5; clear HO272; clear HO276; clear HO279; clear HO283; clear BK252; clear HB; have HO_5 := n0_; have HO272 := n1_; have HO276 := n2_; have HO279 := n3_; have HO283 := n4_; have HO286 := n5_; have BK252 := n6_; have HB := n7_; clear n0_ n1_ n2_ n3_ n4_ n5_ n6_ n7_; (try clear hb); (try clear hb2); (try clear hk); (try clear hi); (try clear ho0); obtain ⟨Ao149, co149, eo149⟩ := Kd.R_slice HO272.out; subst eo149; obtain ⟨Ao150, co150, eo150⟩ := Kd.R_slice HO276.out; subst eo150) | (go_at_call 15; (with_reducible refine (codicilref19_Nodes.calls k2 _ _ t269 _ _ t273 false _ ?side1 ?side2 ?side3 ?side4 A43.out).mono ?_); (case side1 => repeat (first | exact (Kd.R_reads' HO272.out).2.2 | (with_reducible refine Kd.C_alloc ?_ _) | (with_reducible refine Kd.C_drewN ?_ _) | (with_reducible refine Kd.C_drew ?_))); (case side2 => exact (Kd.R_reads' HO272.out).2.1); (case side3 => repeat (first | exact (Kd.R_reads' HO276.out).2.2 | (with_reducible refine Kd.C_alloc ?_ _) | (with_reducible refine Kd.C_drewN ?_ _) | (with_reducible refine Kd.C_drew ?_))); (case side4 => exact (Kd.R_reads' HO276.out).2.1); rintro e w' ⟨rfl, ⟨nd, rfl⟩⟩))
            go_ret
            exact ⟨by first | rfl | (simp [errW_none, errW_some] <;> rfl) | (simp [*, errW_none, errW_some] <;> rfl), by repeat (first | (with_reducible first | exact HB.out | apply qL | apply qJ | apply qK | refine qI ?_ GE252.out) | exact HB.out)⟩
          ·rw [if_neg c42] at H
           have c42b0 : (t281 == 0) = false := beq_eq_false_iff_ne.mpr c42
           have c42b1 : (t281 != 0) = true := bne_iff_ne.mpr c42
           obtain rfl := Option.some.inj H
           simp only [Option.some.injEq, Prod.mk.injEq] at H
           obtain ⟨rfl⟩ := H
           obtain ⟨Ao151, co151, eo151⟩ := Kd.V_slice HO_5.out
           subst eo151
           have hcz152_0 : wr.cell? ⟨gb252, 0, none⟩ = some (.string a1_0) := (qE BK252.out 0).trans rfl
           have hcz152_1 : wr.cell? ⟨gb252, 1, none⟩ = some (.int .i64 a1_1) := (qE BK252.out 1).trans rfl
           have hcz152_2 : wr.cell? ⟨gb252, 2, none⟩ = some (.slice A1_2 l1_2.length c1_2) := (qE BK252.out 2).trans rfl
           have hfz152_0 := qF BK252.out 0
           have hfz152_1 := qF BK252.out 1
           have hfz152_2 := qF BK252.out 2
           go_wp2_with (first | ((with_reducible refine gate_callee (f := 9) rfl ?_); refine goesL_ (some 78) rfl rfl Try.func9 (by kernel_rfl) rfl #[.slice A0 l0.length c0, .slice A1_2 l1_2.length c1_2] rfl (by (try simp only [zX, zY, zZ]); first | done | rfl | (simp only [zD, zE]; rfl)) ?_; (with_reducible refine (graph_Order.calls _ _ l0 _ _ l1_2 t269 t270 _ ?side1 ?side2 ?side3 ?side4 A36.out).mono ?_); (case side1 => repeat (first | exact (Kd.C_below HR0.out HB.out) | (with_reducible refine Kd.C_alloc ?_ _) | (with_reducible refine Kd.C_drewN ?_ _) | (with_reducible refine Kd.C_drew ?_))); (case side2 => exact HC0.out); (case side3 => repeat (first | exact (Kd.C_below HR1_2.out HB.out) | (with_reducible refine Kd.C_alloc ?_ _) | (with_reducible refine Kd.C_drewN ?_ _) | (with_reducible refine Kd.C_drew ?_))); (case side4 => exact HC1_2.out); rintro e w153 ⟨v271, rfl, ho0, hb⟩; refine ⟨_, rfl, ?_⟩; have n0_ := qH (Kd.V_elder' (by (with_reducible repeat first | apply zVa | apply zVb | apply zVc); exact HO_5.out) (Kd.R_base ho0) hb); have n1_ := qH (Kd.R_lower ho0 (below_size (by repeat (first | (with_reducible first | exact HB.out | apply qL | apply qJ | apply qK | refine qI ?_ GE252.out) | exact HB.out)))); have n2_ := qH (qD (g := gb252) (by (with_reducible repeat first | apply qA | apply qC | apply qB); exact BK252.out) hb); have n3_ := qH (below_step (by repeat (first | (with_reducible first | exact HB.out | apply qL | apply qJ | apply qK | refine qI ?_ GE252.out) | exact HB.out)) hb); clear HO_5; clear BK252; clear HB; have HO_5 := n0_; have HO272 := n1_; have BK252 := n2_; have HB := n3_; clear n0_ n1_ n2_ n3_; (try clear hb); (try clear hb2); (try clear hk); (try clear hi); (try clear ho0); obtain ⟨hcz154_0, hcz154_1, hcz154_2⟩ := qc3 BK252.out; obtain ⟨hfz154_0, hfz154_1, hfz154_2⟩ := qf3 BK252.out) | ((with_reducible refine gate_callee (f := 9) rfl ?_); refine goesL_ (some 85) rfl rfl Try.func9 (by kernel_rfl) rfl #[.slice Ao151 t255.length co151, .slice A1_2 l1_2.length c1_2] rfl (by (try simp only [zX, zY, zZ]); first | done | rfl | (simp only [zD, zE]; rfl)) ?_; (with_reducible refine (graph_Order.calls _ _ t255 _ _ l1_2 t273 t274 _ ?side1 ?side2 ?side3 ?side4 A37.out).mono ?_); (case side1 => repeat (first | exact (Kd.V_reads' HO_5.out).2.2 | (with_reducible refine Kd.C_alloc ?_ _) | (with_reducible refine Kd.C_drewN ?_ _) | (with_reducible refine Kd.C_drew ?_))); (case side2 => exact (Kd.V_reads' HO_5.out).2.1); (case side3 => repeat (first | exact (Kd.C_below HR1_2.out HB.out) | (with_reducible refine Kd.C_alloc ?_ _) | (with_reducible refine Kd.C_drewN ?_ _) | (with_reducible refine Kd.C_drew ?_))); (case side4 => exact HC1_2.out); rintro e w155 ⟨v275, rfl, ho0, hb⟩; refine ⟨_, rfl, ?_⟩; have n0_ := qH (Kd.V_elder' (by (with_reducible repeat first | apply zVa | apply zVb | apply zVc); exact HO_5.out) (Kd.R_base ho0) hb); have n1_ := qH (Kd.R_elder' (by (with_reducible repeat first | apply zRa | apply zRb | apply zRc); exact HO272.out) (Kd.R_base ho0) hb); have n2_ := qH (Kd.R_lower (Kd.R_new' ho0 (Kd.R_lt (by (with_reducible repeat first | apply zRa | apply zRb | apply zRc); exact HO272.out))) (below_size (by repeat (first | (with_reducible first | exact HB.out | apply qL | apply qJ | apply qK | refine qI ?_ GE252.out) | exact HB.out)))); have n3_ := qH (qD (g := gb252) (by (with_reducible repeat first | apply qA | apply qC | apply qB); exact BK252.out) hb); have n4_ := qH (below_step (by repeat (first | (with_reducible first | exact HB.out | apply qL | apply qJ | apply qK | refine qI ?_ GE252.out) | exact HB.out)) hb); clear HO_5; clear HO272; clear BK252; clear HB; have HO_5 := n0_; have HO272 := n1_; have HO276 := n2_; have BK252 := n3_; have HB := n4_; clear n0_ n1_ n2_ n3_ n4_; (try clear hb); (try clear hb2); (try clear hk); (try clear hi); (try clear ho0); obtain ⟨hcz156_0, hcz156_1, hcz156_2⟩ := qc3 BK252.out; obtain ⟨hfz156_0, hfz156_1, hfz156_2⟩ := qf3 BK252.out) | ((with_reducible refine gate_dst (N := 92) rfl ?_); (try (refine gate_guard (by rfl) ?_; dsimp only)); refine Kd.R_lit k24 _ 24 ?hg (N := 92) ?hd (xs := ([(⟨a1_0, a1_1⟩ : S24)] : List (S24))) (inner := [.string a1_0, .int .i64 a1_1]) (ok := fun _ => True) (okp := fun _ => True) ?hr ?hp (fun _ hk => hk) trivial (Below.refl _ _) (Nat.le_refl _) (by simp) ?_; (case hd => rfl); (case hg => rfl); (case hr => first | (go_simp; done) | (go_simp; rfl) | (go_simp; simp [IntKind.wrap_u32]; done)); (case hp => exact (Reps.c2 (show Kd.M k24 _ _ _ (⟨a1_0, a1_1⟩ : S24) [.string a1_0, .int .i64 a1_1] from (k24_mkM _ _ _ (⟨a1_0, a1_1⟩ : S24) )) (Reps.none _ _))); intro v278 w157 ho158 hb hg_ hnew_; clear hg_ hnew_; (first | rw [← Ny277.out] at ho158 | (simp only [Int.reduceToNat] at ho158; rw [← Ny277.out] at ho158)); have n0_ := qH (Kd.V_elder' (by (with_reducible repeat first | apply zVa | apply zVb | apply zVc); exact HO_5.out) (Kd.R_base ho158) hb); have n1_ := qH (Kd.R_elder' (by (with_reducible repeat first | apply zRa | apply zRb | apply zRc); exact HO272.out) (Kd.R_base ho158) hb); have n2_ := qH (Kd.R_elder' (by (with_reducible repeat first | apply zRa | apply zRb | apply zRc); exact HO276.out) (Kd.R_base ho158) hb); have n3_ := qH (Kd.R_lower (Kd.R_new' (Kd.R_new' ho158 (Kd.R_lt (by (with_reducible repeat first | apply zRa | apply zRb | apply zRc); exact HO272.out))) (Kd.R_lt (by (with_reducible repeat first | apply zRa | apply zRb | apply zRc); exact HO276.out))) (below_size (by repeat (first | (with_reducible first | exact HB.out | apply qL | apply qJ | apply qK | refine qI ?_ GE252.out) | exact HB.out)))); have n4_ := qH (qD (g := gb252) (by (with_reducible repeat first | apply qA | apply qC | apply qB); exact BK252.out) hb); have n5_ := qH (below_step (by repeat (first | (with_reducible first | exact HB.out | apply qL | apply qJ | apply qK | refine qI ?_ GE252.out) | exact HB.out)) hb); clear HO_5; clear HO272; clear HO276; clear BK252; clear HB; have HO_5 := n0_; have HO272 := n1_; have HO276 := n2_; have HO279 := n3_; have BK252 := n4_; have HB := n5_; clear n0_ n1_ n2_ n3_ n4_ n5_; clear hb ho158; obtain ⟨Ao159, co159, eo159⟩ := Kd.R_slice HO279.out; subst eo159) | ((with_reducible refine gate_callee (f := 9) rfl ?_); refine goesL_ (some 93) rfl rfl Try.func9 (by kernel_rfl) rfl #[.slice Ao151 t255.length co151, .slice Ao159 y277.length co159] rfl (by (try simp only [zX, zY, zZ]); first | done | rfl | (simp only [zD, zE]; rfl)) ?_; (with_reducible refine (graph_Order.calls _ _ t255 _ _ y277 t280 t281 _ ?side1 ?side2 ?side3 ?side4 A38.out).mono ?_); (case side1 => repeat (first | exact (Kd.V_reads' HO_5.out).2.2 | (with_reducible refine Kd.C_alloc ?_ _) | (with_reducible refine Kd.C_drewN ?_ _) | (with_reducible refine Kd.C_drew ?_))); (case side2 => exact (Kd.V_reads' HO_5.out).2.1); (case side3 => repeat (first | exact (Kd.R_reads' HO279.out).2.2 | (with_reducible refine Kd.C_alloc ?_ _) | (with_reducible refine Kd.C_drewN ?_ _) | (with_reducible refine Kd.C_drew ?_))); (case side4 => exact (Kd.R_reads' HO279.out).2.1); rintro e w160 ⟨v282, rfl, ho0, hb⟩; refine ⟨_, rfl, ?_⟩; have n0_ := qH (Kd.V_elder' (by (with_reducible repeat first | apply zVa | apply zVb | apply zVc); exact HO_5.out) (Kd.R_base ho0) hb); have n1_ := qH (Kd.R_elder' (by (with_reducible repeat first | apply zRa | apply zRb | apply zRc); exact HO272.out) (Kd.R_base ho0) hb); have n2_ := qH (Kd.R_elder' (by (with_reducible repeat first | apply zRa | apply zRb | apply zRc); exact HO276.out) (Kd.R_base ho0) hb); have n3_ := qH (Kd.R_elder' (by (with_reducible repeat first | apply zRa | apply zRb | apply zRc); exact HO279.out) (Kd.R_base ho0) hb); have n4_ := qH (Kd.R_lower (Kd.R_new' (Kd.R_new' (Kd.R_new' ho0 (Kd.R_lt (by (with_reducible repeat first | apply zRa | apply zRb | apply zRc); exact HO272.out))) (Kd.R_lt (by (with_reducible repeat first | apply zRa | apply zRb | apply zRc); exact HO276.out))) (Kd.R_lt (by (with_reducible repeat first | apply zRa | apply zRb | apply zRc); exact HO279.out))) (below_size (by repeat (first | (with_reducible first | exact HB.out | apply qL | apply qJ | apply qK | refine qI ?_ GE252.out) | exact HB.out)))); have n5_ := qH (qD (g := gb252) (by (with_reducible repeat first | apply qA | apply qC | apply qB); exact BK252.out) hb); have n6_ := qH (below_step (by repeat (first | (with_reducible first | exact HB.out | apply qL | apply qJ | apply qK | refine qI ?_ GE252.out) | exact HB.out)) hb); clear HO_5; clear HO272; clear HO276; clear HO279; clear BK252; clear HB; have HO_5 := n0_; have HO272 := n1_; have HO276 := n2_; have HO279 := n3_; have HO283 := n4_; have BK252 := n5_; have HB := n6_; clear n0_ n1_ n2_ n3_ n4_ n5_ n6_; (try clear hb); (try clear hb2); (try clear hk); (try clear hi); (try clear ho0); obtain ⟨hcz161_0, hcz161_1, hcz161_2⟩ := qc3 BK252.out; obtain ⟨hfz161_0, hfz161_1, hfz161_2⟩ := qf3 BK252.out) | ((with_reducible refine gate_callee (f := 21) rfl ?_); refine goesL_ (some 100) rfl rfl Try.func21 (by kernel_rfl) rfl #[.slice Ao151 t255.length co151, .agg #[.string a1_0, .int .i64 a1_1]] rfl (by (try simp only [zX, zY, zZ]); first | done | rfl | (simp only [zD, zE]; rfl)) ?_; (with_reducible refine (graph_Drop.calls (fun k_ => ((((k_ ≠ gb252 ∧ some k_ ≠ (v271 : Value).ownBlock) ∧ some k_ ≠ (v275 : Value).ownBlock) ∧ some k_ ≠ (.slice Ao159 y277.length co159 : Value).ownBlock) ∧ some k_ ≠ (v282 : Value).ownBlock)) _ _ t255 a1_0 a1_1 t284 t287 _ ?side1 A39.out).mono ?_); (case side1 => exact HO_5.out); rintro e w162 ⟨v285, rfl, ho0, hb⟩; refine ⟨_, rfl, ?_⟩; have n0_ := qH (Kd.V_below (by (with_reducible repeat first | apply zVa | apply zVb | apply zVc); exact HO_5.out) hb); have n1_ := qH (Kd.R_below (by (with_reducible repeat first | apply zRa | apply zRb | apply zRc); exact HO272.out) hb); have n2_ := qH (Kd.R_below (by (with_reducible repeat first | apply zRa | apply zRb | apply zRc); exact HO276.out) hb); have n3_ := qH (Kd.R_below (by (with_reducible repeat first | apply zRa | apply zRb | apply zRc); exact HO279.out) hb); have n4_ := qH (Kd.R_below (by (with_reducible repeat first | apply zRa | apply zRb | apply zRc); exact HO283.out) hb); have n5_ := qH (Kd.V_lower (Kd.V_mono (ok' := fun k_ => some k_ ≠ (v271 : Value).ownBlock ∧ some k_ ≠ (v275 : Value).ownBlock ∧ some k_ ≠ (.slice Ao159 y277.length co159 : Value).ownBlock ∧ some k_ ≠ (v282 : Value).ownBlock ∧ k_ ≠ gb252) ho0 (fun k_ hk_ => ⟨Or.elim hk_ (fun hs_ => hs_.1.1.1.2) (fun hn_ => (Kd.fresh' (Kd.R_lt (by (with_reducible repeat first | apply zRa | apply zRb | apply zRc); exact HO272.out)) k_ hn_)), Or.elim hk_ (fun hs_ => hs_.1.1.2) (fun hn_ => (Kd.fresh' (Kd.R_lt (by (with_reducible repeat first | apply zRa | apply zRb | apply zRc); exact HO276.out)) k_ hn_)), Or.elim hk_ (fun hs_ => hs_.1.2) (fun hn_ => (Kd.fresh' (Kd.R_lt (by (with_reducible repeat first | apply zRa | apply zRb | apply zRc); exact HO279.out)) k_ hn_)), Or.elim hk_ (fun hs_ => hs_.2) (fun hn_ => (Kd.fresh' (Kd.R_lt (by (with_reducible repeat first | apply zRa | apply zRb | apply zRc); exact HO283.out)) k_ hn_)), Or.elim hk_ (fun hs_ => hs_.1.1.1.1) (fun hn_ => (Kd.freshB (g := gb252) (by (with_reducible repeat first | apply qA | apply qC | apply qB); exact BK252.out) k_ hn_))⟩)) (below_size (by repeat (first | (with_reducible first | exact HB.out | apply qL | apply qJ | apply qK | refine qI ?_ GE252.out) | exact HB.out)))); have n6_ := qH (qD (g := gb252) (by (with_reducible repeat first | apply qA | apply qC | apply qB); exact BK252.out) hb); have n7_ := qH (below_step (by repeat (first | (with_reducible first | exact HB.out | apply qL | apply qJ | apply qK | refine qI ?_ GE252.out) | exact HB.out)) hb); clear HO_5; clear HO272; clear HO276; clear HO279; clear HO283; clear BK252; clear HB; have HO_5 := n0_; have HO272 := n1_; have HO276 := n2_; have HO279 := n3_; have HO283 := n4_; have HO286 := n5_; have BK252 := n6_; have HB := n7_; clear n0_ n1_ n2_ n3_ n4_ n5_ n6_ n7_; (try clear hb); (try clear hb2); (try clear hk); (try clear hi); (try clear ho0)))
           go_ret
           exact ⟨by first | rfl | (simp [errW_none, errW_some] <;> rfl) | (simp [*, errW_none, errW_some] <;> rfl), by repeat (first | (with_reducible first | exact HB.out | apply qL | apply qJ | apply qK | refine qI ?_ GE252.out) | exact HB.out)⟩
         ·rw [if_neg c41] at H
          have c41b0 : (t274 == 0) = false := beq_eq_false_iff_ne.mpr c41
          have c41b1 : (t274 != 0) = true := bne_iff_ne.mpr c41
          obtain rfl := Option.some.inj H
          simp only [Option.some.injEq, Prod.mk.injEq] at H
          obtain ⟨rfl⟩ := H
          obtain ⟨Ao163, co163, eo163⟩ := Kd.V_slice HO_5.out
          subst eo163
          have hcz164_0 : wr.cell? ⟨gb252, 0, none⟩ = some (.string a1_0) := (qE BK252.out 0).trans rfl
          have hcz164_1 : wr.cell? ⟨gb252, 1, none⟩ = some (.int .i64 a1_1) := (qE BK252.out 1).trans rfl
          have hcz164_2 : wr.cell? ⟨gb252, 2, none⟩ = some (.slice A1_2 l1_2.length c1_2) := (qE BK252.out 2).trans rfl
          have hfz164_0 := qF BK252.out 0
          have hfz164_1 := qF BK252.out 1
          have hfz164_2 := qF BK252.out 2
          go_wp2_with (first | ((with_reducible refine gate_callee (f := 9) rfl ?_); refine goesL_ (some 78) rfl rfl Try.func9 (by kernel_rfl) rfl #[.slice A0 l0.length c0, .slice A1_2 l1_2.length c1_2] rfl (by (try simp only [zX, zY, zZ]); first | done | rfl | (simp only [zD, zE]; rfl)) ?_; (with_reducible refine (graph_Order.calls _ _ l0 _ _ l1_2 t269 t270 _ ?side1 ?side2 ?side3 ?side4 A36.out).mono ?_); (case side1 => repeat (first | exact (Kd.C_below HR0.out HB.out) | (with_reducible refine Kd.C_alloc ?_ _) | (with_reducible refine Kd.C_drewN ?_ _) | (with_reducible refine Kd.C_drew ?_))); (case side2 => exact HC0.out); (case side3 => repeat (first | exact (Kd.C_below HR1_2.out HB.out) | (with_reducible refine Kd.C_alloc ?_ _) | (with_reducible refine Kd.C_drewN ?_ _) | (with_reducible refine Kd.C_drew ?_))); (case side4 => exact HC1_2.out); rintro e w165 ⟨v271, rfl, ho0, hb⟩; refine ⟨_, rfl, ?_⟩; have n0_ := qH (Kd.V_elder' (by (with_reducible repeat first | apply zVa | apply zVb | apply zVc); exact HO_5.out) (Kd.R_base ho0) hb); have n1_ := qH (Kd.R_lower ho0 (below_size (by repeat (first | (with_reducible first | exact HB.out | apply qL | apply qJ | apply qK | refine qI ?_ GE252.out) | exact HB.out)))); have n2_ := qH (qD (g := gb252) (by (with_reducible repeat first | apply qA | apply qC | apply qB); exact BK252.out) hb); have n3_ := qH (below_step (by repeat (first | (with_reducible first | exact HB.out | apply qL | apply qJ | apply qK | refine qI ?_ GE252.out) | exact HB.out)) hb); clear HO_5; clear BK252; clear HB; have HO_5 := n0_; have HO272 := n1_; have BK252 := n2_; have HB := n3_; clear n0_ n1_ n2_ n3_; (try clear hb); (try clear hb2); (try clear hk); (try clear hi); (try clear ho0); obtain ⟨hcz166_0, hcz166_1, hcz166_2⟩ := qc3 BK252.out; obtain ⟨hfz166_0, hfz166_1, hfz166_2⟩ := qf3 BK252.out) | ((with_reducible refine gate_callee (f := 9) rfl ?_); refine goesL_ (some 85) rfl rfl Try.func9 (by kernel_rfl) rfl #[.slice Ao163 t255.length co163, .slice A1_2 l1_2.length c1_2] rfl (by (try simp only [zX, zY, zZ]); first | done | rfl | (simp only [zD, zE]; rfl)) ?_; (with_reducible refine (graph_Order.calls _ _ t255 _ _ l1_2 t273 t274 _ ?side1 ?side2 ?side3 ?side4 A37.out).mono ?_); (case side1 => repeat (first | exact (Kd.V_reads' HO_5.out).2.2 | (with_reducible refine Kd.C_alloc ?_ _) | (with_reducible refine Kd.C_drewN ?_ _) | (with_reducible refine Kd.C_drew ?_))); (case side2 => exact (Kd.V_reads' HO_5.out).2.1); (case side3 => repeat (first | exact (Kd.C_below HR1_2.out HB.out) | (with_reducible refine Kd.C_alloc ?_ _) | (with_reducible refine Kd.C_drewN ?_ _) | (with_reducible refine Kd.C_drew ?_))); (case side4 => exact HC1_2.out); rintro e w167 ⟨v275, rfl, ho0, hb⟩; refine ⟨_, rfl, ?_⟩; have n0_ := qH (Kd.V_elder' (by (with_reducible repeat first | apply zVa | apply zVb | apply zVc); exact HO_5.out) (Kd.R_base ho0) hb); have n1_ := qH (Kd.R_elder' (by (with_reducible repeat first | apply zRa | apply zRb | apply zRc); exact HO272.out) (Kd.R_base ho0) hb); have n2_ := qH (Kd.R_lower (Kd.R_new' ho0 (Kd.R_lt (by (with_reducible repeat first | apply zRa | apply zRb | apply zRc); exact HO272.out))) (below_size (by repeat (first | (with_reducible first | exact HB.out | apply qL | apply qJ | apply qK | refine qI ?_ GE252.out) | exact HB.out)))); have n3_ := qH (qD (g := gb252) (by (with_reducible repeat first | apply qA | apply qC | apply qB); exact BK252.out) hb); have n4_ := qH (below_step (by repeat (first | (with_reducible first | exact HB.out | apply qL | apply qJ | apply qK | refine qI ?_ GE252.out) | exact HB.out)) hb); clear HO_5; clear HO272; clear BK252; clear HB; have HO_5 := n0_; have HO272 := n1_; have HO276 := n2_; have BK252 := n3_; have HB := n4_; clear n0_ n1_ n2_ n3_ n4_; (try clear hb); (try clear hb2); (try clear hk); (try clear hi); (try clear ho0); obtain ⟨hcz168_0, hcz168_1, hcz168_2⟩ := qc3 BK252.out; obtain ⟨hfz168_0, hfz168_1, hfz168_2⟩ := qf3 BK252.out) | ((with_reducible refine gate_dst (N := 92) rfl ?_); (try (refine gate_guard (by rfl) ?_; dsimp only)); refine Kd.R_lit k24 _ 24 ?hg (N := 92) ?hd (xs := ([(⟨a1_0, a1_1⟩ : S24)] : List (S24))) (inner := [.string a1_0, .int .i64 a1_1]) (ok := fun _ => True) (okp := fun _ => True) ?hr ?hp (fun _ hk => hk) trivial (Below.refl _ _) (Nat.le_refl _) (by simp) ?_; (case hd => rfl); (case hg => rfl); (case hr => first | (go_simp; done) | (go_simp; rfl) | (go_simp; simp [IntKind.wrap_u32]; done)); (case hp => exact (Reps.c2 (show Kd.M k24 _ _ _ (⟨a1_0, a1_1⟩ : S24) [.string a1_0, .int .i64 a1_1] from (k24_mkM _ _ _ (⟨a1_0, a1_1⟩ : S24) )) (Reps.none _ _))); intro v278 w169 ho170 hb hg_ hnew_; clear hg_ hnew_; (first | rw [← Ny277.out] at ho170 | (simp only [Int.reduceToNat] at ho170; rw [← Ny277.out] at ho170)); have n0_ := qH (Kd.V_elder' (by (with_reducible repeat first | apply zVa | apply zVb | apply zVc); exact HO_5.out) (Kd.R_base ho170) hb); have n1_ := qH (Kd.R_elder' (by (with_reducible repeat first | apply zRa | apply zRb | apply zRc); exact HO272.out) (Kd.R_base ho170) hb); have n2_ := qH (Kd.R_elder' (by (with_reducible repeat first | apply zRa | apply zRb | apply zRc); exact HO276.out) (Kd.R_base ho170) hb); have n3_ := qH (Kd.R_lower (Kd.R_new' (Kd.R_new' ho170 (Kd.R_lt (by (with_reducible repeat first | apply zRa | apply zRb | apply zRc); exact HO272.out))) (Kd.R_lt (by (with_reducible repeat first | apply zRa | apply zRb | apply zRc); exact HO276.out))) (below_size (by repeat (first | (with_reducible first | exact HB.out | apply qL | apply qJ | apply qK | refine qI ?_ GE252.out) | exact HB.out)))); have n4_ := qH (qD (g := gb252) (by (with_reducible repeat first | apply qA | apply qC | apply qB); exact BK252.out) hb); have n5_ := qH (below_step (by repeat (first | (with_reducible first | exact HB.out | apply qL | apply qJ | apply qK | refine qI ?_ GE252.out) | exact HB.out)) hb); clear HO_5; clear HO272; clear HO276; clear BK252; clear HB; have HO_5 := n0_; have HO272 := n1_; have HO276 := n2_; have HO279 := n3_; have BK252 := n4_; have HB := n5_; clear n0_ n1_ n2_ n3_ n4_ n5_; clear hb ho170; obtain ⟨Ao171, co171, eo171⟩ := Kd.R_slice HO279.out; subst eo171) | ((with_reducible refine gate_callee (f := 9) rfl ?_); refine goesL_ (some 93) rfl rfl Try.func9 (by kernel_rfl) rfl #[.slice Ao163 t255.length co163, .slice Ao171 y277.length co171] rfl (by (try simp only [zX, zY, zZ]); first | done | rfl | (simp only [zD, zE]; rfl)) ?_; (with_reducible refine (graph_Order.calls _ _ t255 _ _ y277 t280 t281 _ ?side1 ?side2 ?side3 ?side4 A38.out).mono ?_); (case side1 => repeat (first | exact (Kd.V_reads' HO_5.out).2.2 | (with_reducible refine Kd.C_alloc ?_ _) | (with_reducible refine Kd.C_drewN ?_ _) | (with_reducible refine Kd.C_drew ?_))); (case side2 => exact (Kd.V_reads' HO_5.out).2.1); (case side3 => repeat (first | exact (Kd.R_reads' HO279.out).2.2 | (with_reducible refine Kd.C_alloc ?_ _) | (with_reducible refine Kd.C_drewN ?_ _) | (with_reducible refine Kd.C_drew ?_))); (case side4 => exact (Kd.R_reads' HO279.out).2.1); rintro e w172 ⟨v282, rfl, ho0, hb⟩; refine ⟨_, rfl, ?_⟩; have n0_ := qH (Kd.V_elder' (by (with_reducible repeat first | apply zVa | apply zVb | apply zVc); exact HO_5.out) (Kd.R_base ho0) hb); have n1_ := qH (Kd.R_elder' (by (with_reducible repeat first | apply zRa | apply zRb | apply zRc); exact HO272.out) (Kd.R_base ho0) hb); have n2_ := qH (Kd.R_elder' (by (with_reducible repeat first | apply zRa | apply zRb | apply zRc); exact HO276.out) (Kd.R_base ho0) hb); have n3_ := qH (Kd.R_elder' (by (with_reducible repeat first | apply zRa | apply zRb | apply zRc); exact HO279.out) (Kd.R_base ho0) hb); have n4_ := qH (Kd.R_lower (Kd.R_new' (Kd.R_new' (Kd.R_new' ho0 (Kd.R_lt (by (with_reducible repeat first | apply zRa | apply zRb | apply zRc); exact HO272.out))) (Kd.R_lt (by (with_reducible repeat first | apply zRa | apply zRb | apply zRc); exact HO276.out))) (Kd.R_lt (by (with_reducible repeat first | apply zRa | apply zRb | apply zRc); exact HO279.out))) (below_size (by repeat (first | (with_reducible first | exact HB.out | apply qL | apply qJ | apply qK | refine qI ?_ GE252.out) | exact HB.out)))); have n5_ := qH (qD (g := gb252) (by (with_reducible repeat first | apply qA | apply qC | apply qB); exact BK252.out) hb); have n6_ := qH (below_step (by repeat (first | (with_reducible first | exact HB.out | apply qL | apply qJ | apply qK | refine qI ?_ GE252.out) | exact HB.out)) hb); clear HO_5; clear HO272; clear HO276; clear HO279; clear BK252; clear HB; have HO_5 := n0_; have HO272 := n1_; have HO276 := n2_; have HO279 := n3_; have HO283 := n4_; have BK252 := n5_; have HB := n6_; clear n0_ n1_ n2_ n3_ n4_ n5_ n6_; (try clear hb); (try clear hb2); (try clear hk); (try clear hi); (try clear ho0); obtain ⟨hcz173_0, hcz173_1, hcz173_2⟩ := qc3 BK252.out; obtain ⟨hfz173_0, hfz173_1, hfz173_2⟩ := qf3 BK252.out) | ((with_reducible refine gate_callee (f := 21) rfl ?_); refine goesL_ (some 100) rfl rfl Try.func21 (by kernel_rfl) rfl #[.slice Ao163 t255.length co163, .agg #[.string a1_0, .int .i64 a1_1]] rfl (by (try simp only [zX, zY, zZ]); first | done | rfl | (simp only [zD, zE]; rfl)) ?_; (with_reducible refine (graph_Drop.calls (fun k_ => ((((k_ ≠ gb252 ∧ some k_ ≠ (v271 : Value).ownBlock) ∧ some k_ ≠ (v275 : Value).ownBlock) ∧ some k_ ≠ (.slice Ao171 y277.length co171 : Value).ownBlock) ∧ some k_ ≠ (v282 : Value).ownBlock)) _ _ t255 a1_0 a1_1 t284 t287 _ ?side1 A39.out).mono ?_); (case side1 => exact HO_5.out); rintro e w174 ⟨v285, rfl, ho0, hb⟩; refine ⟨_, rfl, ?_⟩; have n0_ := qH (Kd.V_below (by (with_reducible repeat first | apply zVa | apply zVb | apply zVc); exact HO_5.out) hb); have n1_ := qH (Kd.R_below (by (with_reducible repeat first | apply zRa | apply zRb | apply zRc); exact HO272.out) hb); have n2_ := qH (Kd.R_below (by (with_reducible repeat first | apply zRa | apply zRb | apply zRc); exact HO276.out) hb); have n3_ := qH (Kd.R_below (by (with_reducible repeat first | apply zRa | apply zRb | apply zRc); exact HO279.out) hb); have n4_ := qH (Kd.R_below (by (with_reducible repeat first | apply zRa | apply zRb | apply zRc); exact HO283.out) hb); have n5_ := qH (Kd.V_lower (Kd.V_mono (ok' := fun k_ => some k_ ≠ (v271 : Value).ownBlock ∧ some k_ ≠ (v275 : Value).ownBlock ∧ some k_ ≠ (.slice Ao171 y277.length co171 : Value).ownBlock ∧ some k_ ≠ (v282 : Value).ownBlock ∧ k_ ≠ gb252) ho0 (fun k_ hk_ => ⟨Or.elim hk_ (fun hs_ => hs_.1.1.1.2) (fun hn_ => (Kd.fresh' (Kd.R_lt (by (with_reducible repeat first | apply zRa | apply zRb | apply zRc); exact HO272.out)) k_ hn_)), Or.elim hk_ (fun hs_ => hs_.1.1.2) (fun hn_ => (Kd.fresh' (Kd.R_lt (by (with_reducible repeat first | apply zRa | apply zRb | apply zRc); exact HO276.out)) k_ hn_)), Or.elim hk_ (fun hs_ => hs_.1.2) (fun hn_ => (Kd.fresh' (Kd.R_lt (by (with_reducible repeat first | apply zRa | apply zRb | apply zRc); exact HO279.out)) k_ hn_)), Or.elim hk_ (fun hs_ => hs_.2) (fun hn_ => (Kd.fresh' (Kd.R_lt (by (with_reducible repeat first | apply zRa | apply zRb | apply zRc); exact HO283.out)) k_ hn_)), Or.elim hk_ (fun hs_ => hs_.1.1.1.1) (fun hn_ => (Kd.freshB (g := gb252) (by (with_reducible repeat first | apply qA | apply qC | apply qB); exact BK252.out) k_ hn_))⟩)) (below_size (by repeat (first | (with_reducible first | exact HB.out | apply qL | apply qJ | apply qK | refine qI ?_ GE252.out) | exact HB.out)))); have n6_ := qH (qD (g := gb252) (by (with_reducible repeat first | apply qA | apply qC | apply qB); exact BK252.out) hb); have n7_ := qH (below_step (by repeat (first | (with_reducible first | exact HB.out | apply qL | apply qJ | apply qK | refine qI ?_ GE252.out) | exact HB.out)) hb); clear HO_5; clear HO272; clear HO276; clear HO279; clear HO283; clear BK252; clear HB; have HO_5 := n0_; have HO272 := n1_; have HO276 := n2_; have HO279 := n3_; have HO283 := n4_; have HO286 := n5_; have BK252 := n6_; have HB := n7_; clear n0_ n1_ n2_ n3_ n4_ n5_ n6_ n7_; (try clear hb); (try clear hb2); (try clear hk); (try clear hi); (try clear ho0)))
          go_ret
          exact ⟨by first | rfl | (simp [errW_none, errW_some] <;> rfl) | (simp [*, errW_none, errW_some] <;> rfl), by repeat (first | (with_reducible first | exact HB.out | apply qL | apply qJ | apply qK | refine qI ?_ GE252.out) | exact HB.out)⟩
        ·rw [if_neg c40] at H
         have c40b0 : (t270 == 0) = false := beq_eq_false_iff_ne.mpr c40
         have c40b1 : (t270 != 0) = true := bne_iff_ne.mpr c40
         obtain rfl := Option.some.inj H
         simp only [Option.some.injEq, Prod.mk.injEq] at H
         obtain ⟨rfl⟩ := H
         obtain ⟨Ao175, co175, eo175⟩ := Kd.V_slice HO_5.out
         subst eo175
         have hcz176_0 : wr.cell? ⟨gb252, 0, none⟩ = some (.string a1_0) := (qE BK252.out 0).trans rfl
         have hcz176_1 : wr.cell? ⟨gb252, 1, none⟩ = some (.int .i64 a1_1) := (qE BK252.out 1).trans rfl
         have hcz176_2 : wr.cell? ⟨gb252, 2, none⟩ = some (.slice A1_2 l1_2.length c1_2) := (qE BK252.out 2).trans rfl
         have hfz176_0 := qF BK252.out 0
         have hfz176_1 := qF BK252.out 1
         have hfz176_2 := qF BK252.out 2
         go_wp2_with (first | ((with_reducible refine gate_callee (f := 9) rfl ?_); refine goesL_ (some 78) rfl rfl Try.func9 (by kernel_rfl) rfl #[.slice A0 l0.length c0, .slice A1_2 l1_2.length c1_2] rfl (by (try simp only [zX, zY, zZ]); first | done | rfl | (simp only [zD, zE]; rfl)) ?_; (with_reducible refine (graph_Order.calls _ _ l0 _ _ l1_2 t269 t270 _ ?side1 ?side2 ?side3 ?side4 A36.out).mono ?_); (case side1 => repeat (first | exact (Kd.C_below HR0.out HB.out) | (with_reducible refine Kd.C_alloc ?_ _) | (with_reducible refine Kd.C_drewN ?_ _) | (with_reducible refine Kd.C_drew ?_))); (case side2 => exact HC0.out); (case side3 => repeat (first | exact (Kd.C_below HR1_2.out HB.out) | (with_reducible refine Kd.C_alloc ?_ _) | (with_reducible refine Kd.C_drewN ?_ _) | (with_reducible refine Kd.C_drew ?_))); (case side4 => exact HC1_2.out); rintro e w177 ⟨v271, rfl, ho0, hb⟩; refine ⟨_, rfl, ?_⟩; have n0_ := qH (Kd.V_elder' (by (with_reducible repeat first | apply zVa | apply zVb | apply zVc); exact HO_5.out) (Kd.R_base ho0) hb); have n1_ := qH (Kd.R_lower ho0 (below_size (by repeat (first | (with_reducible first | exact HB.out | apply qL | apply qJ | apply qK | refine qI ?_ GE252.out) | exact HB.out)))); have n2_ := qH (qD (g := gb252) (by (with_reducible repeat first | apply qA | apply qC | apply qB); exact BK252.out) hb); have n3_ := qH (below_step (by repeat (first | (with_reducible first | exact HB.out | apply qL | apply qJ | apply qK | refine qI ?_ GE252.out) | exact HB.out)) hb); clear HO_5; clear BK252; clear HB; have HO_5 := n0_; have HO272 := n1_; have BK252 := n2_; have HB := n3_; clear n0_ n1_ n2_ n3_; (try clear hb); (try clear hb2); (try clear hk); (try clear hi); (try clear ho0); obtain ⟨hcz178_0, hcz178_1, hcz178_2⟩ := qc3 BK252.out; obtain ⟨hfz178_0, hfz178_1, hfz178_2⟩ := qf3 BK252.out) | ((with_reducible refine gate_callee (f := 9) rfl ?_); refine goesL_ (some 85) rfl rfl Try.func9 (by kernel_rfl) rfl #[.slice Ao175 t255.length co175, .slice A1_2 l1_2.length c1_2] rfl (by (try simp only [zX, zY, zZ]); first | done | rfl | (simp only [zD, zE]; rfl)) ?_; (with_reducible refine (graph_Order.calls _ _ t255 _ _ l1_2 t273 t274 _ ?side1 ?side2 ?side3 ?side4 A37.out).mono ?_); (case side1 => repeat (first | exact (Kd.V_reads' HO_5.out).2.2 | (with_reducible refine Kd.C_alloc ?_ _) | (with_reducible refine Kd.C_drewN ?_ _) | (with_reducible refine Kd.C_drew ?_))); (case side2 => exact (Kd.V_reads' HO_5.out).2.1); (case side3 => repeat (first | exact (Kd.C_below HR1_2.out HB.out) | (with_reducible refine Kd.C_alloc ?_ _) | (with_reducible refine Kd.C_drewN ?_ _) | (with_reducible refine Kd.C_drew ?_))); (case side4 => exact HC1_2.out); rintro e w179 ⟨v275, rfl, ho0, hb⟩; refine ⟨_, rfl, ?_⟩; have n0_ := qH (Kd.V_elder' (by (with_reducible repeat first | apply zVa | apply zVb | apply zVc); exact HO_5.out) (Kd.R_base ho0) hb); have n1_ := qH (Kd.R_elder' (by (with_reducible repeat first | apply zRa | apply zRb | apply zRc); exact HO272.out) (Kd.R_base ho0) hb); have n2_ := qH (Kd.R_lower (Kd.R_new' ho0 (Kd.R_lt (by (with_reducible repeat first | apply zRa | apply zRb | apply zRc); exact HO272.out))) (below_size (by repeat (first | (with_reducible first | exact HB.out | apply qL | apply qJ | apply qK | refine qI ?_ GE252.out) | exact HB.out)))); have n3_ := qH (qD (g := gb252) (by (with_reducible repeat first | apply qA | apply qC | apply qB); exact BK252.out) hb); have n4_ := qH (below_step (by repeat (first | (with_reducible first | exact HB.out | apply qL | apply qJ | apply qK | refine qI ?_ GE252.out) | exact HB.out)) hb); clear HO_5; clear HO272; clear BK252; clear HB; have HO_5 := n0_; have HO272 := n1_; have HO276 := n2_; have BK252 := n3_; have HB := n4_; clear n0_ n1_ n2_ n3_ n4_; (try clear hb); (try clear hb2); (try clear hk); (try clear hi); (try clear ho0); obtain ⟨hcz180_0, hcz180_1, hcz180_2⟩ := qc3 BK252.out; obtain ⟨hfz180_0, hfz180_1, hfz180_2⟩ := qf3 BK252.out) | ((with_reducible refine gate_dst (N := 92) rfl ?_); (try (refine gate_guard (by rfl) ?_; dsimp only)); refine Kd.R_lit k24 _ 24 ?hg (N := 92) ?hd (xs := ([(⟨a1_0, a1_1⟩ : S24)] : List (S24))) (inner := [.string a1_0, .int .i64 a1_1]) (ok := fun _ => True) (okp := fun _ => True) ?hr ?hp (fun _ hk => hk) trivial (Below.refl _ _) (Nat.le_refl _) (by simp) ?_; (case hd => rfl); (case hg => rfl); (case hr => first | (go_simp; done) | (go_simp; rfl) | (go_simp; simp [IntKind.wrap_u32]; done)); (case hp => exact (Reps.c2 (show Kd.M k24 _ _ _ (⟨a1_0, a1_1⟩ : S24) [.string a1_0, .int .i64 a1_1] from (k24_mkM _ _ _ (⟨a1_0, a1_1⟩ : S24) )) (Reps.none _ _))); intro v278 w181 ho182 hb hg_ hnew_; clear hg_ hnew_; (first | rw [← Ny277.out] at ho182 | (simp only [Int.reduceToNat] at ho182; rw [← Ny277.out] at ho182)); have n0_ := qH (Kd.V_elder' (by (with_reducible repeat first | apply zVa | apply zVb | apply zVc); exact HO_5.out) (Kd.R_base ho182) hb); have n1_ := qH (Kd.R_elder' (by (with_reducible repeat first | apply zRa | apply zRb | apply zRc); exact HO272.out) (Kd.R_base ho182) hb); have n2_ := qH (Kd.R_elder' (by (with_reducible repeat first | apply zRa | apply zRb | apply zRc); exact HO276.out) (Kd.R_base ho182) hb); have n3_ := qH (Kd.R_lower (Kd.R_new' (Kd.R_new' ho182 (Kd.R_lt (by (with_reducible repeat first | apply zRa | apply zRb | apply zRc); exact HO272.out))) (Kd.R_lt (by (with_reducible repeat first | apply zRa | apply zRb | apply zRc); exact HO276.out))) (below_size (by repeat (first | (with_reducible first | exact HB.out | apply qL | apply qJ | apply qK | refine qI ?_ GE252.out) | exact HB.out)))); have n4_ := qH (qD (g := gb252) (by (with_reducible repeat first | apply qA | apply qC | apply qB); exact BK252.out) hb); have n5_ := qH (below_step (by repeat (first | (with_reducible first | exact HB.out | apply qL | apply qJ | apply qK | refine qI ?_ GE252.out) | exact HB.out)) hb); clear HO_5; clear HO272; clear HO276; clear BK252; clear HB; have HO_5 := n0_; have HO272 := n1_; have HO276 := n2_; have HO279 := n3_; have BK252 := n4_; have HB := n5_; clear n0_ n1_ n2_ n3_ n4_ n5_; clear hb ho182; obtain ⟨Ao183, co183, eo183⟩ := Kd.R_slice HO279.out; subst eo183) | ((with_reducible refine gate_callee (f := 9) rfl ?_); refine goesL_ (some 93) rfl rfl Try.func9 (by kernel_rfl) rfl #[.slice Ao175 t255.length co175, .slice Ao183 y277.length co183] rfl (by (try simp only [zX, zY, zZ]); first | done | rfl | (simp only [zD, zE]; rfl)) ?_; (with_reducible refine (graph_Order.calls _ _ t255 _ _ y277 t280 t281 _ ?side1 ?side2 ?side3 ?side4 A38.out).mono ?_); (case side1 => repeat (first | exact (Kd.V_reads' HO_5.out).2.2 | (with_reducible refine Kd.C_alloc ?_ _) | (with_reducible refine Kd.C_drewN ?_ _) | (with_reducible refine Kd.C_drew ?_))); (case side2 => exact (Kd.V_reads' HO_5.out).2.1); (case side3 => repeat (first | exact (Kd.R_reads' HO279.out).2.2 | (with_reducible refine Kd.C_alloc ?_ _) | (with_reducible refine Kd.C_drewN ?_ _) | (with_reducible refine Kd.C_drew ?_))); (case side4 => exact (Kd.R_reads' HO279.out).2.1); rintro e w184 ⟨v282, rfl, ho0, hb⟩; refine ⟨_, rfl, ?_⟩; have n0_ := qH (Kd.V_elder' (by (with_reducible repeat first | apply zVa | apply zVb | apply zVc); exact HO_5.out) (Kd.R_base ho0) hb); have n1_ := qH (Kd.R_elder' (by (with_reducible repeat first | apply zRa | apply zRb | apply zRc); exact HO272.out) (Kd.R_base ho0) hb); have n2_ := qH (Kd.R_elder' (by (with_reducible repeat first | apply zRa | apply zRb | apply zRc); exact HO276.out) (Kd.R_base ho0) hb); have n3_ := qH (Kd.R_elder' (by (with_reducible repeat first | apply zRa | apply zRb | apply zRc); exact HO279.out) (Kd.R_base ho0) hb); have n4_ := qH (Kd.R_lower (Kd.R_new' (Kd.R_new' (Kd.R_new' ho0 (Kd.R_lt (by (with_reducible repeat first | apply zRa | apply zRb | apply zRc); exact HO272.out))) (Kd.R_lt (by (with_reducible repeat first | apply zRa | apply zRb | apply zRc); exact HO276.out))) (Kd.R_lt (by (with_reducible repeat first | apply zRa | apply zRb | apply zRc); exact HO279.out))) (below_size (by repeat (first | (with_reducible first | exact HB.out | apply qL | apply qJ | apply qK | refine qI ?_ GE252.out) | exact HB.out)))); have n5_ := qH (qD (g := gb252) (by (with_reducible repeat first | apply qA | apply qC | apply qB); exact BK252.out) hb); have n6_ := qH (below_step (by repeat (first | (with_reducible first | exact HB.out | apply qL | apply qJ | apply qK | refine qI ?_ GE252.out) | exact HB.out)) hb); clear HO_5; clear HO272; clear HO276; clear HO279; clear BK252; clear HB; have HO_5 := n0_; have HO272 := n1_; have HO276 := n2_; have HO279 := n3_; have HO283 := n4_; have BK252 := n5_; have HB := n6_; clear n0_ n1_ n2_ n3_ n4_ n5_ n6_; (try clear hb); (try clear hb2); (try clear hk); (try clear hi); (try clear ho0); obtain ⟨hcz185_0, hcz185_1, hcz185_2⟩ := qc3 BK252.out; obtain ⟨hfz185_0, hfz185_1, hfz185_2⟩ := qf3 BK252.out) | ((with_reducible refine gate_callee (f := 21) rfl ?_); refine goesL_ (some 100) rfl rfl Try.func21 (by kernel_rfl) rfl #[.slice Ao175 t255.length co175, .agg #[.string a1_0, .int .i64 a1_1]] rfl (by (try simp only [zX, zY, zZ]); first | done | rfl | (simp only [zD, zE]; rfl)) ?_; (with_reducible refine (graph_Drop.calls (fun k_ => ((((k_ ≠ gb252 ∧ some k_ ≠ (v271 : Value).ownBlock) ∧ some k_ ≠ (v275 : Value).ownBlock) ∧ some k_ ≠ (.slice Ao183 y277.length co183 : Value).ownBlock) ∧ some k_ ≠ (v282 : Value).ownBlock)) _ _ t255 a1_0 a1_1 t284 t287 _ ?side1 A39.out).mono ?_); (case side1 => exact HO_5.out); rintro e w186 ⟨v285, rfl, ho0, hb⟩; refine ⟨_, rfl, ?_⟩; have n0_ := qH (Kd.V_below (by (with_reducible repeat first | apply zVa | apply zVb | apply zVc); exact HO_5.out) hb); have n1_ := qH (Kd.R_below (by (with_reducible repeat first | apply zRa | apply zRb | apply zRc); exact HO272.out) hb); have n2_ := qH (Kd.R_below (by (with_reducible repeat first | apply zRa | apply zRb | apply zRc); exact HO276.out) hb); have n3_ := qH (Kd.R_below (by (with_reducible repeat first | apply zRa | apply zRb | apply zRc); exact HO279.out) hb); have n4_ := qH (Kd.R_below (by (with_reducible repeat first | apply zRa | apply zRb | apply zRc); exact HO283.out) hb); have n5_ := qH (Kd.V_lower (Kd.V_mono (ok' := fun k_ => some k_ ≠ (v271 : Value).ownBlock ∧ some k_ ≠ (v275 : Value).ownBlock ∧ some k_ ≠ (.slice Ao183 y277.length co183 : Value).ownBlock ∧ some k_ ≠ (v282 : Value).ownBlock ∧ k_ ≠ gb252) ho0 (fun k_ hk_ => ⟨Or.elim hk_ (fun hs_ => hs_.1.1.1.2) (fun hn_ => (Kd.fresh' (Kd.R_lt (by (with_reducible repeat first | apply zRa | apply zRb | apply zRc); exact HO272.out)) k_ hn_)), Or.elim hk_ (fun hs_ => hs_.1.1.2) (fun hn_ => (Kd.fresh' (Kd.R_lt (by (with_reducible repeat first | apply zRa | apply zRb | apply zRc); exact HO276.out)) k_ hn_)), Or.elim hk_ (fun hs_ => hs_.1.2) (fun hn_ => (Kd.fresh' (Kd.R_lt (by (with_reducible repeat first | apply zRa | apply zRb | apply zRc); exact HO279.out)) k_ hn_)), Or.elim hk_ (fun hs_ => hs_.2) (fun hn_ => (Kd.fresh' (Kd.R_lt (by (with_reducible repeat first | apply zRa | apply zRb | apply zRc); exact HO283.out)) k_ hn_)), Or.elim hk_ (fun hs_ => hs_.1.1.1.1) (fun hn_ => (Kd.freshB (g := gb252) (by (with_reducible repeat first | apply qA | apply qC | apply qB); exact BK252.out) k_ hn_))⟩)) (below_size (by repeat (first | (with_reducible first | exact HB.out | apply qL | apply qJ | apply qK | refine qI ?_ GE252.out) | exact HB.out)))); have n6_ := qH (qD (g := gb252) (by (with_reducible repeat first | apply qA | apply qC | apply qB); exact BK252.out) hb); have n7_ := qH (below_step (by repeat (first | (with_reducible first | exact HB.out | apply qL | apply qJ | apply qK | refine qI ?_ GE252.out) | exact HB.out)) hb); clear HO_5; clear HO272; clear HO276; clear HO279; clear HO283; clear BK252; clear HB; have HO_5 := n0_; have HO272 := n1_; have HO276 := n2_; have HO279 := n3_; have HO283 := n4_; have HO286 := n5_; have BK252 := n6_; have HB := n7_; clear n0_ n1_ n2_ n3_ n4_ n5_ n6_ n7_; (try clear hb); (try clear hb2); (try clear hk); (try clear hi); (try clear ho0)))
         go_ret
         exact ⟨by first | rfl | (simp [errW_none, errW_some] <;> rfl) | (simp [*, errW_none, errW_some] <;> rfl), by repeat (first | (with_reducible first | exact HB.out | apply qL | apply qJ | apply qK | refine qI ?_ GE252.out) | exact HB.out)⟩
    ·rw [if_neg c12] at H
     have c12b0 : (t258 == 0) = false := beq_eq_false_iff_ne.mpr c12
     have c12b1 : (t258 != 0) = true := bne_iff_ne.mpr c12
     replace H := Option.bind_eq_some_iff.mp H
     obtain ⟨t259, A1870, H⟩ := H
     (try dsimp only at H)
     have A187 := qH A1870
     clear A1870
     obtain rfl := Option.some.inj H
     simp only [Option.some.injEq, Prod.mk.injEq] at H
     obtain ⟨rfl⟩ := H
     have hcz188_0 : wc.cell? ⟨gb252, 0, none⟩ = some (.string a1_0) := (qE BK252.out 0).trans rfl
     have hcz188_1 : wc.cell? ⟨gb252, 1, none⟩ = some (.int .i64 a1_1) := (qE BK252.out 1).trans rfl
     have hcz188_2 : wc.cell? ⟨gb252, 2, none⟩ = some (.slice A1_2 l1_2.length c1_2) := (qE BK252.out 2).trans rfl
     have hfz188_0 := qF BK252.out 0
     have hfz188_1 := qF BK252.out 1
     have hfz188_2 := qF BK252.out 2
     go_wp2_with (first | ((with_reducible refine gate_callee (f := 19) rfl ?_); refine goesL_ (some 31) rfl rfl Try.func19 (by kernel_rfl) rfl #[.slice A0 l0.length c0, .agg #[.string a1_0, .int .i64 a1_1, .slice A1_2 l1_2.length c1_2]] rfl (by (try simp only [zX, zY, zZ]); first | done | rfl | (simp only [zD, zE]; rfl)) ?_; (with_reducible refine (graph_Add.calls (fun k_ => k_ < w.heap.size) _ _ l0 a1_0 a1_1 (fun k_ => k_ < w.heap.size) _ _ l1_2 t255 t258 _ ?side1 ?side2 A11.out).mono ?_); (case side1 => exact Kd.V_mk HC0.out (Kd.F_below (Kd.C_F k40_heap HR0.out) (by repeat (first | (with_reducible first | exact HB.out | apply qL | apply qJ | apply qK | refine qI ?_ GE252.out) | exact HB.out)))); (case side2 => exact Kd.V_mk HC1_2.out (Kd.F_below (Kd.C_F k24_heap HR1_2.out) (by repeat (first | (with_reducible first | exact HB.out | apply qL | apply qJ | apply qK | refine qI ?_ GE252.out) | exact HB.out)))); rintro e w189 ⟨v256, rfl, ho0, hb⟩; refine ⟨_, rfl, ?_⟩; have n0_ := qH (Kd.V_lower (Kd.V_mono (ok' := fun k_ => k_ ≠ gb252) ho0 (fun k_ hk_ => Or.elim hk_ (fun hs_ => Or.elim hs_ (fun hs_ => fun e_ => Nat.not_le.2 hs_ (by rw [e_]; exact GW252.out)) (fun hs_ => fun e_ => Nat.not_le.2 hs_ (by rw [e_]; exact GW252.out))) (fun hn_ => (Kd.freshB (g := gb252) (by (with_reducible repeat first | apply qA | apply qC | apply qB); exact BK252.out) k_ hn_)))) (below_size (by repeat (first | (with_reducible first | exact HB.out | apply qL | apply qJ | apply qK | refine qI ?_ GE252.out) | exact HB.out)))); have n1_ := qH (qD (g := gb252) (by (with_reducible repeat first | apply qA | apply qC | apply qB); exact BK252.out) hb); have n2_ := qH (below_step (by repeat (first | (with_reducible first | exact HB.out | apply qL | apply qJ | apply qK | refine qI ?_ GE252.out) | exact HB.out)) hb); clear BK252; clear HB; have HO257 := n0_; have BK252 := n1_; have HB := n2_; clear n0_ n1_ n2_; (try clear hb); (try clear hb2); (try clear hk); (try clear hi); (try clear ho0)) | ((with_reducible refine gate_callee (f := 8) rfl ?_); refine goesL_ (some 36) rfl rfl Try.func8 (by kernel_rfl) rfl #[] rfl (by (try simp only [zX, zY, zZ]); first | done | rfl | (simp only [zD, zE]; rfl)) ?_; (with_reducible refine (codicillaw19_alive.calls kj2  t259 _ A187.out).mono ?_); rintro e w190 ⟨rfl, hb⟩; refine ⟨_, rfl, ?_⟩; have n0_ := qH (Kd.V_below (by (with_reducible repeat first | apply zVa | apply zVb | apply zVc); exact HO257.out) hb); have n1_ := qH (qD (g := gb252) (by (with_reducible repeat first | apply qA | apply qC | apply qB); exact BK252.out) hb); have n2_ := qH (below_step (by repeat (first | (with_reducible first | exact HB.out | apply qL | apply qJ | apply qK | refine qI ?_ GE252.out) | exact HB.out)) hb); clear HO257; clear BK252; clear HB; have HO257 := n0_; have BK252 := n1_; have HB := n2_; clear n0_ n1_ n2_; (try clear hb); (try clear hb2); (try clear hk); (try clear hi)))
     go_ret
     exact ⟨by first | rfl | (simp [errW_none, errW_some] <;> rfl) | (simp [*, errW_none, errW_some] <;> rfl), by repeat (first | (with_reducible first | exact HB.out | apply qL | apply qJ | apply qK | refine qI ?_ GE252.out) | exact HB.out)⟩

end Go.Proofs.Ytddjhmelniphgaa.Print
