/- Contract of graph.Order. -/
import Derived.Test.YtddjhmelniphgaaGVisit
import Derived.Test.YtddjhmelniphgaaGMay
import Derived.Laws.EntriesVeiled
namespace Go.Proofs.Ytddjhmelniphgaa.Print
open Go Go.RowKit Go.Maps Go.ChangeMaps Go.Proofs.YtddjhmelniphgaaW.PrintWords Go.Proofs.YtddjhmelniphgaaW.PrintLast
set_option linter.unusedVariables false
set_option linter.unusedSimpArgs false
theorem visit_all (w : World) (l : List Us) (mp : List (Nd × Value)) (C : OC) (H : VisH w l mp) : ∀ k, VisitAt w l mp C k
  | 0 => fun W met out v xs A c _ _ _ _ _ hu _ => absurd hu (Nat.not_lt_zero _)
  | k + 1 => visit_step w l mp C H k (visit_all w l mp C H k)
def orderU (l : List Us) (ids : List Nd) : List Nd × Int :=
  if mayN l ≠ 0 then ([], 8) else if anyP (fun x => !inN l x) ids = true then ([], 5) else ((visN l (l.length + 1) ids ([], [])).2, 0)
def orderPost (w : World) (R : List Nd × Int) (e : Ending) (w' : World) : Prop :=
  ∃ v, e = .returned (.tuple #[v, .int .i64 R.2]) ∧ Kd.R k24 24 w' w.heap.size (fun _ => True) v R.1 ∧ Below w.heap.size w w'
theorem order_err {w w' : World} {r : Int} {R : List Nd × Int} (h : R = ([], r)) (hb : Below w.heap.size w w') : orderPost w R (.returned (.tuple #[.slice none 0 0, .int .i64 r])) w' := by
  subst h
  exact ⟨_, rfl, Kd.R_nil _ _ _ _ _, hb⟩
/-- Ahead of the inner function's own box. -/
structure PBox (w W : World) (C : OC) (mp : List (Nd × Value)) : Prop where
  b : Below w.heap.size w W
  m0 : W.heap[C.Bm]? = some (.cells #[.map (some C.bm)] 59 (0, 0))
  m1 : MapAt encN W C.bm (setM [])
  g0 : W.heap[C.Bg]? = some (.cells #[.map (some C.bg)] 57 (0, 0))
  g1 : MapAt encN W C.bg mp
  o0 : W.heap[C.Bo]? = some (.cells #[.slice none 0 0] 25 (0, 0))
  lem : w.heap.size ≤ C.bm
  leo : w.heap.size ≤ C.Bo
  ne : C.bm ≠ C.bg
theorem PBox.below {w W W' : World} {C : OC} {mp : List (Nd × Value)} (h : PBox w W C mp) (hb : Below W.heap.size W W') : PBox w W' C mp :=
  ⟨below_step h.b hb, blk_below h.m0 hb, h.m1.below hb, blk_below h.g0 hb, h.g1.below hb, blk_below h.o0 hb, h.lem, h.leo, h.ne⟩
theorem keys_in (l : List Us) (x : Nd) : decide (x ∈ keysN l) = inN l x := by
  unfold inN
  rw [decide_eq_decide, List.mem_map]
  constructor
  · exact fun h => keysN_mem h
  · rintro ⟨u, hu, rfl⟩; exact mem_keysN hu
/-- The result's row, as the print says it. -/
theorem cellsN_R {w W : World} {v : Value} {out : List Nd} (h : W.ownsRow w.heap.size 24 2 v out.length (cellsN out)) : Kd.R k24 24 W w.heap.size (fun _ => True) v out := by
  refine ⟨fun _ _ => trivial, cellsN out, h, ?_⟩
  have key : ∀ xs : List Nd, Reps (k24.M W w.heap.size (fun k => True ∧ some k ≠ v.ownBlock)) 2 xs (cellsN xs) := by
    intro xs
    induction xs with
    | nil => exact Reps.none _ _
    | cons x r ih => exact Reps.front (c := [.string x.f0, .int .i64 x.f1]) ⟨_, _, rfl, rfl, rfl⟩ rfl ih rfl
  exact key out
set_option maxRecDepth 100000 in
set_option maxHeartbeats 8000000 in
theorem order_graph (A0 A1 : Option Addr) (c0 c1 : Nat) (l : List Us) (ids : List Nd) (w : World) (hr0 : Kd.C k40 w A0 l.length l) (hc0 : l.length ≤ c0) (hr1 : Kd.C k24 w A1 ids.length ids) (hc1 : ids.length ≤ c1)
    (hfit : FitU l) (hids : ids.length ≤ 1048576) (hok : ∀ x ∈ ids, okN x) (R : List Nd × Int) (hR : R = orderU l ids) :
    Calls Try.prog 9 #[.slice A0 l.length c0, .slice A1 ids.length c1] w (orderPost w R) := by
  have hmay := fun (W : World) (hb : Below w.heap.size w W) => may_any A0 c0 l W (Kd.C_below hr0 hb) hc0 hfit
  have hrefs := fun (W : World) (hb : Below w.heap.size w W) => refs_old A0 c0 l w W hr0 hb hc0 hfit.len hfit.node
  unfold orderU at hR
  obtain ⟨m, hm⟩ : ∃ m, m = mayN l := ⟨_, rfl⟩
  rw [← hm] at hR hmay
  have HM := Aside0.mk hm
  have HR1 := Aside0.mk hr1
  have HC1 := Aside0.mk hc1
  have HFIT := Aside0.mk hfit
  have HOK := Aside0.mk hok
  have HMAY := Aside0.mk hmay
  have HREFS := Aside0.mk hrefs
  have HRE := Aside0.mk hR
  obtain ⟨n, hn⟩ : ∃ n, n = l.length := ⟨_, rfl⟩
  obtain ⟨p, hp⟩ : ∃ p, p = ids.length := ⟨_, rfl⟩
  have HN := Aside0.mk hn
  have HP := Aside0.mk hp
  rw [← hn] at HMAY HREFS ⊢
  rw [← hp] at hids HC1 ⊢
  clear hr0 hr1 hc0 hc1 hfit hok hmay hrefs hR hm hn hp
  by_cases h1 : m = 0
  · have hm0 : mayN l = 0 := HM.out ▸ h1
    have h1z : (m != 0) = false := by rw [h1]; rfl
    have HSO := Aside0.mk (sorted_may hm0)
    have HCL := Aside0.mk (closed_may hm0)
    have HRE2 := Aside0.mk (show R = if anyP (fun x => !inN l x) ids = true then ([], 5) else ((visN l (l.length + 1) ids ([], [])).2, 0) by rw [HRE.out, if_neg (by simp [h1])])
    clear HRE hm0
    have hmm := @run_makeMap Try.prog
    go_enter Try.func9, Try.ntmps9
    go_wp2_with (first | (go_at_call 13; refine (HMAY.out _ (below_alloc (Below.refl _ _) _)).mono ?_; rintro e w1 ⟨rfl, hb1⟩) | (go_at_call 26; refine (HREFS.out _ (below_step (below_alloc (Below.refl _ _) _) hb1)).mono ?_; rintro e w2 ⟨bg, mp, rfl, hge, hM, hRM, hb2⟩))
    obtain ⟨W3, hW3⟩ : ∃ W3, W3 = ((w2.alloc (.map #[] 0)).alloc (.cells #[.map (some bg)] 57)).alloc (.cells #[.map (some w2.heap.size)] 59) := ⟨_, rfl⟩
    have hbx : Below w2.heap.size w2 W3 := by rw [hW3]; exact below_alloc (below_alloc (below_alloc (Below.refl _ _) _) _) _
    have hb0 : Below w.heap.size w w2 := below_step (below_step (below_alloc (Below.refl _ _) _) hb1) hb2
    have hP : PBox w W3 ⟨w2.heap.size + 1 + 1, w2.heap.size, w2.heap.size + 1, bg, 0, w.heap.size⟩ mp := by
      have s1 : (w2.alloc (.map #[] 0)).heap.size = w2.heap.size + 1 := Array.size_push _
      have s2 : ((w2.alloc (.map #[] 0)).alloc (.cells #[.map (some bg)] 57)).heap.size = w2.heap.size + 1 + 1 := by rw [← s1]; exact Array.size_push _
      refine ⟨below_step hb0 hbx, ?_, ?_, ?_, ?_, ?_, hb0.size, Nat.le_refl _, ?_⟩
      · show W3.heap[w2.heap.size + 1 + 1]? = _
        rw [hW3, ← s2]; exact blk_new _ _
      · rw [hW3]; exact ((MapAt.new encN w2).alloc _).alloc _
      · show W3.heap[w2.heap.size + 1]? = _
        rw [hW3]
        refine blk_below (w := (w2.alloc (.map #[] 0)).alloc (.cells #[.map (some bg)] 57)) ?_ (below_alloc (Below.refl _ _) _)
        rw [← s1]; exact blk_new _ _
      · exact hM.below hbx
      · exact blk_below (blk_below (blk_below (blk_new w _) hb1) hb2) hbx
      · show w2.heap.size ≠ bg
        have := hM.lt; omega
    have HP2 := Aside0.mk hP
    have HRM := Aside0.mk hRM
    have HND := Aside0.mk hM.2
    rw [← hW3]
    clear hW3 hbx hb0 hP hb1 hb2 hge hM hRM hmm
    generalize w2.heap.size + 1 + 1 = Bm at HP2 ⊢
    generalize w2.heap.size + 1 = Bg at HP2 ⊢
    generalize w2.heap.size = bm at HP2 ⊢
    obtain ⟨Bo, hBo⟩ : ∃ Bo, Bo = w.heap.size := ⟨_, rfl⟩
    rw [← hBo] at HP2 ⊢
    have HBO := Aside0.mk hBo
    clear hBo
    go_loopg [21] p (fun gg s21 wr => ∃ i : Nat, i ≤ p ∧ p - i ≤ gg ∧ s21 = .int .i64 i ∧ Aside0 (PBox w wr ⟨Bm, bm, Bg, bg, 0, Bo⟩ mp) ∧ Aside0 (∀ j, j < i → inN l (ids.getD j z24) = true))
    case atStart => exact ⟨0, Nat.zero_le _, by omega, rfl, HP2, Aside0.mk fun j hj => absurd hj (Nat.not_lt_zero _)⟩
    case round =>
      clear HP2
      obtain ⟨i, hi, hgg, rfl, HP2, HA⟩ := hrel
      by_cases hlt : i < p
      · have hltz : (i : Int) < (p : Int) := by omega
        obtain ⟨ad, rfl, h0, h1⟩ := at_T24 (Kd.C_below HR1.out HP2.out.b) (i : Int) (by omega) (by have := HP.out; omega)
        obtain ⟨y0, hy0⟩ : ∃ y0, y0 = (rd_T24 ids (i : Int)) := ⟨_, rfl⟩
        rw [← hy0] at h0 h1
        have hil : i < ids.length := by have := HP.out; omega
        have HY := Aside0.mk (show y0 = ids.getD i z24 by rw [hy0]; simp [rd_T24])
        have HYE := Aside0.mk (show y0 = ids[i] by rw [HY.out, List.getD_eq_getElem?_getD, List.getElem?_eq_getElem hil]; rfl)
        have HYO := Aside0.mk (show okN y0 by rw [HYE.out]; exact HOK.out _ (List.getElem_mem hil))
        have HYM := Aside0.mk (show y0 ∈ ids by rw [HYE.out]; exact List.getElem_mem hil)
        clear hy0 hil HYE
        obtain ⟨ya, yb⟩ := y0
        simp only [Int.toNat_natCast] at h0 h1
        obtain ⟨is, his⟩ : ∃ is, is = inN l ⟨ya, yb⟩ := ⟨_, rfl⟩
        have HIS := Aside0.mk his
        have HLI := Aside0.mk (show (look (⟨ya, yb⟩ : Nd) mp).isSome = is by rw [look_isSome HND.out, HRM.out.1, his]; exact keys_in l _)
        obtain ⟨u, hu⟩ : ∃ u, (look (⟨ya, yb⟩ : Nd) mp).getD (.slice none 0 0) = u := ⟨_, rfl⟩
        have HLU := Aside0.mk hu
        have HMO := Aside0.mk (HRM.out.ok HFIT.out.node)
        clear his hu
        have HPX := Aside0.mk (HP2.out.below (below_alloc (Below.refl wr.heap.size wr) (.cells #[.string ya, .int .i64 yb] 24)))
        have HNX := Aside0.mk (blk_new wr (.cells #[.string ya, .int .i64 yb] 24))
        have q0 : (wr.alloc (.cells #[.string ya, .int .i64 yb] 24)).cell? ⟨Bg, 0, none⟩ = some (.map (some bg)) := blk_cell HPX.out.g0 0
        have q1 : (wr.alloc (.cells #[.string ya, .int .i64 yb] 24)).cell? ⟨Bo, 0, none⟩ = some (.slice none 0 0) := blk_cell HPX.out.o0 0
        have q2 : (wr.alloc (.cells #[.string ya, .int .i64 yb] 24)).frozen? ⟨Bo, 0, none⟩ = false := blk_frozen HPX.out.o0 0
        have e0 : (wr.alloc (.cells #[.string ya, .int .i64 yb] 24)).cell? ⟨wr.heap.size, 0, none⟩ = some (.string ya) := blk_cell HNX.out 0
        have e1 : (wr.alloc (.cells #[.string ya, .int .i64 yb] 24)).cell? ⟨wr.heap.size, 1, none⟩ = some (.int .i64 yb) := blk_cell HNX.out 1
        cases is with
        | true =>
          go_wp2_with (at_lookup; refine wpList_mapLookOk _ rfl _ _ 57 rfl kN 25 Try.underlying57 (.slice none 0 0) (Try.zeroValue25 _) bg mp rfl HPX.out.g1 HMO.out ⟨ya, yb⟩ rfl HYO.out u HLU.out true HLI.out ?_)
          go_roundg (p - (i + 1))
          case measure => omega
          case rel => exact ⟨i + 1, by omega, Nat.le_refl _, by go_num, HPX, Aside0.mk fun j hj => by
            rcases Nat.lt_succ_iff_lt_or_eq.1 hj with hj | rfl
            · exact HA.out j hj
            · rw [← HY.out, ← HIS.out]⟩
        | false =>
          go_wp2_with (at_lookup; refine wpList_mapLookOk _ rfl _ _ 57 rfl kN 25 Try.underlying57 (.slice none 0 0) (Try.zeroValue25 _) bg mp rfl HPX.out.g1 HMO.out ⟨ya, yb⟩ rfl HYO.out u HLU.out false HLI.out ?_)
          have hk2 := blk_put HPX.out.o0 0 (.slice none 0 0) rfl
          have e5 := blk_cell hk2 0
          have hany : anyP (fun x => !inN l x) ids = true := by
            unfold anyP
            rw [List.any_eq_true]
            exact ⟨⟨ya, yb⟩, HYM.out, by rw [← HIS.out]; rfl⟩
          refine bodyPost_ret (v := .tuple #[.slice none 0 0, .int .i64 5]) ?_ rfl (order_err (by rw [HRE2.out, if_pos hany]) (below_set HPX.out.b HPX.out.leo))
          dsimp only at e5
          simp [results, Try.results9, go_sem, e5]
      · have hip : i = p := by omega
        subst hip
        have hltz : ¬ (i : Int) < (i : Int) := by omega
        have hall : ∀ x ∈ ids, inN l x = true := fun x hx => by
          obtain ⟨j, hj, rfl⟩ := List.getElem_of_mem hx
          have h3 := HA.out j (by have := HP.out; omega)
          rw [List.getD_eq_getElem?_getD, List.getElem?_eq_getElem hj] at h3
          exact h3
        have HEV := Aside0.mk hall
        have HRE3 := Aside0.mk (show R = ((visN l (l.length + 1) ids ([], [])).2, 0) by
          rw [HRE2.out, if_neg]
          intro h2
          unfold anyP at h2
          rw [List.any_eq_true] at h2
          obtain ⟨x, hx, h4⟩ := h2
          rw [hall x hx] at h4; cases h4)
        clear hall HA HRE2
        have hPX := HP2.out.below (below_alloc (Below.refl wr.heap.size wr) (.cells #[(.func (.func 27) #[] #[.pointer (some ⟨Bm, 0, none⟩), .pointer (some ⟨wr.heap.size, 0, none⟩), .pointer (some ⟨Bg, 0, none⟩), .pointer (some ⟨Bo, 0, none⟩)])] 61))
        have HOX := Aside0.mk (show OBox w (wr.alloc (.cells #[(.func (.func 27) #[] #[.pointer (some ⟨Bm, 0, none⟩), .pointer (some ⟨wr.heap.size, 0, none⟩), .pointer (some ⟨Bg, 0, none⟩), .pointer (some ⟨Bo, 0, none⟩)])] 61)) ⟨Bm, bm, Bg, bg, wr.heap.size, Bo⟩ (fvO ⟨Bm, bm, Bg, bg, wr.heap.size, Bo⟩) mp [] [] (.slice none 0 0) from ⟨hPX.b, hPX.m0, hPX.m1, (fun x hx => absurd hx (List.not_mem_nil)), hPX.g0, hPX.g1, blk_new _ _, hPX.o0, World.ownsRow_nil _ _ _ _, hPX.lem, hPX.leo, hPX.ne⟩)
        have HVH := Aside0.mk (show VisH w l mp from ⟨HRM.out, HND.out, HSO.out, HCL.out, HFIT.out⟩)
        have HV := Aside0.mk (visit_all w l mp ⟨Bm, bm, Bg, bg, wr.heap.size, Bo⟩ HVH.out (l.length + 1) _ [] [] (.slice none 0 0) ids A1 c1 HOX.out HR1.out (by rw [← HP.out]; exact HC1.out) (by rw [← HP.out]; exact hids) HEV.out (by have := List.countP_le_length (p := fun u : Us => decide (u.f0 ∉ ([] : List Nd))) (l := l); unfold unmet; omega) (by have := List.countP_le_length (p := fun u : Us => decide (u.f0 ∉ ([] : List Nd))) (l := l); unfold unmet; simp only [List.length_nil]; omega))
        rw [← HP.out] at HV
        clear hPX
        go_wp2_with (go_at_call 27; refine HV.out.mono ?_; rintro e w6 ⟨rfl, v6, HO6, HF6⟩; refine Hid.out ?_)
        refine Lib.hid ?_
        obtain ⟨A6, c6, rfl⟩ := own_slice HO6.o1
        have k0 : w6.heap[Bo]? = some (.cells #[_] 25 (0, 0)) := HO6.o0
        have HK0 := Aside0.mk k0
        have HO7 := Aside0.mk HO6
        clear HO6 HF6 k0 HV HOX
        obtain ⟨qn, hqn⟩ : ∃ qn, qn = (visN l (l.length + 1) ids ([], [])).2.length := ⟨_, rfl⟩
        rw [← hqn] at HK0
        have c8 : w6.cell? ⟨Bo, 0, none⟩ = some (.slice A6 qn c6) := blk_cell HK0.out 0
        have c7 := blk_frozen HK0.out 0
        go_wp2
        have hps := own_setCell (p := ⟨Bo, 0, none⟩) HO7.out.o1 (HO7.out.own_ne HO7.out.o0 (by decide)) (.slice A6 (visN l (l.length + 1) ids ([], [])).2.length c6)
        have e5 : (w6.setCell ⟨Bo, 0, none⟩ (.slice A6 (visN l (l.length + 1) ids ([], [])).2.length c6)).cell? ⟨Bo, 0, none⟩ = some (.slice A6 (visN l (l.length + 1) ids ([], [])).2.length c6) := blk_cell (blk_put HK0.out 0 _ rfl) 0
        refine bodyPost_ret (v := .tuple #[.slice A6 (visN l (l.length + 1) ids ([], [])).2.length c6, .int .i64 0]) ?_ rfl (by rw [HRE3.out]; exact ⟨_, rfl, cellsN_R hps, below_set HO7.out.b HO7.out.leo⟩)
        simp [results, Try.results9, go_sem, e5]
  · have h1z : (m != 0) = true := by rw [bne_iff_ne]; exact h1
    go_enter Try.func9, Try.ntmps9
    go_wp2_with (go_at_call 13; refine (HMAY.out _ (below_alloc (Below.refl _ _) _)).mono ?_; rintro e w1 ⟨rfl, hb1⟩; refine Hid.out ?_)
    refine Lib.hid ?_
    have hk := blk_below (blk_new w (.cells #[.slice none 0 0] 25)) hb1
    have d0 := blk_cell hk 0
    have f0 := blk_frozen hk 0
    go_wp2
    have hk2 := blk_put hk 0 (.slice none 0 0) rfl
    have e0 := blk_cell hk2 0
    refine bodyPost_ret (v := .tuple #[.slice none 0 0, .int .i64 8]) ?_ rfl (order_err (by rw [HRE.out, if_pos h1]) (below_set (below_step (below_alloc (Below.refl _ _) _) hb1) (Nat.le_refl _)))
    simp [results, Try.results9, go_sem, e0]
end Go.Proofs.Ytddjhmelniphgaa.Print
