/- Contract of graph.Order's inner function. -/
import Derived.Test.YtddjhmelniphgaaGOBox
import Derived.Deep.LoopGhost
import Derived.Lib.Hide

import Derived.Test.YtddjhmelniphgaaHSq
namespace Go.Proofs.Ytddjhmelniphgaa.Print
open Go Go.RowKit Go.Maps Go.ChangeMaps Go.Proofs.YtddjhmelniphgaaW.PrintWords Go.Proofs.YtddjhmelniphgaaW.PrintLast
set_option linter.unusedVariables false
set_option linter.unusedSimpArgs false
section
variable {w W : World} {C : OC} {fv v : Value} {mp : List (Nd × Value)} {met out : List Nd}
/-- A node more in the result. -/
theorem OBox.push (h : OBox w W C fv mp met out v) {x : Nd} {W1 : World} {v1 : Value} (ho : W1.ownsRow w.heap.size 24 2 v1 (out.length + 1) (cellsN out ++ [.string x.f0, .int .i64 x.f1])) (hb : Below w.heap.size w W1) (hg : W.grownBy W1 v.ownBlock)
    (hat : v1.ownBlock = v.ownBlock ∨ ∃ b, v1.ownBlock = some b ∧ W.heap.size ≤ b) : OBox w (W1.setCell ⟨C.Bo, 0, none⟩ v1) C fv mp met (out ++ [x]) v1 ∧ FrameO W (W1.setCell ⟨C.Bo, 0, none⟩ v1) C v v1 := by
  have keep : ∀ {g : Nat} {cs : Array Value} {t : TypeId}, W.heap[g]? = some (.cells cs t (0, 0)) → t ≠ 24 → W1.heap[g]? = some (.cells cs t (0, 0)) := fun {g cs t} h2 ht => (hg.block g (Array.getElem?_eq_some_iff.1 h2).1 (h.own_ne h2 ht)).trans h2
  have far : ∀ {g : Nat} {cs : Array Value} {t : TypeId}, W.heap[g]? = some (.cells cs t (0, 0)) → t ≠ 24 → t ≠ 25 → (W1.setCell ⟨C.Bo, 0, none⟩ v1).heap[g]? = some (.cells cs t (0, 0)) := fun {g cs t} h2 ht h3 => (Below.heap_setCell W1 ⟨C.Bo, 0, none⟩ v1 g (h.box_ne h2 h3)).trans (keep h2 ht)
  have hm : ∀ {b : Nat} {l : List (Nd × Value)}, MapAt encN W b l → MapAt encN (W1.setCell ⟨C.Bo, 0, none⟩ v1) b l := fun {b l} h2 => (h2.later (hg.block b h2.lt (h.bm_own h2))).setCell (h.bm_box h2) v1
  have hbo : some C.Bo ≠ v1.ownBlock := by
    rcases hat with e | ⟨b, e, hle⟩
    · rw [e]; exact h.own_ne h.o0 (by decide)
    · rw [e]; intro h2; injection h2 with h2
      have := (Array.getElem?_eq_some_iff.1 h.o0).1
      omega
  refine ⟨⟨below_set hb h.leo, far h.m0 (by decide) (by decide), hm h.m1, h.mok, far h.g0 (by decide) (by decide), hm h.g1, far h.r0 (by decide) (by decide), blk_put (keep h.o0 (by decide)) 0 v1 rfl, ?_, h.lem, h.leo, h.ne⟩, ?_⟩
  · have h2 := own_setCell (p := ⟨C.Bo, 0, none⟩) ho hbo v1
    rw [List.length_append, List.length_singleton, cellsN_snoc]
    exact h2
  · refine ⟨hg.os, hg.tape, hg.output, by simpa [World.setCell] using hg.size, fun k hk h1 h2 h3 => (Below.heap_setCell W1 ⟨C.Bo, 0, none⟩ v1 k h2).trans (hg.block k hk h3), ?_⟩
    rcases hat with e | ⟨b, e, hle⟩
    · exact .inl e
    · exact .inr (.inr ⟨b, e, hle⟩)
end
/-- What stays while the nodes are gone through. -/
structure VisH (w : World) (l : List Us) (mp : List (Nd × Value)) : Prop where
  refs : RefsM w l mp
  nodup : (mp.map (·.1)).Nodup
  sorted : SortedU l
  closed : ClosedU l
  fit : FitU l
theorem VisH.ok {w : World} {l : List Us} {mp : List (Nd × Value)} (h : VisH w l mp) {x : Nd} (hx : inN l x = true) : okN x ∧ (refsOf l x).length ≤ 1048576 ∧ ∀ y ∈ refsOf l x, okN y := by
  unfold inN at hx
  rw [decide_eq_true_iff, List.mem_map] at hx
  obtain ⟨u, hu, rfl⟩ := hx
  rw [refsOf_row h.sorted hu]
  exact ⟨h.fit.node u hu, h.fit.refs u hu, h.fit.ref u hu⟩
def fvO (C : OC) : Value := .func (.func 27) #[] #[.pointer (some ⟨C.Bm, 0, none⟩), .pointer (some ⟨C.Br, 0, none⟩), .pointer (some ⟨C.Bg, 0, none⟩), .pointer (some ⟨C.Bo, 0, none⟩)]
def VisitPost (w : World) (l : List Us) (mp : List (Nd × Value)) (C : OC) (k : Nat) (xs : List Nd) (W : World) (met out : List Nd) (v : Value) (e : Ending) (W' : World) : Prop :=
  e = .returned (.tuple #[]) ∧ ∃ v', OBox w W' C (fvO C) mp (visN l k xs (met, out)).1 (visN l k xs (met, out)).2 v' ∧ FrameO W W' C v v'
def VisitAt (w : World) (l : List Us) (mp : List (Nd × Value)) (C : OC) (k : Nat) : Prop :=
  ∀ (W : World) (met out : List Nd) (v : Value) (xs : List Nd) (A : Option Addr) (c : Nat), OBox w W C (fvO C) mp met out v → Kd.C k24 w A xs.length xs → xs.length ≤ c → xs.length ≤ 1048576 → (∀ x ∈ xs, inN l x = true) → unmet l met < k → out.length + unmet l met ≤ l.length →
    Calls Try.prog 27 #[.slice A xs.length c, .pointer (some ⟨C.Bm, 0, none⟩), .pointer (some ⟨C.Br, 0, none⟩), .pointer (some ⟨C.Bg, 0, none⟩), .pointer (some ⟨C.Bo, 0, none⟩)] W (VisitPost w l mp C k xs W met out v)
set_option maxRecDepth 100000 in
set_option maxHeartbeats 8000000 in
theorem visit_step (w : World) (l : List Us) (mp : List (Nd × Value)) (C : OC) (H : VisH w l mp) (k : Nat) (ih : VisitAt w l mp C k) : VisitAt w l mp C (k + 1) := by
  intro W met out v xs A c hO hC hc hl hx hu hlen
  have HH := Aside0.mk H
  have IH := Aside0.mk ih
  have HO := Aside0.mk hO
  have HC := Aside0.mk hC
  have HX := Aside0.mk hx
  have HU := Aside0.mk hu
  have HLE := Aside0.mk hlen
  obtain ⟨n, hn⟩ : ∃ n, n = xs.length := ⟨_, rfl⟩
  have HN := Aside0.mk hn
  rw [← hn] at hc hl ⊢
  clear H ih hO hC hx hu hlen hn
  go_enter Try.func27, Try.ntmps27
  go_wp2
  go_loopg [10] n (fun gg s10 wr => ∃ (i : Nat) (met' out' : List Nd) (v' : Value), i ≤ n ∧ n - i ≤ gg ∧ s10 = .int .i64 i ∧ Aside0 (OBox w wr C (fvO C) mp met' out' v') ∧ Aside0 (FrameO W wr C v v') ∧ Aside0 ((met', out') = (xs.take i).foldl (stepV (visN l k) l) (met, out) ∧ unmet l met' ≤ unmet l met ∧ out'.length + unmet l met' ≤ l.length))
  case atStart => exact ⟨0, met, out, v, Nat.zero_le _, by omega, rfl, HO, Aside0.mk (FrameO.refl _ _ _), Aside0.mk ⟨rfl, Nat.le_refl _, HLE.out⟩⟩
  case round =>
    clear HO
    obtain ⟨i, met', out', v', hin, hgg, rfl, HO, HFR, HI⟩ := hrel
    by_cases hlt : i < n
    · have hltz : (i : Int) < (n : Int) := by omega
      obtain ⟨ad, rfl, h0, h1⟩ := at_T24 (Kd.C_below HC.out HO.out.b) (i : Int) (by omega) (by have := HN.out; omega)
      obtain ⟨y0, hy0⟩ : ∃ y0, y0 = (rd_T24 xs (i : Int)) := ⟨_, rfl⟩
      rw [← hy0] at h0 h1
      have hxl : i < xs.length := by have := HN.out; omega
      have hyx : y0 = xs[i] := by rw [hy0]; simp [rd_T24, List.getElem?_eq_getElem hxl]
      have HTK := Aside0.mk (show xs.take (i + 1) = xs.take i ++ [y0] by rw [hyx]; exact List.take_succ_eq_append_getElem hxl)
      have HYI := Aside0.mk (show inN l y0 = true by rw [hyx]; exact HX.out _ (List.getElem_mem hxl))
      have HYO := Aside0.mk (HH.out.ok HYI.out)
      clear hy0 hyx hxl
      obtain ⟨ya, yb⟩ := y0
      simp only [Int.toNat_natCast] at h0 h1
      obtain ⟨is, his⟩ : ∃ is, is = decide ((⟨ya, yb⟩ : Nd) ∈ met') := ⟨_, rfl⟩
      have HIS := Aside0.mk his
      have HLK := Aside0.mk (show (look (⟨ya, yb⟩ : Nd) (setM met')).getD (.bool false) = .bool is by rw [his]; exact setM_look met' _)
      clear his
      have HSO := Aside0.mk (show ∀ p ∈ setM met', okN p.1 from fun p hp => by obtain ⟨z, hz, rfl⟩ := List.mem_map.1 hp; exact HO.out.mok z hz)
      have HOX := Aside0.mk (obox_below HO.out (below_alloc (Below.refl wr.heap.size wr) (.cells #[.string ya, .int .i64 yb] 24)))
      have HNX := Aside0.mk (blk_new wr (.cells #[.string ya, .int .i64 yb] 24))
      have q0 : (wr.alloc (.cells #[.string ya, .int .i64 yb] 24)).cell? ⟨C.Bm, 0, none⟩ = some (.map (some C.bm)) := blk_cell HOX.out.m0 0
      have e0 : (wr.alloc (.cells #[.string ya, .int .i64 yb] 24)).cell? ⟨wr.heap.size, 0, none⟩ = some (.string ya) := blk_cell HNX.out 0
      have e1 : (wr.alloc (.cells #[.string ya, .int .i64 yb] 24)).cell? ⟨wr.heap.size, 1, none⟩ = some (.int .i64 yb) := blk_cell HNX.out 1
      have HFX := Aside0.mk (HFR.out.trans (FrameO.of_below (C := C) (v := v') (below_alloc (Below.refl wr.heap.size wr) (.cells #[.string ya, .int .i64 yb] 24))))
      cases is with
      | true =>
        go_wp2_with (at_lookup; refine wpList_mapLook _ rfl _ _ 59 rfl kN 4 Try.underlying59 (.bool false) (Try.zeroValue4 _) C.bm (setM met') rfl HOX.out.m1 HSO.out ⟨ya, yb⟩ rfl HYO.out.1 (.bool true) HLK.out ?_)
        go_roundg (n - (i + 1))
        case measure => omega
        case rel => exact ⟨i + 1, met', out', v', by omega, by omega, by go_num, HOX, HFX, Aside0.mk ⟨by
          rw [HTK.out, List.foldl_append, ← HI.out.1]
          have hm : (⟨ya, yb⟩ : Nd) ∈ met' := of_decide_eq_true HIS.out.symm
          simp only [List.foldl_cons, List.foldl_nil, stepV, if_pos hm], HI.out.2⟩⟩
      | false =>
        have hnm : (⟨ya, yb⟩ : Nd) ∉ met' := of_decide_eq_false HIS.out.symm
        have HNM := Aside0.mk hnm
        clear hnm
        go_wp2_with (first | (at_lookup; refine wpList_mapLook _ rfl _ _ 59 rfl kN 4 Try.underlying59 (.bool false) (Try.zeroValue4 _) C.bm (setM met') rfl HOX.out.m1 HSO.out ⟨ya, yb⟩ rfl HYO.out.1 (.bool false) HLK.out ?_) | (at_mapUpdate; refine wpList_mapStore _ rfl _ _ _ 59 rfl kN 4 Try.underlying59 C.bm (setM met') rfl HOX.out.m1 HSO.out ⟨ya, yb⟩ rfl HYO.out.1 (.bool true) rfl ?_; intro w3 hm3 ht3; refine Hid.out ?_))
        refine Lib.hid ?_
        have hmk := HOX.out.mark (x := ⟨ya, yb⟩) HNM.out HYO.out.1 hm3 ht3
        have HO3 := Aside0.mk hmk.1
        have HF3 := Aside0.mk (HFX.out.trans hmk.2)
        have hgo : some wr.heap.size ≠ v'.ownBlock := fun he => by
          obtain ⟨kk, hk⟩ : ∃ kk, kk = wr.heap.size := ⟨_, rfl⟩
          obtain ⟨_, cur, hc2⟩ := own_typed HO.out.o1 he.symm
          have := (Array.getElem?_eq_some_iff.1 hc2).1
          omega
        have HN3 := Aside0.mk (hmk.2.kept HNX.out (HOX.out.map_ne HNX.out) (HOX.out.box_ne HNX.out (by decide)) hgo)
        have HGO := Aside0.mk hgo
        clear hgo hmk hm3 ht3 q0 e0 e1 HOX HFX HNX h0 h1
        generalize wr.heap.size = g7 at HN3 HGO ⊢
        have h3g : g7 < w3.heap.size := blk_lt HN3.out
        obtain ⟨Ar, cr, hlk, hcr, hCr⟩ := refs_at HH.out.refs HH.out.nodup HH.out.sorted HYI.out
        have HLR := Aside0.mk hlk
        have HCR := Aside0.mk hCr
        have HMO := Aside0.mk (HH.out.refs.ok HH.out.fit.node)
        have HB := Aside0.mk (Below.refl w3.heap.size w3)
        have HSS := Aside0.mk (fun W (hb : Below w3.heap.size w3 W) => show W.cell? ⟨C.Br, 0, none⟩ = some (fvO C) ∧ W.cell? ⟨C.Bg, 0, none⟩ = some (.map (some C.bg)) ∧ W.cell? ⟨g7, 0, none⟩ = some (.string ya) ∧ W.cell? ⟨g7, 1, none⟩ = some (.int .i64 yb) from ⟨blk_cell (obox_below HO3.out hb).r0 0, blk_cell (obox_below HO3.out hb).g0 0, blk_cell (blk_below HN3.out hb) 0, blk_cell (blk_below HN3.out hb) 1⟩)
        have HLU := Aside0.mk (fun W (hb : Below w3.heap.size w3 W) => (map_lookup kN Try.underlying57 (obox_below HO3.out hb).g1 HMO.out (Try.zeroValue25 W) HYO.out.1 false).trans (by rw [if_neg (by decide), HLR.out]))
        unfold encN at HLU
        clear hlk hCr
        go_wp2
        refine start_ (n := 5) (S := fun W => W.cell? ⟨C.Br, 0, none⟩ = some (fvO C) ∧ W.cell? ⟨C.Bg, 0, none⟩ = some (.map (some C.bg)) ∧ W.cell? ⟨g7, 0, none⟩ = some (.string ya) ∧ W.cell? ⟨g7, 1, none⟩ = some (.int .i64 yb)) (ds := []) #[false, false, false, false, false] (by kernel_rfl) rfl rfl (HSS.out _ (by repeat (with_reducible first | exact HB.out | apply below_alloc | apply pw_below_drewN | apply below_drew1))) (fun hHeld => ?_)
        replace HB := Aside0.mk (below_drew1 HB.out)
        generalize w3.drew = w3d at HB hHeld ⊢
        refine take_ (i := 0) (N := some 20) (v := ?_) (a' := ?_) #[true, false, false, false, false] rfl rfl (by kernel_rfl) (fun _ _ _ h => h) (Or.inl ⟨by rfl, ?_⟩) hHeld ?_ ?_
        rotate_left
        · intro w' hS_
          (try dsimp only at hS_)
          obtain ⟨s0, s1, s2, s3⟩ := hS_
          go_simp
          with_reducible rfl
        rotate_left
        · simp only [Act.put, List.setIfInBounds_toArray, List.set_cons_zero, List.set_cons_succ, i64_w, i32_w]
          rfl
        refine take_ (i := 1) (N := some 21) (v := ?_) (a' := ?_) #[true, true, false, false, false] rfl rfl (by kernel_rfl) (fun _ _ _ h => h) (Or.inl ⟨by rfl, ?_⟩) hHeld ?_ ?_
        rotate_left
        · intro w' hS_
          (try dsimp only at hS_)
          obtain ⟨s0, s1, s2, s3⟩ := hS_
          go_simp
          with_reducible rfl
        rotate_left
        · simp only [Act.put, List.setIfInBounds_toArray, List.set_cons_zero, List.set_cons_succ, i64_w, i32_w]
          rfl
        refine take_ (i := 2) (N := some 22) (v := ?_) (a' := ?_) #[true, true, true, false, false] rfl rfl (by kernel_rfl) (fun _ _ _ h => h) (Or.inl ⟨by rfl, ?_⟩) hHeld ?_ ?_
        rotate_left
        · intro w' hS_
          (try dsimp only at hS_)
          obtain ⟨s0, s1, s2, s3⟩ := hS_
          go_simp
          with_reducible rfl
        rotate_left
        · simp only [Act.put, List.setIfInBounds_toArray, List.set_cons_zero, List.set_cons_succ, i64_w, i32_w]
          rfl
        refine one_ (i := 3) (N := some 23) #[true, true, true, true, false] rfl rfl (by kernel_rfl) (by decide) (fun K hK => ?_)
        refine value_ (by rfl) rfl (by have h_ := HLU.out w3d (by repeat (with_reducible first | exact HB.out | apply below_alloc | apply pw_below_drewN | apply below_drew1)); unfold execOp; simp [Act.eval, h_, Result.andThen]; first | done | exact ⟨rfl, rfl⟩) ?_
        refine hK.out _ _ (HSS.out _ (by repeat (with_reducible first | exact HB.out | apply below_alloc | apply pw_below_drewN | apply below_drew1))) (fun hHeld => ?_)
        clear hK K
        refine norm_ (a' := ?_) ?_ ?_
        rotate_left
        · show Act.put _ (some 23) _ = _
          simp only [Act.put, List.setIfInBounds_toArray, List.set_cons_zero, List.set_cons_succ, i64_w, i32_w]
          rfl
        have HO4 := Aside0.mk (obox_below HO3.out HB.out)
        have HN4 := Aside0.mk (blk_below HN3.out HB.out)
        have HF4 := Aside0.mk (HF3.out.trans (FrameO.of_below HB.out))
        have HUL := Aside0.mk (unmet_lt HYI.out HNM.out)
        refine one_ (i := 4) (N := some 24) #[true, true, true, true, true] rfl rfl (by kernel_rfl) (by decide) (fun K hK => ?_)
        refine call_ 27 #[.slice Ar (refsOf l ⟨ya, yb⟩).length cr, .pointer (some ⟨C.Bm, 0, none⟩), .pointer (some ⟨C.Br, 0, none⟩), .pointer (some ⟨C.Bg, 0, none⟩), .pointer (some ⟨C.Bo, 0, none⟩)] (by rfl) rfl (by have he := fun W => enters_ (P := Try.prog) Try.func27 (by kernel_rfl) rfl #[.slice Ar (refsOf l ⟨ya, yb⟩).length cr, .pointer (some ⟨C.Bm, 0, none⟩), .pointer (some ⟨C.Br, 0, none⟩), .pointer (some ⟨C.Bg, 0, none⟩), .pointer (some ⟨C.Bo, 0, none⟩)] W; unfold execOp; simp [fvO, resolve, Deferred.ofValue, invoke, Act.eval, he]) ?_
        refine (IH.out w3d (met' ++ [⟨ya, yb⟩]) out' v' (refsOf l ⟨ya, yb⟩) Ar cr HO4.out HCR.out hcr HYO.out.2.1 (HH.out.closed _) (by have := HU.out; have := HI.out.2.1; have := HUL.out; omega) (by have := HI.out.2.2; have := HUL.out; omega)).mono ?_
        rintro e w5 ⟨rfl, v5, HO5, HF5⟩
        refine ⟨_, rfl, ?_⟩
        have HN5 := Aside0.mk (HF5.kept HN4.out (HO4.out.map_ne HN4.out) (HO4.out.box_ne HN4.out (by decide)) HGO.out)
        replace HO5 := Aside0.mk HO5
        replace HF5 := Aside0.mk (HF4.out.trans HF5)
        refine hK.out _ _ ⟨blk_cell HO5.out.r0 0, blk_cell HO5.out.g0 0, blk_cell HN5.out 0, blk_cell HN5.out 1⟩ (fun hHeld => ?_)
        clear hK K
        refine norm_ (a' := ?_) ?_ ?_
        rotate_left
        · show Act.put _ (some 24) _ = _
          simp only [Act.put, List.setIfInBounds_toArray, List.set_cons_zero, List.set_cons_succ, i64_w, i32_w]
          rfl
        refine done_ (by kernel_rfl) ?_
        have HSTEP := Aside0.mk (show stepV (visN l k) l (met', out') (⟨ya, yb⟩ : Nd) = ((visN l k (refsOf l ⟨ya, yb⟩) (met' ++ [⟨ya, yb⟩], out')).1, (visN l k (refsOf l ⟨ya, yb⟩) (met' ++ [⟨ya, yb⟩], out')).2 ++ [⟨ya, yb⟩]) by unfold stepV; rw [if_neg HNM.out])
        have HL5 := Aside0.mk (stepV_len HH.out.closed k (met', out') ⟨ya, yb⟩ l.length HYI.out HI.out.2.2)
        have HM5 := Aside0.mk (unmet_mono (l := l) (stepV_sub (l := l) k (met', out') ⟨ya, yb⟩))
        rw [HSTEP.out] at HL5 HM5
        generalize (visN l k (refsOf l ⟨ya, yb⟩) (met' ++ [⟨ya, yb⟩], out')).1 = m5 at HO5 HSTEP HL5 HM5 ⊢
        generalize (visN l k (refsOf l ⟨ya, yb⟩) (met' ++ [⟨ya, yb⟩], out')).2 = o5 at HO5 HSTEP HL5 HM5 ⊢
        clear HO4 HN4 HF4 HO3 HN3 HF3 HSS HLU HB
        have c0 : w5.cell? ⟨C.Bo, 0, none⟩ = some v5 := blk_cell HO5.out.o0 0
        have c1 : w5.cell? ⟨g7, 0, none⟩ = some (.string ya) := blk_cell HN5.out 0
        have c2 : w5.cell? ⟨g7, 1, none⟩ = some (.int .i64 yb) := blk_cell HN5.out 1
        have ho5 : o5.length ≤ 1048576 := by
          have h1 := HL5.out
          have h2 : (o5 ++ [(⟨ya, yb⟩ : Nd)]).length + unmet l m5 ≤ l.length := h1
          rw [List.length_append] at h2
          have := HH.out.fit.len
          omega
        go_wp2_with (at_builtin; refine Hid.out ?_)
        refine Lib.hid ?_
        refine print_append_cells w.heap.size rfl _ _ 25 24 (.agg #[.string ⟨#[]⟩, .int .i64 0]) 2 24 rfl Try.underlying25 info24 rfl (by decide) (by decide) v5 o5.length (cellsN o5) [.string ya, .int .i64 yb] rfl rfl rfl (by simp [Value.oneCell']) HO5.out.o1 HO5.out.b HO5.out.b.size (by omega) ?_
        intro v6 w6 ho6 hb6 hg6 hat6
        obtain ⟨A6, c6, rfl⟩ := own_slice ho6
        have k6 := (hg6.block C.Bo (blk_lt HO5.out.o0) (HO5.out.own_ne HO5.out.o0 (by decide))).trans HO5.out.o0
        have d6 : w6.cell? ⟨C.Bo, 0, none⟩ = some v5 := blk_cell k6 0
        have f6 : w6.frozen? ⟨C.Bo, 0, none⟩ = false := blk_frozen k6 0
        go_wp2
        have hps := HO5.out.push (x := ⟨ya, yb⟩) ho6 hb6 hg6 hat6
        go_roundg (n - (i + 1))
        case measure => omega
        case rel => exact ⟨i + 1, m5, o5 ++ [⟨ya, yb⟩], _, by omega, by omega, by go_num, Aside0.mk hps.1, Aside0.mk (HF5.out.trans hps.2), Aside0.mk ⟨by
          rw [HTK.out, List.foldl_append, ← HI.out.1]
          simp only [List.foldl_cons, List.foldl_nil]
          exact HSTEP.out.symm, Nat.le_trans HM5.out HI.out.2.1, HL5.out⟩⟩
    · have hie : i = n := by omega
      subst hie
      have hltz : ¬ (i : Int) < (i : Int) := by omega
      have HTA := Aside0.mk (show xs.take i = xs by rw [HN.out, List.take_length])
      go_wp2
      refine bodyPost_end (results_none rfl _ _ _) rfl ⟨rfl, v', ?_, HFR.out⟩
      have h2 := HI.out.1
      rw [HTA.out] at h2
      show OBox w wr C (fvO C) mp (xs.foldl (stepV (visN l k) l) (met, out)).1 (xs.foldl (stepV (visN l k) l) (met, out)).2 v'
      rw [← h2]
      exact HO.out
end Go.Proofs.Ytddjhmelniphgaa.Print
