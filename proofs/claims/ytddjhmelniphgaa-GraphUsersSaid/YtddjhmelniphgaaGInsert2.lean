/- Contract of slices.Insert at rows, one value: in place, and all roads in one. -/
import Derived.Test.YtddjhmelniphgaaHLb
import Derived.Test.YtddjhmelniphgaaGInsert
import Derived.Deep.Onto
namespace Go.Proofs.Ytddjhmelniphgaa.Print
open Go Go.RowKit Go.Proofs.YtddjhmelniphgaaW.PrintWords Go.Proofs.YtddjhmelniphgaaW.PrintLast
set_option linter.unusedVariables false
set_option linter.unusedSimpArgs false
theorem shape_of_block {W : World} {g : Nat} {t : TypeId} {cur : Array Value} (hb : W.heap[g]? = some (.cells cur t (0, 0))) : W.shape? g = some (t, cur.size) := by simp [World.shape?, hb]
set_option maxRecDepth 100000 in
set_option maxHeartbeats 4000000 in
/-- In the middle, there is room. -/
theorem insert_shift (g n i cap gv : Nat) (cur : Array Value) (cs vs : List Value) (w : World) (hb : w.heap[g]? = some (.cells cur 40 (0, 0))) (hcs : cur.size = cap * 3) (hcur : cur.toList.take (n * 3) = cs) (hcl : cs.length = n * 3) (h1c : ∀ u ∈ cs, u.oneCell' = true) (hi : i < n) (hcap : n < cap) (hc63 : cap ≤ maxLen)
    (hv : w.heap[gv]? = some (.cells vs.toArray 40 (0, 0))) (hvl : vs.length = 3) (h1v : ∀ u ∈ vs, u.oneCell' = true) (hne : gv ≠ g) (hbig : n ≤ 1048576) :
    Calls Try.prog 39 #[.slice (some ⟨g, 0, none⟩) n cap, .int .i64 i, .slice (some ⟨gv, 0, none⟩) 1 1] w fun e w' => ∃ v, e = .returned v ∧ w'.ownsRow g 40 3 v (n + 1) (cs.take (i * 3) ++ vs ++ cs.drop (i * 3)) ∧ Below g w w' := by
  obtain ⟨i0, hi0, hz0, hzs, hzb⟩ := info_parts info40
  have hgl : g < w.heap.size := (Array.getElem?_eq_some_iff.1 hb).1
  have hgvl : gv < w.heap.size := (Array.getElem?_eq_some_iff.1 hv).1
  have hsz : (Try.prog.info? 40).map (·.size) = some 3 := by rw [hi0]; simp [hzs]
  have hz9 : ∀ w, (Go.sizeOf 40).run Try.prog w = .ok 3 w := fun w => by simp [sizeOf, typeInfo, hi0, hzs]
  have hov : ∀ lb cb, (callFunc 52 #[.slice (some ⟨gv, 0, none⟩) 1 1, .slice (some ⟨g, (i + 1) * 3, none⟩) lb cb]).run Try.prog w = .ok (.value (.bool false)) w := fun lb cb => by
    rw [run_callFunc_extern Try.func52 (by kernel_rfl) (by kernel_rfl) (by kernel_rfl) (e := Extern.SlicesOverlaps.overlaps #[22, 22] #[4]) (by kernel_rfl),
      Lib.run_overlaps_apart w 22 4 40 Try.underlying22 3 hz9 ⟨gv, 0, none⟩ ⟨g, (i + 1) * 3, none⟩ 1 1 lb cb hne 40 40 3 (cap * 3) (by rw [shape_of_block hv]; simp [hvl]) (by rw [shape_of_block hb, hcs]) (by omega) (blk_frozen hv 0) (blk_frozen hv 3)]
    rfl
  obtain ⟨R2, hR2⟩ : ∃ R2 : Array Value, R2 = (cur.toList.take ((i + 1) * 3) ++ cs.drop (i * 3) ++ cur.toList.drop ((i + 1) * 3 + (cs.drop (i * 3)).length)).toArray := ⟨_, rfl⟩
  have hdl : (cs.drop (i * 3)).length = (n - i) * 3 := by rw [List.length_drop, hcl]; omega
  have hR2s : R2.size = cap * 3 := by
    rw [hR2, List.size_toArray, List.length_append, List.length_append, List.length_take, hdl, List.length_drop, Array.length_toList, hcs]; omega
  obtain ⟨R3, hR3⟩ : ∃ R3 : Array Value, R3 = (R2.toList.take (i * 3) ++ vs ++ R2.toList.drop (i * 3 + vs.length)).toArray := ⟨_, rfl⟩
  have hR3s : R3.size = cap * 3 := by
    rw [hR3, List.size_toArray, List.length_append, List.length_append, List.length_take, List.length_drop, Array.length_toList, hR2s, hvl]; omega
  have hR3t : R3.toList.take ((n + 1) * 3) = cs.take (i * 3) ++ vs ++ cs.drop (i * 3) := by
    have e0 : cur.toList.take ((i + 1) * 3) = cs.take ((i + 1) * 3) := by rw [← hcur, List.take_take, Nat.min_eq_left (by omega)]
    have e1 : R2.toList.take (i * 3) = cs.take (i * 3) := by
      rw [hR2, e0]
      simp only [List.append_assoc]
      rw [List.take_append_of_le_length (by rw [List.length_take, hcl]; omega), List.take_take, Nat.min_eq_left (by omega)]
    have e2 : R2.toList.drop (i * 3 + vs.length) = cs.drop (i * 3) ++ cur.toList.drop ((i + 1) * 3 + (cs.drop (i * 3)).length) := by
      rw [hR2, e0, hvl]
      simp only [List.append_assoc]
      rw [show i * 3 + 3 = (cs.take ((i + 1) * 3)).length by rw [List.length_take, hcl]; omega, List.drop_left]
    rw [hR3, e1, e2]
    simp only
    rw [← List.append_assoc, show (n + 1) * 3 = (cs.take (i * 3) ++ vs ++ cs.drop (i * 3)).length by rw [List.length_append, List.length_append, List.length_take, hvl, hdl, hcl]; omega, List.take_left]
  have hcpA : ∀ (W : World), Below w.heap.size w W → ∀ ty dc sc, (Builtin.copy_ #[22, 22] ty #[.slice (some ⟨g, (i + 1) * 3, none⟩) (n - i) dc, .slice (some ⟨g, i * 3, none⟩) (n + 1 - i) sc]).run Try.prog W = .ok (goInt (n - i)) (W.setRow g R2) := fun W hW ty dc sc => by
    have h := run_copy_rowsK (P := Try.prog) W 22 22 ty 40 3 g ((i + 1) * 3) (n - i) dc ⟨g, i * 3, none⟩ (n + 1 - i) sc cur 40 (cs.drop (i * 3)) Try.underlying22 hsz ((hW.block g hgl).trans hb) (by rw [hdl, show Nat.min (n + 1 - i) (n - i) = n - i from Nat.min_eq_right (by omega)])
      (fun j v hj => by
        have h3 : W.cell? ⟨g, i * 3 + j, none⟩ = w.cell? ⟨g, i * 3 + j, none⟩ := (World.cell?_of_block (w := w) (a := ⟨g, i * 3 + j, none⟩) (hW.block g hgl))
        rw [Addr.add_lit, h3, cell_of_block hb, ← Array.getElem?_toList]
        rw [List.getElem?_drop, ← hcur, List.getElem?_take] at hj
        split at hj
        · exact hj
        · cases hj) (by rw [hdl, hcs]; omega) (fun u hu => h1c u (List.mem_of_mem_drop hu))
    rw [show Nat.min (n + 1 - i) (n - i) = n - i from Nat.min_eq_right (by omega)] at h
    rw [h, hR2, Int.ofNat_sub (by omega)]
  have hcpB : ∀ (W : World), W.heap[g]? = some (.cells R2 40 (0, 0)) → W.heap[gv]? = some (.cells vs.toArray 40 (0, 0)) → ∀ ty dc, (Builtin.copy_ #[22, 22] ty #[.slice (some ⟨g, i * 3, none⟩) (n + 1 - i) dc, .slice (some ⟨gv, 0, none⟩) 1 1]).run Try.prog W = .ok (goInt 1) (W.setRow g R3) := fun W hW hW2 ty dc => by
    have h := run_copy_rowsK (P := Try.prog) W 22 22 ty 40 3 g (i * 3) (n + 1 - i) dc ⟨gv, 0, none⟩ 1 1 R2 40 vs Try.underlying22 hsz hW (by rw [hvl, show Nat.min 1 (n + 1 - i) = 1 from Nat.min_eq_left (by omega)])
      (fun j v hj => by rw [Addr.add_lit, Nat.zero_add, cell_of_block hW2]; simpa using hj) (by rw [hvl, hR2s]; omega) h1v
    rw [show Nat.min 1 (n + 1 - i) = 1 from Nat.min_eq_left (by omega)] at h
    rw [h, hR3]; rfl
  have HCA := Aside0.mk hcpA
  have HCB := Aside0.mk hcpB
  have H3S := Aside0.mk hR3s
  have H3T := Aside0.mk hR3t
  have HCL := Aside0.mk hcl
  have HVL := Aside0.mk hvl
  have HBG := Aside0.mk hb
  have HBV := Aside0.mk hv
  have HNE := Aside0.mk hne
  have HGL := Aside0.mk hgl
  clear hcpA hcpB hR3s hR3t hcl hvl hb hcur h1c hv h1v hR2 hR2s hR3 hdl hcs hsz hi0 hz0 hzs hzb hgvl hz9 hne hgl
  have hwr1 : IntKind.i64.wrap ((i : Int) + 1) = (i : Int) + 1 := IntWalk.i64_in _ (by omega)
  have hz2 : ((i : Int) == (n : Int)) = false := by rw [beq_eq_false_iff_ne]; omega
  unfold maxLen at hc63
  have hwr2 : IntKind.i64.wrap ((n : Int) + 1) = (n : Int) + 1 := IntWalk.i64_in _ (by omega)
  have hz3 : ¬ (cap : Int) < (n : Int) + 1 := by omega
  have hin : i ≤ n := by omega
  have hb1 : (0 : Int) ≤ (i : Int) + 1 := by omega
  have hb1' : (0 : Int) ≤ (n : Int) + 1 := by omega
  have hb3 : (i : Int) ≤ (n : Int) := by omega
  have hb4 : (i : Int) ≤ (n : Int) + 1 := by omega
  have hb5 : (n : Int) + 1 ≤ (cap : Int) := by omega
  have hne1 : ¬ cap = i := by omega
  have hne2 : ¬ cap = i + 1 := by omega
  have HB := Aside0.mk (Below.refl w.heap.size w)
  go_enter Try.func39, Try.ntmps39
  go_wp2_with (simp only [hov])
  refine start_ (n := 9) (S := fun W => True) (ds := []) (lb 9 0) (by kernel_rfl) rfl rfl (trivial) (fun hHeld => ?_)
  replace HB := Aside0.mk (below_drew1 HB.out)
  generalize w.drew = wd at HB hHeld ⊢
  refine pure_ (i := 0) (N := some 69) (v := ?_) (a' := ?_) (lb 9 1) rfl rfl (by kernel_rfl) (fun _ _ _ h => h) (Or.inl ⟨by rfl, ?_⟩) ?_ ?_
  rotate_left
  · intro w'
    go_simp
    with_reducible rfl
  rotate_left
  · simp only [Act.put, zS, zT, zU, zV, zW]
    rfl
  refine pure_ (i := 1) (N := some 70) (v := ?_) (a' := ?_) (lb 9 3) rfl rfl (by kernel_rfl) (fun _ _ _ h => h) (Or.inl ⟨by rfl, ?_⟩) ?_ ?_
  rotate_left
  · intro w'
    go_simp
    with_reducible rfl
  rotate_left
  · simp only [Act.put, zS, zT, zU, zV, zW]
    rfl
  refine pure_ (i := 2) (N := some 71) (v := ?_) (a' := ?_) (lb 9 7) rfl rfl (by kernel_rfl) (fun _ _ _ h => h) (Or.inl ⟨by rfl, ?_⟩) ?_ ?_
  rotate_left
  · intro w'
    go_simp
    with_reducible rfl
  rotate_left
  · simp only [Act.put, zS, zT, zU, zV, zW]
    rfl
  refine pure_ (i := 3) (N := some 72) (v := ?_) (a' := ?_) (lb 9 15) rfl rfl (by kernel_rfl) (fun _ _ _ h => h) (Or.inl ⟨by rfl, ?_⟩) ?_ ?_
  rotate_left
  · intro w'
    go_simp
    with_reducible rfl
  rotate_left
  · simp only [Act.put, zS, zT, zU, zV, zW]
    rfl
  refine pure_ (i := 4) (N := some 73) (v := ?_) (a' := ?_) (lb 9 31) rfl rfl (by kernel_rfl) (fun _ _ _ h => h) (Or.inl ⟨by rfl, ?_⟩) ?_ ?_
  rotate_left
  · intro w'
    go_simp
    with_reducible rfl
  rotate_left
  · simp only [Act.put, zS, zT, zU, zV, zW]
    rfl
  refine pure_ (i := 5) (N := some 74) (v := ?_) (a' := ?_) (lb 9 63) rfl rfl (by kernel_rfl) (fun _ _ _ h => h) (Or.inl ⟨by rfl, ?_⟩) ?_ ?_
  rotate_left
  · intro w'
    go_simp
    with_reducible rfl
  rotate_left
  · simp only [Act.put, zS, zT, zU, zV, zW]
    rfl
  refine pure_ (i := 6) (N := some 75) (v := ?_) (a' := ?_) (lb 9 127) rfl rfl (by kernel_rfl) (fun _ _ _ h => h) (Or.inl ⟨by rfl, ?_⟩) ?_ ?_
  rotate_left
  · intro w'
    go_simp
    with_reducible rfl
  rotate_left
  · simp only [Act.put, zS, zT, zU, zV, zW]
    rfl
  refine pure_ (i := 7) (N := some 76) (v := ?_) (a' := ?_) (lb 9 255) rfl rfl (by kernel_rfl) (fun _ _ _ h => h) (Or.inl ⟨by rfl, ?_⟩) ?_ ?_
  rotate_left
  · intro w'
    go_simp
    with_reducible rfl
  rotate_left
  · simp only [Act.put, zS, zT, zU, zV, zW]
    rfl
  refine one_ (i := 8) (N := some 77) (lb 9 511) rfl rfl (by kernel_rfl) (by decide) (fun K hK => ?_)
  refine value_ (by rfl) rfl (by have h_ := HCA.out wd (by repeat (with_reducible first | exact HB.out | apply below_alloc | apply pw_below_drewN | apply below_drew1)); unfold execOp; simp [resolve, invoke, builtin, Act.eval, h_, Result.andThen]; first | done | exact ⟨rfl, rfl⟩) ?_
  refine hK.out _ _ (trivial) (fun hHeld => ?_)
  clear hK K
  refine norm_ (a' := ?_) ?_ ?_
  rotate_left
  · show Act.put _ (some 77) _ = _
    simp only [Act.put, zS, zT, zU, zV, zW]
    rfl
  refine done_ (by kernel_rfl) ?_
  have hk2 : (wd.setRow g R2).heap[g]? = some (.cells R2 40 (0, 0)) := setRow_block ((HB.out.block g HGL.out).trans HBG.out) R2
  have hv2 : (wd.setRow g R2).heap[gv]? = some (.cells vs.toArray 40 (0, 0)) := (setRow_other wd g gv R2 HNE.out).trans ((HB.out.block gv (Array.getElem?_eq_some_iff.1 HBV.out).1).trans HBV.out)
  have hbl : Below g w (wd.setRow g R2) := (HB.out.mono (Nat.le_of_lt HGL.out)).trans (below_setRow' wd g R2)
  have HK2 := Aside0.mk hk2
  have HV2 := Aside0.mk hv2
  have HBL := Aside0.mk hbl
  clear hk2 hv2 hbl HB
  generalize wd.setRow g R2 = W2 at HK2 HV2 HBL ⊢
  go_wp2_with (with_reducible refine wpList_copy_run _ rfl (.tmp 80) (.tmp 81) 22 22 rfl _ _ rfl rfl (HCB.out _ HK2.out HV2.out _ _) ?_)
  go_ret
  exact ⟨_, rfl, owns_at (setRow_block HK2.out R3) (Nat.le_refl _) (by omega) (by unfold maxLen; omega) H3S.out (by rw [List.length_append, List.length_append, List.length_take, List.length_drop, HVL.out, HCL.out]; omega) H3T.out, HBL.out.trans (below_setRow' _ _ _)⟩
/-- slices.Insert of one row. -/
theorem insertU (base i n gv : Nat) (v : Value) (cs vs : List Value) (w : World) (ho : w.ownsRow base 40 3 v n cs) (hbase : base ≤ w.heap.size) (h1c : ∀ u ∈ cs, u.oneCell' = true) (hi : i ≤ n)
    (hv : w.heap[gv]? = some (.cells vs.toArray 40 (0, 0))) (hvl : vs.length = 3) (h1v : ∀ u ∈ vs, u.oneCell' = true) (hne : ∀ p n' c', v = .slice (some p) n' c' → gv ≠ p.block) (hbig : n ≤ 1048576) :
    Calls Try.prog 39 #[v, .int .i64 i, .slice (some ⟨gv, 0, none⟩) 1 1] w fun e w' => ∃ v', e = .returned v' ∧ w'.ownsRow base 40 3 v' (n + 1) (cs.take (i * 3) ++ vs ++ cs.drop (i * 3)) ∧ Below base w w' := by
  have ho' := ho
  obtain ⟨hl, ⟨rfl, hn⟩ | ⟨g, cap, cur, rfl, hg, hb, hnc, hc63, hsz, htk⟩⟩ := ho
  · subst hn
    have hi0 : i = 0 := by omega
    subst hi0
    have hcs : cs = [] := List.eq_nil_of_length_eq_zero (by simpa using hl)
    subst hcs
    refine (insert_nil gv vs w hv hvl h1v).mono ?_
    rintro e w' ⟨v', rfl, h1, h2⟩
    exact ⟨v', rfl, by simpa using h1.mono hbase, h2.mono hbase⟩
  · by_cases hin : i < n
    · by_cases hcap : n < cap
      · refine (insert_shift g n i cap gv cur cs vs w hb hsz htk hl h1c hin hcap hc63 hv hvl h1v (hne _ _ _ rfl) hbig).mono ?_
        rintro e w' ⟨v', rfl, h1, h2⟩
        exact ⟨v', rfl, h1.mono hg, h2.mono hg⟩
      · have : cap = n := by omega
        subst this
        refine (insert_grow g cap i gv cur cs vs w hb (by rw [← htk, List.take_of_length_le (by rw [Array.length_toList, hsz]; exact Nat.le_refl _)]) hl h1c hin hv hvl h1v hbig).mono ?_
        rintro e w' ⟨v', rfl, h1, h2⟩
        exact ⟨v', rfl, h1.mono hbase, h2.mono hbase⟩
    · have : i = n := by omega
      subst this
      refine (insert_end g cap i gv cs vs w ⟨hl, .inr ⟨g, cap, cur, rfl, Nat.le_refl _, hb, hnc, hc63, hsz, htk⟩⟩ hv hvl h1v hbig).mono ?_
      rintro e w' ⟨v', rfl, h1, h2⟩
      rw [show cs.take (i * 3) = cs by rw [← hl, List.take_length], show cs.drop (i * 3) = [] by rw [← hl, List.drop_length], List.append_nil]
      exact ⟨v', rfl, h1.mono hg, h2.mono hg⟩
end Go.Proofs.Ytddjhmelniphgaa.Print
