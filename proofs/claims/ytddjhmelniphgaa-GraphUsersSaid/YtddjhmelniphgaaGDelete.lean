/- Contract of slices.Delete at rows, one row away. -/
import Derived.Test.YtddjhmelniphgaaHLb
import Derived.Test.YtddjhmelniphgaaGInsert
import Derived.Deep.Onto
namespace Go.Proofs.Ytddjhmelniphgaa.Print
open Go Go.RowKit Go.Proofs.YtddjhmelniphgaaW.PrintWords Go.Proofs.YtddjhmelniphgaaW.PrintLast
set_option linter.unusedVariables false
set_option linter.unusedSimpArgs false
/-- clear(s), s in a row that is known whole. -/
theorem run_clear_rowsK {P : Program} (w : World) (t e ty : TypeId) (z : Value) (ht : P.underlying t = some (.slice e)) (hv : ∀ w, (zeroValue e).run P w = .ok z w) (g o n c : Nat) (cur : Array Value) (te : TypeId) (zs : List Value)
    (hg : w.heap[g]? = some (.cells cur te (0, 0))) (hz : (Builtin.zeroCells z.cells n).toList = zs) (hn : 0 < n) (hfit : o + zs.length ≤ cur.size) (h1 : ∀ v ∈ zs, v.oneCell' = true) :
    (Builtin.clear_ #[t] ty #[.slice (some ⟨g, o, none⟩) n c]).run P w = .ok (.tuple #[]) (w.setRow g (cur.toList.take o ++ zs ++ cur.toList.drop (o + zs.length)).toArray) := by
  have hst := run_storeCells_at P g o te zs 0 cur w hg (by simpa using hfit) h1
  obtain ⟨m, rfl⟩ : ∃ m, n = m + 1 := ⟨n - 1, by omega⟩
  simp [Builtin.clear_, run_underlying ht, hv, hz, hst]
theorem wpList_clear_run {P : Program} (w : World) {ops : Array Oper} {rest : List Oper} {o : Oper} {a : Act} {Q : Exit → Act → World → Prop} (hgd : o.guard = none) (s : Operand) (t : TypeId)
    (ho : o.op = .call { callee := .builtin .clear, args := #[s], argTypes := #[t] }) (u : Value) (hs : a.eval s = u) {v' : Value} {w' : World}
    (hr : (Builtin.clear_ #[t] o.type #[u]).run P w = .ok v' w') (h : wpList P ops Q rest (a.put o.dst v') w') : wpList P ops Q (o :: rest) a w := by
  refine wpList_plain hgd fun K hK => ?_
  unfold Oper.wp execOp
  simp only [ho, resolve, invoke, builtin, Sem.run_bind, Sem.run_pure, Result.andThen_ok, List.map_toArray, List.map_cons, List.map_nil, hs, hr]
  exact hK _ _ h
set_option maxRecDepth 100000 in
set_option maxHeartbeats 4000000 in
theorem delete_raw (g k i cap : Nat) (cur : Array Value) (cs : List Value) (w : World) (hb : w.heap[g]? = some (.cells cur 40 (0, 0))) (hcs : cur.size = cap * 3) (hcur : cur.toList.take ((k + 1) * 3) = cs) (hcl : cs.length = (k + 1) * 3) (h1c : ∀ u ∈ cs, u.oneCell' = true) (hi : i ≤ k) (hcap : k + 1 ≤ cap) (hc63 : cap ≤ maxLen) (hbig : k ≤ 1048576) :
    Calls Try.prog 41 #[.slice (some ⟨g, 0, none⟩) (k + 1) cap, .int .i64 i, .int .i64 ((i : Int) + 1)] w fun e w' => ∃ v, e = .returned v ∧ w'.ownsRow g 40 3 v k (cs.take (i * 3) ++ cs.drop ((i + 1) * 3)) ∧ Below g w w' := by
  obtain ⟨i0, hi0, hz0, hzs, hzb⟩ := info_parts info40
  have hgl : g < w.heap.size := (Array.getElem?_eq_some_iff.1 hb).1
  have hzv : ∀ w, (zeroValue 40).run Try.prog w = .ok (.agg #[.string ⟨#[]⟩, .int .i64 0, .slice none 0 0]) w := fun w => by simp [zeroValue, typeInfo, hi0, hz0]
  have hdl : (cs.drop ((i + 1) * 3)).length = (k - i) * 3 := by rw [List.length_drop, hcl]; omega
  obtain ⟨R2, hR2⟩ : ∃ R2 : Array Value, R2 = (cur.toList.take (i * 3) ++ cs.drop ((i + 1) * 3) ++ cur.toList.drop (i * 3 + (cs.drop ((i + 1) * 3)).length)).toArray := ⟨_, rfl⟩
  have hR2s : R2.size = cap * 3 := by
    rw [hR2, List.size_toArray, List.length_append, List.length_append, List.length_take, hdl, List.length_drop, Array.length_toList, hcs]; omega
  have hR2t : R2.toList.take (k * 3) = cs.take (i * 3) ++ cs.drop ((i + 1) * 3) := by
    have e0 : cur.toList.take (i * 3) = cs.take (i * 3) := by rw [← hcur, List.take_take, Nat.min_eq_left (by omega)]
    rw [hR2, e0]
    simp only
    rw [show k * 3 = (cs.take (i * 3) ++ cs.drop ((i + 1) * 3)).length by rw [List.length_append, List.length_take, hdl, hcl]; omega, List.take_left]
  obtain ⟨zs, hzs⟩ : ∃ zs : List Value, (Builtin.zeroCells (Value.cells (.agg #[.string ⟨#[]⟩, .int .i64 0, .slice none 0 0])) 1).toList = zs := ⟨_, rfl⟩
  have hzl : zs.length = 3 := by rw [← hzs]; simp [Builtin.zeroCells, Value.cells]
  have h1z : ∀ v ∈ zs, v.oneCell' = true := by rw [← hzs]; simp [Builtin.zeroCells, Value.cells, Value.oneCell']; intro a ha; rcases a with _ | _ | _ | a <;> first | rfl | omega
  obtain ⟨R3, hR3⟩ : ∃ R3 : Array Value, R3 = (R2.toList.take (k * 3) ++ zs ++ R2.toList.drop (k * 3 + zs.length)).toArray := ⟨_, rfl⟩
  have hR3s : R3.size = cap * 3 := by
    rw [hR3, List.size_toArray, List.length_append, List.length_append, List.length_take, List.length_drop, Array.length_toList, hR2s, hzl]; omega
  have hR3t : R3.toList.take (k * 3) = cs.take (i * 3) ++ cs.drop ((i + 1) * 3) := by
    rw [hR3, hR2t]
    simp only
    rw [List.append_assoc, show k * 3 = (cs.take (i * 3) ++ cs.drop ((i + 1) * 3)).length by rw [List.length_append, List.length_take, hdl, hcl]; omega, List.take_left]
  have happ : ∀ (W : World), Below w.heap.size w W → ∀ ty a c, (k - i = 0 ∨ a = ⟨g, (i + 1) * 3, none⟩) → (Builtin.append_ #[22, 22] ty #[.slice (some ⟨g, 0, none⟩) i cap, .slice (some a) (k - i) c]).run Try.prog W = .ok (.slice (some ⟨g, 0, none⟩) k cap) (W.setRow g R2) := fun W hW ty a c ha => by
    have h := run_append_room (P := Try.prog) W 22 ty 40 i0 Try.underlying22 hi0 g i cap cur ((hW.block g hgl).trans hb) a (k - i) c (cs.drop ((i + 1) * 3)) (by rw [hdl, ‹i0.size = 3›])
      (fun j v hj => by
        rcases ha with ha | rfl
        · rw [List.eq_nil_of_length_eq_zero (l := cs.drop ((i + 1) * 3)) (by rw [hdl, ha])] at hj; cases hj
        · have h3 : W.cell? ⟨g, (i + 1) * 3 + j, none⟩ = w.cell? ⟨g, (i + 1) * 3 + j, none⟩ := (World.cell?_of_block (w := w) (a := ⟨g, (i + 1) * 3 + j, none⟩) (hW.block g hgl))
          rw [Addr.add_lit, h3, cell_of_block hb, ← Array.getElem?_toList]
          rw [List.getElem?_drop, ← hcur, List.getElem?_take] at hj
          split at hj
          · exact hj
          · cases hj) (fun u hu => h1c u (List.mem_of_mem_drop hu)) (by omega) (by rw [hdl, hcs, ‹i0.size = 3›]; omega)
    rw [show i0.size = 3 from ‹i0.size = 3›, show i + (k - i) = k by omega] at h
    rw [h, hR2]
  have hclr : ∀ (W : World), W.heap[g]? = some (.cells R2 40 (0, 0)) → ∀ ty c, (Builtin.clear_ #[22] ty #[.slice (some ⟨g, k * 3, none⟩) 1 c]).run Try.prog W = .ok (.tuple #[]) (W.setRow g R3) := fun W hW ty c => by
    rw [run_clear_rowsK W 22 40 ty _ Try.underlying22 hzv g (k * 3) 1 c R2 40 zs hW hzs (by omega) (by rw [hzl, hR2s]; omega) h1z, hR3]
  have HAP := Aside0.mk happ
  have HCL' := Aside0.mk hclr
  have H3S := Aside0.mk hR3s
  have H3T := Aside0.mk hR3t
  have HCL := Aside0.mk hcl
  have HBG := Aside0.mk hb
  have HGL := Aside0.mk hgl
  have HDL := Aside0.mk hdl
  clear happ hclr hR3s hR3t hcl hb hcur h1c hR2 hR2s hR3 hdl hcs hi0 hz0 hzb hgl hzs hzl h1z hR2t hzv
  have hz2 : ((i : Int) == (i : Int) + 1) = false := by rw [beq_eq_false_iff_ne]; omega
  unfold maxLen at hc63
  have hwr2 : IntKind.i64.wrap ((i : Int) + 1) = (i : Int) + 1 := IntWalk.i64_in _ (by omega)
  have hb1 : (0 : Int) ≤ (i : Int) + 1 := by omega
  have hb3 : (i : Int) ≤ (k : Int) := by omega
  have hb4 : (i : Int) ≤ (i : Int) + 1 := by omega
  have hb6 : (i : Int) ≤ (k : Int) + 1 := by omega
  have hb5 : (k : Int) + 1 ≤ (cap : Int) := by omega
  have hb7 : (k : Int) ≤ (cap : Int) := by omega
  have hb8 : (i : Int) ≤ (cap : Int) := by omega
  have hne1 : ¬ cap = i := by omega
  have hne3 : ¬ cap = k := by omega
  have HB := Aside0.mk (Below.refl w.heap.size w)
  by_cases hne2 : cap = i + 1
  · obtain rfl : k = i := by omega
    subst hne2
    have HAP2 := Aside0.mk (fun W hb ty a c => HAP.out W hb ty a c (Or.inl (Nat.sub_self k)))
    clear hne1 hne3 hb3 hb6 hcap hb7
    rw [Nat.sub_self] at HAP2
    go_enter Try.func41, Try.ntmps41
    go_wp2
    refine start_ (n := 8) (S := fun W => True) (ds := []) (lb 8 0) (by kernel_rfl) rfl rfl (trivial) (fun hHeld => ?_)
    replace HB := Aside0.mk (below_drew1 HB.out)
    generalize w.drew = wd at HB hHeld ⊢
    refine pure_ (i := 0) (N := some 20) (v := ?_) (a' := ?_) (lb 8 1) rfl rfl (by kernel_rfl) (fun _ _ _ h => h) (Or.inl ⟨by rfl, ?_⟩) ?_ ?_
    rotate_left
    · intro w'
      go_simp
      with_reducible rfl
    rotate_left
    · simp only [Act.put, zS, zT, zU, zV, zW]
      rfl
    refine pure_ (i := 1) (N := some 21) (v := ?_) (a' := ?_) (lb 8 3) rfl rfl (by kernel_rfl) (fun _ _ _ h => h) (Or.inl ⟨by rfl, ?_⟩) ?_ ?_
    rotate_left
    · intro w'
      go_simp
      with_reducible rfl
    rotate_left
    · simp only [Act.put, zS, zT, zU, zV, zW]
      rfl
    refine pure_ (i := 2) (N := some 22) (v := ?_) (a' := ?_) (lb 8 7) rfl rfl (by kernel_rfl) (fun _ _ _ h => h) (Or.inl ⟨by rfl, ?_⟩) ?_ ?_
    rotate_left
    · intro w'
      go_simp
      with_reducible rfl
    rotate_left
    · simp only [Act.put, zS, zT, zU, zV, zW]
      rfl
    refine pure_ (i := 3) (N := some 23) (v := ?_) (a' := ?_) (lb 8 15) rfl rfl (by kernel_rfl) (fun _ _ _ h => h) (Or.inl ⟨by rfl, ?_⟩) ?_ ?_
    rotate_left
    · intro w'
      go_simp
      with_reducible rfl
    rotate_left
    · simp only [Act.put, zS, zT, zU, zV, zW]
      rfl
    refine pure_ (i := 4) (N := some 24) (v := ?_) (a' := ?_) (lb 8 31) rfl rfl (by kernel_rfl) (fun _ _ _ h => h) (Or.inl ⟨by rfl, ?_⟩) ?_ ?_
    rotate_left
    · intro w'
      go_simp
      with_reducible rfl
    rotate_left
    · simp only [Act.put, zS, zT, zU, zV, zW]
      rfl
    refine pure_ (i := 5) (N := some 25) (v := ?_) (a' := ?_) (lb 8 63) rfl rfl (by kernel_rfl) (fun _ _ _ h => h) (Or.inl ⟨by rfl, ?_⟩) ?_ ?_
    rotate_left
    · intro w'
      go_simp
      with_reducible rfl
    rotate_left
    · simp only [Act.put, zS, zT, zU, zV, zW]
      rfl
    refine one_ (i := 6) (N := some 26) (lb 8 127) rfl rfl (by kernel_rfl) (by decide) (fun K hK => ?_)
    refine value_ (by rfl) rfl (by have h_ := HAP2.out wd (by repeat (with_reducible first | exact HB.out | apply below_alloc | apply pw_below_drewN | apply below_drew1)); unfold execOp; simp [resolve, invoke, builtin, Act.eval, h_, Result.andThen]; first | done | exact ⟨rfl, rfl⟩) ?_
    refine hK.out _ _ (trivial) (fun hHeld => ?_)
    clear hK K
    refine norm_ (a' := ?_) ?_ ?_
    rotate_left
    · show Act.put _ (some 26) _ = _
      simp only [Act.put, zS, zT, zU, zV, zW]
      rfl
    refine pure_ (i := 7) (N := some 0) (v := ?_) (a' := ?_) (lb 8 255) rfl rfl (by kernel_rfl) (fun _ _ _ h => h) (Or.inl ⟨by rfl, ?_⟩) ?_ ?_
    rotate_left
    · intro w'
      go_simp
      with_reducible rfl
    rotate_left
    · simp only [Act.put, zS, zT, zU, zV, zW]
      rfl
    refine done_ (by kernel_rfl) ?_
    have hk2 : (wd.setRow g R2).heap[g]? = some (.cells R2 40 (0, 0)) := setRow_block ((HB.out.block g HGL.out).trans HBG.out) R2
    have hbl : Below g w (wd.setRow g R2) := (HB.out.mono (Nat.le_of_lt HGL.out)).trans (below_setRow' wd g R2)
    have HK2 := Aside0.mk hk2
    have HBL := Aside0.mk hbl
    clear hk2 hbl HB
    generalize wd.setRow g R2 = W2 at HK2 HBL ⊢
    go_wp2_with (with_reducible refine wpList_clear_run _ rfl (.tmp 31) 22 rfl _ rfl (HCL'.out _ HK2.out _ _) ?_)
    go_ret
    exact ⟨_, rfl, owns_at (setRow_block HK2.out R3) (Nat.le_refl _) (by omega) (by unfold maxLen; omega) H3S.out (by rw [List.length_append, List.length_take, HDL.out, HCL.out]; omega) H3T.out, HBL.out.trans (below_setRow' _ _ _)⟩
  · have HAP2 := Aside0.mk (fun W hb ty c => HAP.out W hb ty ⟨g, (i + 1) * 3, none⟩ c (Or.inr rfl))
    go_enter Try.func41, Try.ntmps41
    go_wp2
    refine start_ (n := 8) (S := fun W => True) (ds := []) (lb 8 0) (by kernel_rfl) rfl rfl (trivial) (fun hHeld => ?_)
    replace HB := Aside0.mk (below_drew1 HB.out)
    generalize w.drew = wd at HB hHeld ⊢
    refine pure_ (i := 0) (N := some 20) (v := ?_) (a' := ?_) (lb 8 1) rfl rfl (by kernel_rfl) (fun _ _ _ h => h) (Or.inl ⟨by rfl, ?_⟩) ?_ ?_
    rotate_left
    · intro w'
      go_simp
      with_reducible rfl
    rotate_left
    · simp only [Act.put, zS, zT, zU, zV, zW]
      rfl
    refine pure_ (i := 1) (N := some 21) (v := ?_) (a' := ?_) (lb 8 3) rfl rfl (by kernel_rfl) (fun _ _ _ h => h) (Or.inl ⟨by rfl, ?_⟩) ?_ ?_
    rotate_left
    · intro w'
      go_simp
      with_reducible rfl
    rotate_left
    · simp only [Act.put, zS, zT, zU, zV, zW]
      rfl
    refine pure_ (i := 2) (N := some 22) (v := ?_) (a' := ?_) (lb 8 7) rfl rfl (by kernel_rfl) (fun _ _ _ h => h) (Or.inl ⟨by rfl, ?_⟩) ?_ ?_
    rotate_left
    · intro w'
      go_simp
      with_reducible rfl
    rotate_left
    · simp only [Act.put, zS, zT, zU, zV, zW]
      rfl
    refine pure_ (i := 3) (N := some 23) (v := ?_) (a' := ?_) (lb 8 15) rfl rfl (by kernel_rfl) (fun _ _ _ h => h) (Or.inl ⟨by rfl, ?_⟩) ?_ ?_
    rotate_left
    · intro w'
      go_simp
      with_reducible rfl
    rotate_left
    · simp only [Act.put, zS, zT, zU, zV, zW]
      rfl
    refine pure_ (i := 4) (N := some 24) (v := ?_) (a' := ?_) (lb 8 31) rfl rfl (by kernel_rfl) (fun _ _ _ h => h) (Or.inl ⟨by rfl, ?_⟩) ?_ ?_
    rotate_left
    · intro w'
      go_simp
      with_reducible rfl
    rotate_left
    · simp only [Act.put, zS, zT, zU, zV, zW]
      rfl
    refine pure_ (i := 5) (N := some 25) (v := ?_) (a' := ?_) (lb 8 63) rfl rfl (by kernel_rfl) (fun _ _ _ h => h) (Or.inl ⟨by rfl, ?_⟩) ?_ ?_
    rotate_left
    · intro w'
      go_simp
      with_reducible rfl
    rotate_left
    · simp only [Act.put, zS, zT, zU, zV, zW]
      rfl
    refine one_ (i := 6) (N := some 26) (lb 8 127) rfl rfl (by kernel_rfl) (by decide) (fun K hK => ?_)
    refine value_ (by rfl) rfl (by have h_ := HAP2.out wd (by repeat (with_reducible first | exact HB.out | apply below_alloc | apply pw_below_drewN | apply below_drew1)); unfold execOp; simp [resolve, invoke, builtin, Act.eval, h_, Result.andThen]; first | done | exact ⟨rfl, rfl⟩) ?_
    refine hK.out _ _ (trivial) (fun hHeld => ?_)
    clear hK K
    refine norm_ (a' := ?_) ?_ ?_
    rotate_left
    · show Act.put _ (some 26) _ = _
      simp only [Act.put, zS, zT, zU, zV, zW]
      rfl
    refine pure_ (i := 7) (N := some 0) (v := ?_) (a' := ?_) (lb 8 255) rfl rfl (by kernel_rfl) (fun _ _ _ h => h) (Or.inl ⟨by rfl, ?_⟩) ?_ ?_
    rotate_left
    · intro w'
      go_simp
      with_reducible rfl
    rotate_left
    · simp only [Act.put, zS, zT, zU, zV, zW]
      rfl
    refine done_ (by kernel_rfl) ?_
    have hk2 : (wd.setRow g R2).heap[g]? = some (.cells R2 40 (0, 0)) := setRow_block ((HB.out.block g HGL.out).trans HBG.out) R2
    have hbl : Below g w (wd.setRow g R2) := (HB.out.mono (Nat.le_of_lt HGL.out)).trans (below_setRow' wd g R2)
    have HK2 := Aside0.mk hk2
    have HBL := Aside0.mk hbl
    clear hk2 hbl HB
    generalize wd.setRow g R2 = W2 at HK2 HBL ⊢
    go_wp2_with (with_reducible refine wpList_clear_run _ rfl (.tmp 31) 22 rfl _ rfl (HCL'.out _ HK2.out _ _) ?_)
    go_ret
    exact ⟨_, rfl, owns_at (setRow_block HK2.out R3) (Nat.le_refl _) (by omega) (by unfold maxLen; omega) H3S.out (by rw [List.length_append, List.length_take, HDL.out, HCL.out]; omega) H3T.out, HBL.out.trans (below_setRow' _ _ _)⟩
/-- slices.Delete of one row. -/
theorem deleteU (base i k : Nat) (v : Value) (cs : List Value) (w : World) (ho : w.ownsRow base 40 3 v (k + 1) cs) (h1c : ∀ u ∈ cs, u.oneCell' = true) (hi : i ≤ k) (hbig : k ≤ 1048576) :
    Calls Try.prog 41 #[v, .int .i64 i, .int .i64 ((i : Int) + 1)] w fun e w' => ∃ v', e = .returned v' ∧ w'.ownsRow base 40 3 v' k (cs.take (i * 3) ++ cs.drop ((i + 1) * 3)) ∧ Below base w w' := by
  obtain ⟨hl, ⟨rfl, hn⟩ | ⟨g, cap, cur, rfl, hg, hb, hnc, hc63, hsz, htk⟩⟩ := ho
  · cases hn
  · refine (delete_raw g k i cap cur cs w hb hsz htk hl h1c hi hnc hc63 hbig).mono ?_
    rintro e w' ⟨v', rfl, h1, h2⟩
    exact ⟨v', rfl, h1.mono hg, h2.mono hg⟩
end Go.Proofs.Ytddjhmelniphgaa.Print
