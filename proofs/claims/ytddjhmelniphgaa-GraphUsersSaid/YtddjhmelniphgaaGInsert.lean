/- Contract of slices.Insert at rows, one value: cell by cell. -/
import Derived.Test.YtddjhmelniphgaaHLb
import Derived.Test.YtddjhmelniphgaaGClone
import Derived.Test.YtddjhmelniphgaaHSq
import Derived.Lib.AppendZerosOnto
import Derived.Lib.Overlaps
import Derived.Laws.Externs
import Derived.Laws.NewBlocks
import Derived.Laws.CopyRow
import Derived.IntWalk
import Derived.Test.YtddjhmelniphgaaGRefs
namespace Go.Proofs.Ytddjhmelniphgaa.Print
open Go Go.RowKit Go.Proofs.YtddjhmelniphgaaW.PrintWords Go.Proofs.YtddjhmelniphgaaW.PrintLast
set_option linter.unusedVariables false
set_option linter.unusedSimpArgs false
/-- copy(dst, src), dst in a row that is known whole, elements of sz cells. -/
theorem run_copy_rowsK {P : Program} (w : World) (dT sT ty elem : TypeId) (sz g o dLen dCap : Nat) (a : Addr) (sLen sCap : Nat) (cur : Array Value) (t : TypeId) (cs : List Value)
    (hu : P.underlying dT = some (.slice elem)) (hs : (P.info? elem).map (·.size) = some sz)
    (hg : w.heap[g]? = some (.cells cur t (0, 0))) (hn : cs.length = Nat.min sLen dLen * sz)
    (hsrc : ∀ j v, cs[j]? = some v → w.cell? (a.add j) = some v) (hfit : o + cs.length ≤ cur.size) (h1 : ∀ v ∈ cs, v.oneCell' = true) :
    (Builtin.copy_ #[dT, sT] ty #[.slice (some ⟨g, o, none⟩) dLen dCap, .slice (some a) sLen sCap]).run P w =
      .ok (goInt (Nat.min sLen dLen)) (w.setRow g (cur.toList.take o ++ cs ++ cur.toList.drop (o + cs.length)).toArray) := by
  have hl := run_loadCells_list (P := P) w a cs hsrc
  have hst := run_storeCells_at P g o t cs 0 cur w hg (by simpa using hfit) h1
  cases hq : P.info? elem with
  | none => simp [hq] at hs
  | some i =>
    have hi : i.size = sz := by simpa [hq] using hs
    simp [Builtin.copy_, run_underlying hu, Builtin.lenOf, Builtin.firstCells, sizeOf, typeInfo, hq, hi, ← hn, hl, hst]
theorem wpList_copy_run {P : Program} (w : World) {ops : Array Oper} {rest : List Oper} {o : Oper} {a : Act} {Q : Exit → Act → World → Prop} (hgd : o.guard = none) (d s : Operand) (t t' : TypeId)
    (ho : o.op = .call { callee := .builtin .copy, args := #[d, s], argTypes := #[t, t'] }) (v u : Value) (hd : a.eval d = v) (hs : a.eval s = u) {v' : Value} {w' : World}
    (hr : (Builtin.copy_ #[t, t'] o.type #[v, u]).run P w = .ok v' w') (h : wpList P ops Q rest (a.put o.dst v') w') : wpList P ops Q (o :: rest) a w := by
  refine wpList_plain hgd fun K hK => ?_
  unfold Oper.wp execOp
  simp only [ho, resolve, invoke, builtin, Sem.run_bind, Sem.run_pure, Result.andThen_ok, List.map_toArray, List.map_cons, List.map_nil, hd, hs, hr]
  exact hK _ _ h
theorem cell_of_block {W : World} {g : Nat} {t : TypeId} {cur : Array Value} (hb : W.heap[g]? = some (.cells cur t (0, 0))) (j : Nat) : W.cell? ⟨g, j, none⟩ = cur[j]? := by simp [World.cell?, hb]
theorem below_setRow' (W : World) (g : Nat) (cs : Array Value) : Below g W (W.setRow g cs) := ⟨rfl, rfl, rfl, by simp [World.setRow], fun k hk => setRow_other W g k cs (by omega)⟩

set_option maxRecDepth 100000 in
set_option maxHeartbeats 2000000 in
/-- Into an empty row. -/
theorem insert_nil (gv : Nat) (vs : List Value) (w : World) (hv : w.heap[gv]? = some (.cells vs.toArray 40 (0, 0))) (hvl : vs.length = 3) (h1v : ∀ u ∈ vs, u.oneCell' = true) :
    Calls Try.prog 39 #[.slice none 0 0, .int .i64 0, .slice (some ⟨gv, 0, none⟩) 1 1] w fun e w' => ∃ v, e = .returned v ∧ w'.ownsRow w.heap.size 40 3 v 1 vs ∧ Below w.heap.size w w' := by
  obtain ⟨i0, hi, hz0, hz1, hz2⟩ := info_parts info40
  have hcell : ∀ j u, vs[j]? = some u → w.cell? ((⟨gv, 0, none⟩ : Addr).add j) = some u := fun j u hj => by
    rw [Addr.add_lit, Nat.zero_add, cell_of_block hv]; simpa using hj
  have HC := Aside0.mk hcell
  have H1 := Aside0.mk h1v
  have HL := Aside0.mk hvl
  clear hcell h1v hv hvl
  go_enter Try.func39, Try.ntmps39
  go_wp2_with (at_builtin; refine wpList_append_own _ rfl _ _ 22 rfl w.heap.size 40 i0 (.agg #[.string ⟨#[]⟩, .int .i64 0, .slice none 0 0]) 3 48 Try.underlying22 hi hz0 hz1 hz2 rfl (by decide) _ 0 [] rfl (World.ownsRow_nil w _ _ _) ⟨gv, 0, none⟩ 1 1 vs rfl HL.out HC.out H1.out (by unfold maxLen; omega) (by omega) (Nat.le_refl _) ?_; intro v1 w1 ho hg hnil)
  have HO := Aside0.mk ho
  have HB := Aside0.mk ((Below.refl w.heap.size w).grown hg (Nat.le_refl _) (fun k hk => by cases hk))
  clear ho hg hnil
  go_wp2
  go_ret
  exact ⟨v1, rfl, by simpa using HO.out, HB.out⟩
set_option maxRecDepth 100000 in
set_option maxHeartbeats 2000000 in
/-- At the end. -/
theorem insert_end (g cap n gv : Nat) (cs vs : List Value) (w : World) (ho : w.ownsRow g 40 3 (.slice (some ⟨g, 0, none⟩) n cap) n cs) (hv : w.heap[gv]? = some (.cells vs.toArray 40 (0, 0))) (hvl : vs.length = 3) (h1v : ∀ u ∈ vs, u.oneCell' = true) (hbig : n ≤ 1048576) :
    Calls Try.prog 39 #[.slice (some ⟨g, 0, none⟩) n cap, .int .i64 n, .slice (some ⟨gv, 0, none⟩) 1 1] w fun e w' => ∃ v, e = .returned v ∧ w'.ownsRow g 40 3 v (n + 1) (cs ++ vs) ∧ Below g w w' := by
  obtain ⟨i0, hi, hz0, hz1, hz2⟩ := info_parts info40
  have hcell : ∀ j u, vs[j]? = some u → w.cell? ((⟨gv, 0, none⟩ : Addr).add j) = some u := fun j u hj => by
    rw [Addr.add_lit, Nat.zero_add, cell_of_block hv]; simpa using hj
  have hgl : g < w.heap.size := by
    rcases ho.2 with ⟨h, _⟩ | ⟨g', _, _, h, _, hb, _⟩
    · cases h
    · injection h with h _ _; injection h with h; injection h with h; rw [h]; exact (Array.getElem?_eq_some_iff.1 hb).1
  have hnc : n ≤ cap := by
    rcases ho.2 with ⟨h, _⟩ | ⟨g', cap', _, h, _, hb, hc, _⟩
    · cases h
    · injection h with _ _ h; omega
  have HC := Aside0.mk hcell
  have H1 := Aside0.mk h1v
  have HL := Aside0.mk hvl
  have HO0 := Aside0.mk ho
  clear hcell h1v hv hvl ho
  have hkk : ¬ cap = n ∨ cap = n := by omega
  rcases hkk with hkk | hkk
  · go_enter Try.func39, Try.ntmps39
    go_wp2_with (at_builtin; refine wpList_append_own _ rfl _ _ 22 rfl g 40 i0 (.agg #[.string ⟨#[]⟩, .int .i64 0, .slice none 0 0]) 3 48 Try.underlying22 hi hz0 hz1 hz2 rfl (by decide) _ n cs rfl HO0.out ⟨gv, 0, none⟩ 1 1 vs rfl HL.out HC.out H1.out (by unfold maxLen; omega) (by omega) (by omega) ?_; intro v1 w1 ho hg hnil)
    have HO := Aside0.mk ho
    have HB := Aside0.mk ((Below.refl g w).grown hg (by omega) (fun k hk => by have h2 : g = k := Option.some.inj hk; omega))
    clear ho hg hnil
    go_wp2
    go_ret
    exact ⟨v1, rfl, by simpa using HO.out, HB.out⟩
  · subst hkk
    go_enter Try.func39, Try.ntmps39
    go_wp2_with (at_builtin; refine wpList_append_own _ rfl _ _ 22 rfl g 40 i0 (.agg #[.string ⟨#[]⟩, .int .i64 0, .slice none 0 0]) 3 48 Try.underlying22 hi hz0 hz1 hz2 rfl (by decide) _ cap cs rfl HO0.out ⟨gv, 0, none⟩ 1 1 vs rfl HL.out HC.out H1.out (by unfold maxLen; omega) (by omega) (by omega) ?_; intro v1 w1 ho hg hnil)
    have HO := Aside0.mk ho
    have HB := Aside0.mk ((Below.refl g w).grown hg (by omega) (fun k hk => by have h2 : g = k := Option.some.inj hk; omega))
    clear ho hg hnil
    go_wp2
    go_ret
    exact ⟨v1, rfl, by simpa using HO.out, HB.out⟩
theorem owns_at {W : World} {g G n base : Nat} {cur : Array Value} {cs : List Value} (hb : W.heap[g]? = some (.cells cur 40 (0, 0))) (hbase : base ≤ g) (hn : n ≤ G) (hG : G ≤ maxLen) (hs : cur.size = G * 3) (hl : cs.length = n * 3) (htk : cur.toList.take (n * 3) = cs) :
    W.ownsRow base 40 3 (.slice (some ⟨g, 0, none⟩) n G) n cs := ⟨hl, .inr ⟨g, G, cur, rfl, hbase, hb, hn, hG, hs, htk⟩⟩
theorem setRow_block {W : World} {g : Nat} {t : TypeId} {cur : Array Value} (hb : W.heap[g]? = some (.cells cur t (0, 0))) (cs : Array Value) : (W.setRow g cs).heap[g]? = some (.cells cs t (0, 0)) := setRow_heap W g cur cs t (0, 0) hb
set_option maxRecDepth 100000 in
set_option maxHeartbeats 4000000 in
/-- In the middle, no room. -/
theorem insert_grow (g n i gv : Nat) (cur : Array Value) (cs vs : List Value) (w : World) (hb : w.heap[g]? = some (.cells cur 40 (0, 0))) (hcur : cur.toList = cs) (hcl : cs.length = n * 3) (h1c : ∀ u ∈ cs, u.oneCell' = true) (hi : i < n)
    (hv : w.heap[gv]? = some (.cells vs.toArray 40 (0, 0))) (hvl : vs.length = 3) (h1v : ∀ u ∈ vs, u.oneCell' = true) (hbig : n ≤ 1048576) :
    Calls Try.prog 39 #[.slice (some ⟨g, 0, none⟩) n n, .int .i64 i, .slice (some ⟨gv, 0, none⟩) 1 1] w fun e w' => ∃ v, e = .returned v ∧ w'.ownsRow w.heap.size 40 3 v (n + 1) (cs.take (i * 3) ++ vs ++ cs.drop (i * 3)) ∧ Below w.heap.size w w' := by
  obtain ⟨i0, hi0, hz0, hzs, hzb⟩ := info_parts info40
  have hgl : g < w.heap.size := (Array.getElem?_eq_some_iff.1 hb).1
  have hgvl : gv < w.heap.size := (Array.getElem?_eq_some_iff.1 hv).1
  have hsz : (Try.prog.info? 40).map (·.size) = some 3 := by rw [hi0]; simp [hzs]
  have hcsz : cur.size = n * 3 := by rw [← Array.length_toList, hcur, hcl]
  have hold : (Builtin.firstCells i0.size i (.slice (some ⟨g, 0, none⟩) i n)).run Try.prog w.drew = .ok (cs.take (i * 3)).toArray w.drew := by
    rw [hzs]
    exact run_firstCells_some w.drew 3 i ⟨g, 0, none⟩ i n (cs.take (i * 3)) (by rw [List.length_take]; omega) (fun j v hj => by
      rw [Addr.add_lit, Nat.zero_add]
      have h2 : w.drew.cell? ⟨g, j, none⟩ = cur[j]? := cell_of_block (W := w.drew) hb j
      rw [h2, ← Array.getElem?_toList, hcur]
      rw [List.getElem?_take] at hj
      split at hj
      · exact hj
      · cases hj)
  obtain ⟨G, hG⟩ : ∃ G, G = grownCap w (n + 1) n 40 := ⟨_, rfl⟩
  have hGn : n + 1 ≤ G := by rw [hG]; exact grownCap_ge w _ _ _
  have hG63 : G ≤ maxLen := by
    rw [hG]; exact grownCap_le_maxLen w (n + 1) n 40 (by unfold maxLen; omega)
  obtain ⟨ROW, hROW⟩ : ∃ ROW : Array Value, ROW = (cs.take (i * 3)).toArray ++ Builtin.zeroCells (Value.cells (.agg #[.string ⟨#[]⟩, .int .i64 0, .slice none 0 0])) (n + 1 - i) ++ Builtin.zeroCells (Value.cells (.agg #[.string ⟨#[]⟩, .int .i64 0, .slice none 0 0])) (G - (n + 1)) := ⟨_, rfl⟩
  have hRl : ROW.size = G * 3 := by
    rw [hROW]
    simp [Builtin.zeroCells, Value.cells]
    omega
  have hRt : ROW.toList.take (i * 3) = cs.take (i * 3) := by
    rw [hROW, Array.toList_append, Array.toList_append, List.append_assoc, List.take_append_of_le_length (by simp; omega)]
    rw [List.take_take, Nat.min_self]
  have hrz : ∀ ty, (Builtin.append_ #[22, 3] ty #[.slice (some ⟨g, 0, none⟩) i n, .int .i64 ((n : Int) + 1 - (i : Int))]).run Try.prog w = .ok (.slice (some ⟨w.heap.size, 0, none⟩) (n + 1) G) (w.drew.alloc (.cells ROW 40)) := fun ty => by
    have hik : i + (n + 1 - i) = n + 1 := by omega
    have h := Lib.run_append_grow_zeros w 22 3 ty 40 i0 _ .i64 .i64 Try.underlying22 Try.underlying3 hi0 hz0 (some ⟨g, 0, none⟩) i n (cs.take (i * 3)) hold (n + 1 - i) (by omega) (by rw [hzs]; decide) (by omega) (by omega) (by rw [hzb]; omega) (by rw [hzb, hik]; exact growslice_fits (by omega) (by omega))
    rw [hik, ← hG, ← hROW] at h
    rw [show (n : Int) + 1 - (i : Int) = ((n + 1 - i : Nat) : Int) by omega]
    exact h
  obtain ⟨W1, hW1⟩ : ∃ W1, W1 = w.drew.alloc (.cells ROW 40) := ⟨_, rfl⟩
  have hB1 : Below w.heap.size w W1 := by rw [hW1]; exact (below_drew1 (Below.refl _ w)).alloc (Nat.le_refl _) _
  have hk1 : W1.heap[w.heap.size]? = some (.cells ROW 40 (0, 0)) := by rw [hW1]; exact heap_new w.drew _
  rw [← hW1] at hrz
  clear hW1 hold hROW hG
  obtain ⟨R2, hR2⟩ : ∃ R2 : Array Value, R2 = (ROW.toList.take (i * 3) ++ vs ++ ROW.toList.drop (i * 3 + vs.length)).toArray := ⟨_, rfl⟩
  have hR2s : R2.size = G * 3 := by
    rw [hR2, List.size_toArray, List.length_append, List.length_append, List.length_take, List.length_drop, Array.length_toList, hRl, hvl]; omega
  have hcpA : ∀ ty dc, (Builtin.copy_ #[22, 22] ty #[.slice (some ⟨w.heap.size, i * 3, none⟩) (n + 1 - i) dc, .slice (some ⟨gv, 0, none⟩) 1 1]).run Try.prog W1 = .ok (goInt 1) (W1.setRow w.heap.size R2) := fun ty dc => by
    have h := run_copy_rowsK (P := Try.prog) W1 22 22 ty 40 3 w.heap.size (i * 3) (n + 1 - i) dc ⟨gv, 0, none⟩ 1 1 ROW 40 vs Try.underlying22 hsz hk1 (by rw [hvl, show Nat.min 1 (n + 1 - i) = 1 from Nat.min_eq_left (by omega)])
      (fun j v hj => by rw [Addr.add_lit, Nat.zero_add, hB1.cell (p := ⟨gv, j, none⟩) hgvl, cell_of_block hv]; simpa using hj) (by rw [hvl, hRl]; omega) h1v
    rw [show Nat.min 1 (n + 1 - i) = 1 from Nat.min_eq_left (by omega)] at h
    rw [h, hR2]; rfl
  obtain ⟨W2, hW2⟩ : ∃ W2, W2 = W1.setRow w.heap.size R2 := ⟨_, rfl⟩
  have hB2 : Below w.heap.size w W2 := by rw [hW2]; exact hB1.trans (below_setRow' W1 _ _)
  have hk2 : W2.heap[w.heap.size]? = some (.cells R2 40 (0, 0)) := by rw [hW2]; exact setRow_block hk1 R2
  rw [← hW2] at hcpA
  clear hW2 hk1 hB1
  obtain ⟨R3, hR3⟩ : ∃ R3 : Array Value, R3 = (R2.toList.take ((i + 1) * 3) ++ cs.drop (i * 3) ++ R2.toList.drop ((i + 1) * 3 + (cs.drop (i * 3)).length)).toArray := ⟨_, rfl⟩
  have hdl : (cs.drop (i * 3)).length = (n - i) * 3 := by rw [List.length_drop, hcl]; omega
  have hR3s : R3.size = G * 3 := by
    rw [hR3, List.size_toArray, List.length_append, List.length_append, List.length_take, hdl, List.length_drop, Array.length_toList, hR2s]; omega
  have hR3t : R3.toList.take ((n + 1) * 3) = cs.take (i * 3) ++ vs ++ cs.drop (i * 3) := by
    have e1 : R2.toList.take ((i + 1) * 3) = cs.take (i * 3) ++ vs := by
      rw [hR2, hRt]
      simp only [List.append_assoc]
      rw [show (i + 1) * 3 = (cs.take (i * 3) ++ vs).length by rw [List.length_append, List.length_take, hvl, hcl]; omega, ← List.append_assoc, List.take_left]
    rw [hR3, e1]
    simp only
    rw [show (n + 1) * 3 = (cs.take (i * 3) ++ vs ++ cs.drop (i * 3)).length by rw [List.length_append, List.length_append, List.length_take, hvl, hdl, hcl]; omega, List.take_left]
  have hcpB : ∀ (W : World), Below W2.heap.size W2 W → ∀ ty dc sc, (Builtin.copy_ #[22, 22] ty #[.slice (some ⟨w.heap.size, (i + 1) * 3, none⟩) (n - i) dc, .slice (some ⟨g, i * 3, none⟩) (n - i) sc]).run Try.prog W = .ok (goInt (n - i)) (W.setRow w.heap.size R3) := fun W hW ty dc sc => by
    have h := run_copy_rowsK (P := Try.prog) W 22 22 ty 40 3 w.heap.size ((i + 1) * 3) (n - i) dc ⟨g, i * 3, none⟩ (n - i) sc R2 40 (cs.drop (i * 3)) Try.underlying22 hsz ((hW.block _ (Array.getElem?_eq_some_iff.1 hk2).1).trans hk2) (by rw [hdl, show Nat.min (n - i) (n - i) = n - i from Nat.min_self _])
      (fun j v hj => by
        have h3 : W.cell? ⟨g, i * 3 + j, none⟩ = w.cell? ⟨g, i * 3 + j, none⟩ := (World.cell?_of_block (w := w) (a := ⟨g, i * 3 + j, none⟩) ((hW.block g (Nat.lt_of_lt_of_le hgl hB2.size)).trans (hB2.block g hgl)))
        rw [Addr.add_lit, h3, cell_of_block hb, ← Array.getElem?_toList, hcur]
        rwa [List.getElem?_drop] at hj) (by rw [hdl, hR2s]; omega) (fun u hu => h1c u (List.mem_of_mem_drop hu))
    rw [show Nat.min (n - i) (n - i) = n - i from Nat.min_self _] at h
    rw [h, hR3, Int.ofNat_sub (by omega)]
  have HRZ := Aside0.mk hrz
  have HCA := Aside0.mk hcpA
  have HCB := Aside0.mk hcpB
  have HB2 := Aside0.mk hB2
  have HK2 := Aside0.mk hk2
  have H3S := Aside0.mk hR3s
  have H3T := Aside0.mk hR3t
  have HCL := Aside0.mk hcl
  have HVL := Aside0.mk hvl
  clear hrz hcpA hcpB hB2 hk2 hR3s hR3t hcl hvl hb hcur h1c hv h1v hR2 hR2s hR3 hdl hRl hRt hcsz hsz hi0 hz0 hzs hzb hgvl
  have hwr1 : IntKind.i64.wrap ((i : Int) + 1) = (i : Int) + 1 := IntWalk.i64_in _ (by omega)
  have hz3 : (n : Int) < (n : Int) + 1 := by omega
  have hz2 : ((i : Int) == (n : Int)) = false := by rw [beq_eq_false_iff_ne]; omega
  have hin : i ≤ n := by omega
  have hb1 : (0 : Int) ≤ (i : Int) + 1 := by omega
  have hb3 : (i : Int) ≤ (n : Int) := by omega
  have hne1 : ¬ n = i := by omega
  have hGi : ¬ G = i := by omega
  have hGi1 : ¬ G = i + 1 := by omega
  have hne2 : ¬ n = i + 1 ∨ n = i + 1 := by omega
  unfold maxLen at hG63
  obtain ⟨h, hh⟩ : ∃ h, h = w.heap.size := ⟨_, rfl⟩
  rw [← hh] at HRZ HCA HCB HK2
  have HH := Aside0.mk hh
  clear hh
  go_enter Try.func39, Try.ntmps39
  go_wp2_with (first | (at_builtin; refine Lib.wpList_append_run _ rfl _ _ _ _ rfl _ _ rfl rfl _ _ (HRZ.out _) ?_) | (with_reducible refine wpList_copy_run _ rfl (.tmp 43) (.tmp 44) 22 22 rfl _ _ rfl rfl (HCA.out _ _) ?_))
  have HB := Aside0.mk (Below.refl W2.heap.size W2)
  refine start_ (n := 9) (S := fun W => True) (ds := []) (lb 9 0) (by kernel_rfl) rfl rfl (trivial) (fun hHeld => ?_)
  replace HB := Aside0.mk (below_drew1 HB.out)
  generalize W2.drew = W2d at HB hHeld ⊢
  refine pure_ (i := 0) (N := some 46) (v := ?_) (a' := ?_) (lb 9 1) rfl rfl (by kernel_rfl) (fun _ _ _ h => h) (Or.inl ⟨by rfl, ?_⟩) ?_ ?_
  rotate_left
  · intro w'
    go_simp
    with_reducible rfl
  rotate_left
  · simp only [Act.put, zS, zT, zU, zV, zW]
    rfl
  refine pure_ (i := 1) (N := some 47) (v := ?_) (a' := ?_) (lb 9 3) rfl rfl (by kernel_rfl) (fun _ _ _ h => h) (Or.inl ⟨by rfl, ?_⟩) ?_ ?_
  rotate_left
  · intro w'
    go_simp
    with_reducible rfl
  rotate_left
  · simp only [Act.put, zS, zT, zU, zV, zW]
    rfl
  refine pure_ (i := 2) (N := some 48) (v := ?_) (a' := ?_) (lb 9 7) rfl rfl (by kernel_rfl) (fun _ _ _ h => h) (Or.inl ⟨by rfl, ?_⟩) ?_ ?_
  rotate_left
  · intro w'
    go_simp
    with_reducible rfl
  rotate_left
  · simp only [Act.put, zS, zT, zU, zV, zW]
    rfl
  refine pure_ (i := 3) (N := some 49) (v := ?_) (a' := ?_) (lb 9 15) rfl rfl (by kernel_rfl) (fun _ _ _ h => h) (Or.inl ⟨by rfl, ?_⟩) ?_ ?_
  rotate_left
  · intro w'
    go_simp
    with_reducible rfl
  rotate_left
  · simp only [Act.put, zS, zT, zU, zV, zW]
    rfl
  refine pure_ (i := 4) (N := some 50) (v := ?_) (a' := ?_) (lb 9 31) rfl rfl (by kernel_rfl) (fun _ _ _ h => h) (Or.inl ⟨by rfl, ?_⟩) ?_ ?_
  rotate_left
  · intro w'
    go_simp
    with_reducible rfl
  rotate_left
  · simp only [Act.put, zS, zT, zU, zV, zW]
    rfl
  refine pure_ (i := 5) (N := some 51) (v := ?_) (a' := ?_) (lb 9 63) rfl rfl (by kernel_rfl) (fun _ _ _ h => h) (Or.inl ⟨by rfl, ?_⟩) ?_ ?_
  rotate_left
  · intro w'
    go_simp
    with_reducible rfl
  rotate_left
  · simp only [Act.put, zS, zT, zU, zV, zW]
    rfl
  refine pure_ (i := 6) (N := some 52) (v := ?_) (a' := ?_) (lb 9 127) rfl rfl (by kernel_rfl) (fun _ _ _ h => h) (Or.inl ⟨by rfl, ?_⟩) ?_ ?_
  rotate_left
  · intro w'
    go_simp
    with_reducible rfl
  rotate_left
  · simp only [Act.put, zS, zT, zU, zV, zW]
    rfl
  refine pure_ (i := 7) (N := some 53) (v := ?_) (a' := ?_) (lb 9 255) rfl rfl (by kernel_rfl) (fun _ _ _ h => h) (Or.inl ⟨by rfl, ?_⟩) ?_ ?_
  rotate_left
  · intro w'
    go_simp
    with_reducible rfl
  rotate_left
  · simp only [Act.put, zS, zT, zU, zV, zW]
    rfl
  refine one_ (i := 8) (N := some 54) (lb 9 511) rfl rfl (by kernel_rfl) (by decide) (fun K hK => ?_)
  refine value_ (by rfl) rfl (by have h_ := HCB.out W2d (by repeat (with_reducible first | exact HB.out | apply below_alloc | apply pw_below_drewN | apply below_drew1)); unfold execOp; simp [resolve, invoke, builtin, Act.eval, h_, Result.andThen]; first | done | exact ⟨rfl, rfl⟩) ?_
  refine hK.out _ _ (trivial) (fun hHeld => ?_)
  clear hK K
  refine norm_ (a' := ?_) ?_ ?_
  rotate_left
  · show Act.put _ (some 54) _ = _
    simp only [Act.put, zS, zT, zU, zV, zW]
    rfl
  refine done_ (by kernel_rfl) ?_
  go_wp2
  go_ret
  have hb2 : W2d.heap[h]? = some (.cells R2 40 (0, 0)) := (HB.out.block h (Array.getElem?_eq_some_iff.1 HK2.out).1).trans HK2.out
  exact ⟨_, rfl, owns_at (setRow_block hb2 R3) (by rw [HH.out]; exact Nat.le_refl _) (by omega) (by unfold maxLen; omega) H3S.out (by rw [List.length_append, List.length_append, List.length_take, List.length_drop, HVL.out, HCL.out]; omega) H3T.out, (below_step HB2.out HB.out).trans (by rw [HH.out]; exact below_setRow' _ _ _)⟩
end Go.Proofs.Ytddjhmelniphgaa.Print
