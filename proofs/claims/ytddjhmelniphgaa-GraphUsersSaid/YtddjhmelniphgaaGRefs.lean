/- Laws for walks over maps at nodes; the contract of graph.refs. -/
import Derived.Test.YtddjhmelniphgaaGIdx
namespace Go.Proofs.Ytddjhmelniphgaa.Print
open Go Go.RowKit Go.Maps Go.ChangeMaps Go.Proofs.YtddjhmelniphgaaW.PrintWords Go.Proofs.YtddjhmelniphgaaW.PrintLast
set_option linter.unusedVariables false
set_option linter.unusedSimpArgs false
set_option linter.unusedSectionVars false

section
variable {α : Type} [DecidableEq α] {P : Program} {kt : TypeId} {enc : α → Value} {ok : α → Prop}
theorem heap_new (w : World) (o : Obj) : (w.alloc o).heap[w.heap.size]? = some o := by show (w.heap.push o)[w.heap.size]? = some o; simp
theorem MapAt.new (enc : α → Value) (w : World) : MapAt enc (w.alloc (.map #[] 0)) w.heap.size ([] : List (α × Value)) := ⟨⟨#[], 0, heap_new w _, rfl⟩, List.nodup_nil⟩
theorem MapAt.lt {w : World} {b : Nat} {l : List (α × Value)} (h : MapAt enc w b l) : b < w.heap.size := by
  obtain ⟨⟨es, clock, hb, _⟩, _⟩ := h
  exact (Array.getElem?_eq_some_iff.1 hb).1
theorem MapAt.later {w w1 : World} {b : Nat} {l : List (α × Value)} (h : MapAt enc w b l) (he : w1.heap[b]? = w.heap[b]?) : MapAt enc w1 b l := by
  obtain ⟨⟨es, clock, hb, e⟩, hn⟩ := h
  exact ⟨⟨es, clock, he.trans hb, e⟩, hn⟩
theorem MapAt.grown {w w1 : World} {b : Nat} {l : List (α × Value)} {row : Option Nat} (h : MapAt enc w b l) (hg : w.grownBy w1 row) (hne : some b ≠ row) : MapAt enc w1 b l := h.later (hg.block b h.lt hne)
theorem MapAt.below {w w1 : World} {b : Nat} {l : List (α × Value)} (h : MapAt enc w b l) (hb : Below w.heap.size w w1) : MapAt enc w1 b l := h.later (hb.block b h.lt)
theorem MapAt.alloc {w : World} {b : Nat} {l : List (α × Value)} (h : MapAt enc w b l) (o : Obj) : MapAt enc (w.alloc o) b l := h.below (below_alloc (Below.refl _ _) o)
theorem MapAt.drew {w : World} {b : Nat} {l : List (α × Value)} (h : MapAt enc w b l) : MapAt enc w.drew b l := h
theorem MapAt.drewN {w : World} {b : Nat} {l : List (α × Value)} (h : MapAt enc w b l) (n : Nat) : MapAt enc (w.drewN n) b l := h.below (pw_below_drewN (Below.refl _ _) n)
theorem MapAt.setCell {w : World} {b : Nat} {l : List (α × Value)} (h : MapAt enc w b l) {p : Addr} (hp : b ≠ p.block) (u : Value) : MapAt enc (w.setCell p u) b l := h.later (Below.heap_setCell _ _ _ _ hp)

variable (w : World) {ops : Array Oper} {rest : List Oper} {o : Oper} {a : Act} {Q : Exit → Act → World → Prop}
/-- 'm[k] = v'. -/
theorem wpList_mapStore (hg : o.guard = none) (m x v : Operand) (t : TypeId) (hop : o.op = Op.mapUpdate t m x v) (K : KeyEnc P kt enc ok) (e : TypeId) (ht : P.underlying t = some (.map kt e)) (b : Nat) (l : List (α × Value))
    (hm : a.eval m = .map (some b)) (h : MapAt enc w b l) (hl : ∀ p ∈ l, ok p.1) (key : α) (hx : a.eval x = enc key) (hk : ok key) (val : Value) (hv : a.eval v = val)
    (hK : ∀ w', MapAt enc w' b (putL key val l) → w.mapTurned w' b → wpList P ops Q rest (a.put o.dst undef) w') : wpList P ops Q (o :: rest) a w := by
  refine wpList_plain hg fun K' hK' => ?_
  obtain ⟨es', clock', hrun, he⟩ := map_store K ht h hl hk val
  obtain ⟨⟨es, clock, hb, _⟩, hn⟩ := h
  have hlt : b < w.heap.size := (Array.getElem?_eq_some_iff.1 hb).1
  unfold Oper.wp
  simp [execOp, hop, hm, hx, hv, hrun, Result.andThen]
  exact hK' _ _ (hK _ ⟨⟨es', clock', heap_setBlock_same hb _, he⟩, putL_nodup hn⟩ ⟨es, clock, es', clock', hb, rfl⟩)
/-- 'm[k]'. -/
theorem wpList_mapLook (hg : o.guard = none) (m x : Operand) (t : TypeId) (hop : o.op = Op.lookup t m x false) (K : KeyEnc P kt enc ok) (e : TypeId) (ht : P.underlying t = some (.map kt e)) (z : Value) (hz : (zeroValue e).run P w = .ok z w) (b : Nat) (l : List (α × Value))
    (hm : a.eval m = .map (some b)) (h : MapAt enc w b l) (hl : ∀ p ∈ l, ok p.1) (key : α) (hx : a.eval x = enc key) (hk : ok key) (u : Value) (hu : (look key l).getD z = u)
    (hK : wpList P ops Q rest (a.put o.dst u) w) : wpList P ops Q (o :: rest) a w := by
  refine wpList_plain hg fun K' hK' => ?_
  have hrun := map_lookup K ht h hl hz hk false
  simp only [Bool.false_eq_true, if_false, hu] at hrun
  unfold Oper.wp
  simp [execOp, hop, hm, hx, hrun, Result.andThen]
  exact hK' _ _ hK
/-- 'v, is := m[k]'. -/
theorem wpList_mapLookOk (hg : o.guard = none) (m x : Operand) (t : TypeId) (hop : o.op = Op.lookup t m x true) (K : KeyEnc P kt enc ok) (e : TypeId) (ht : P.underlying t = some (.map kt e)) (z : Value) (hz : (zeroValue e).run P w = .ok z w) (b : Nat) (l : List (α × Value))
    (hm : a.eval m = .map (some b)) (h : MapAt enc w b l) (hl : ∀ p ∈ l, ok p.1) (key : α) (hx : a.eval x = enc key) (hk : ok key) (u : Value) (hu : (look key l).getD z = u) (is : Bool) (his : (look key l).isSome = is)
    (hK : wpList P ops Q rest (a.put o.dst (.tuple #[u, .bool is])) w) : wpList P ops Q (o :: rest) a w := by
  refine wpList_plain hg fun K' hK' => ?_
  have hrun := map_lookup K ht h hl hz hk true
  simp only [if_true, hu, his] at hrun
  unfold Oper.wp
  simp [execOp, hop, hm, hx, hrun, Result.andThen]
  exact hK' _ _ hK
/-- 'len(m)'. -/
theorem wpList_mapLen (hg : o.guard = none) (m : Operand) (t : TypeId) (hop : o.op = Op.call { callee := Callee.builtin Builtin.len, args := #[m], argTypes := #[t] }) (e : TypeId) (ht : P.underlying t = some (.map kt e)) (b : Nat) (l : List (α × Value)) (n : Nat) (hn : l.length = n)
    (hm : a.eval m = .map (some b)) (h : MapAt enc w b l) (hK : wpList P ops Q rest (a.put o.dst (.int .i64 n)) w) : wpList P ops Q (o :: rest) a w := by
  refine wpList_plain hg fun K' hK' => ?_
  unfold Oper.wp
  simp [execOp, hop, resolve, invoke, builtin, hm, map_len ht h o.type, hn, Result.andThen]
  exact hK' _ _ hK
end

theorem kN : KeyEnc Try.prog 24 encN okN := ⟨keyedN, encN_inj, keyN⟩

/-- A list without what stands there already. -/
def addN (l : List Nd) (x : Nd) : List Nd := if x ∈ l then l else l ++ [x]
def keysN (l : List Us) : List Nd := (l.map (·.f0)).foldl addN []
/-- A map of rows: the keys are the rows' nodes, each value is the list of a row. -/
def RefsM (W : World) (l : List Us) (m : List (Nd × Value)) : Prop :=
  m.map (·.1) = keysN l ∧ ∀ p ∈ m, ∃ u ∈ l, u.f0 = p.1 ∧ ∃ A c, p.2 = .slice A u.f1.length c ∧ u.f1.length ≤ c ∧ Kd.C k24 W A u.f1.length u.f1
theorem keysN_mem {l : List Us} {x : Nd} (h : x ∈ keysN l) : ∃ u ∈ l, u.f0 = x := by
  have key : ∀ (xs acc : List Nd), x ∈ xs.foldl addN acc → x ∈ acc ∨ x ∈ xs := by
    intro xs
    induction xs with
    | nil => intro acc h; exact .inl h
    | cons y r ih =>
      intro acc h
      rcases ih _ h with h | h
      · unfold addN at h
        split at h
        · exact .inl h
        · rcases List.mem_append.1 h with h | h
          · exact .inl h
          · rw [List.mem_singleton] at h; exact .inr (h ▸ List.mem_cons_self)
      · exact .inr (List.mem_cons_of_mem _ h)
  rcases key _ _ h with h | h
  · cases h
  · obtain ⟨u, hu, e⟩ := List.mem_map.1 h
    exact ⟨u, hu, e⟩
theorem mem_keysN {l : List Us} {u : Us} (h : u ∈ l) : u.f0 ∈ keysN l := by
  have key : ∀ (xs acc : List Nd) (x : Nd), x ∈ acc ∨ x ∈ xs → x ∈ xs.foldl addN acc := by
    intro xs
    induction xs with
    | nil => intro acc x h; rcases h with h | h; exact h; cases h
    | cons y r ih =>
      intro acc x h
      refine ih _ x ?_
      unfold addN
      rcases h with h | h
      · split
        · exact .inl h
        · exact .inl (List.mem_append_left _ h)
      · rcases List.mem_cons.1 h with e | e
        · subst e
          split
          · rename_i hx; exact .inl hx
          · exact .inl (List.mem_append_right _ (List.mem_singleton.2 rfl))
        · exact .inr e
  exact key _ _ _ (.inr (List.mem_map_of_mem h))
theorem RefsM.below {W W1 : World} {l : List Us} {m : List (Nd × Value)} (h : RefsM W l m) (hb : Below W.heap.size W W1) : RefsM W1 l m :=
  ⟨h.1, fun p hp => by obtain ⟨u, hu, e, A, c, h1, h2, h3⟩ := h.2 p hp; exact ⟨u, hu, e, A, c, h1, h2, Kd.C_below h3 hb⟩⟩
theorem RefsM.ok {W : World} {l : List Us} {m : List (Nd × Value)} (h : RefsM W l m) (hl : ∀ u ∈ l, okN u.f0) : ∀ p ∈ m, okN p.1 := fun p hp => by
  obtain ⟨u, hu, e, _⟩ := h.2 p hp
  exact e ▸ hl u hu
theorem RefsM.step {W : World} {l : List Us} {k : Nat} {m : List (Nd × Value)} (h : RefsM W (l.take k) m) (hk : k < l.length) {A : Option Addr} {c : Nat} (hc : (l.getD k z40).f1.length ≤ c)
    (hC : Kd.C k24 W A (l.getD k z40).f1.length (l.getD k z40).f1) : RefsM W (l.take (k + 1)) (putL (l.getD k z40).f0 (.slice A (l.getD k z40).f1.length c) m) := by
  have e0 : l.getD k z40 = l[k] := by simp [List.getD_eq_getElem?_getD, List.getElem?_eq_getElem hk]
  rw [e0] at hc hC ⊢
  have e1 : l.take (k + 1) = l.take k ++ [l[k]] := List.take_succ_eq_append_getElem hk
  have hin : l[k] ∈ l.take (k + 1) := by rw [e1]; exact List.mem_append_right _ (List.mem_singleton.2 rfl)
  have hsub : ∀ u ∈ l.take k, u ∈ l.take (k + 1) := fun u hu => by rw [e1]; exact List.mem_append_left _ hu
  refine ⟨?_, fun p hp => ?_⟩
  · rw [putL_keys, h.1, e1]
    unfold keysN
    rw [List.map_append, List.foldl_append]
    rfl
  · unfold putL at hp
    split at hp
    · obtain ⟨q, hq, rfl⟩ := List.mem_map.1 hp
      split
      · exact ⟨_, hin, rfl, A, c, rfl, hc, hC⟩
      · obtain ⟨u, hu, e⟩ := h.2 q hq
        exact ⟨u, hsub u hu, e⟩
    · rcases List.mem_append.1 hp with hp | hp
      · obtain ⟨u, hu, e⟩ := h.2 p hp
        exact ⟨u, hsub u hu, e⟩
      · rw [List.mem_singleton] at hp
        subst hp
        exact ⟨_, hin, rfl, A, c, rfl, hc, hC⟩

def RefsPost (w : World) (l : List Us) (e : Ending) (w' : World) : Prop := ∃ b m, e = .returned (.map (some b)) ∧ w.heap.size ≤ b ∧ MapAt encN w' b m ∧ RefsM w l m ∧ Below w.heap.size w w'

def RefsOld (w0 w : World) (l : List Us) (e : Ending) (w' : World) : Prop := ∃ b m, e = .returned (.map (some b)) ∧ w.heap.size ≤ b ∧ MapAt encN w' b m ∧ RefsM w0 l m ∧ Below w.heap.size w w'
set_option maxRecDepth 100000 in
set_option maxHeartbeats 2000000 in
theorem refs_old (A : Option Addr) (c : Nat) (l : List Us) (w0 w : World) (hr : Kd.C k40 w0 A l.length l) (hb0 : Below w0.heap.size w0 w) (hc : l.length ≤ c) (hbig : l.length ≤ 1048576) (hok : ∀ u ∈ l, okN u.f0) :
    Calls Try.prog 26 #[.slice A l.length c] w (RefsOld w0 w l) := by
  have HR := Aside0.mk hr
  have HB0 := Aside0.mk hb0
  have HOK := Aside0.mk hok
  clear hr hok hb0
  obtain ⟨n, hn⟩ : ∃ n, n = l.length := ⟨_, rfl⟩
  have HN := Aside0.mk hn
  rw [← hn] at hc hbig ⊢
  clear hn
  have hmm := @run_makeMap Try.prog
  obtain ⟨g, hg⟩ : ∃ g, g = w.heap.size := ⟨_, rfl⟩
  have HG := Aside0.mk hg
  go_enter Try.func26, Try.ntmps26
  go_wp2
  rw [← hg]
  clear hg
  go_loopg [9] n (fun gg i wr => ∃ k : Nat, k ≤ n ∧ n - k ≤ gg ∧ i = .int .i64 k ∧ Aside0 (Below w.heap.size w wr) ∧ Aside0 (∃ m, MapAt encN wr g m ∧ RefsM w0 (l.take k) m))
  case atStart => exact ⟨0, Nat.zero_le _, by omega, rfl, Aside0.mk (below_alloc (Below.refl _ w) _), Aside0.mk ⟨[], by rw [HG.out]; exact MapAt.new encN w, rfl, fun p hp => by cases hp⟩⟩
  case round =>
    obtain ⟨k, hk, hgg, rfl, BW, HM⟩ := hrel
    by_cases hlt : k < n
    · have hltz : (k : Int) < (n : Int) := by omega
      obtain ⟨ad, A2, c2, rfl, h0, h1, h2, h3, h4⟩ := at_T40 HR.out (k : Int) (by omega) (by have := HN.out; omega)
      have hadl := World.block_lt_of_cell? _ _ h0
      have hbw : Below w0.heap.size w0 wr := below_step HB0.out BW.out
      rw [← hbw.cell (p := ad.add ((k : Int).toNat * 3)) hadl] at h0
      rw [← hbw.cell (p := ⟨(ad.add ((k : Int).toNat * 3)).block, (ad.add ((k : Int).toNat * 3)).off + 1, none⟩) hadl] at h1
      rw [← hbw.cell (p := ⟨(ad.add ((k : Int).toNat * 3)).block, (ad.add ((k : Int).toNat * 3)).off + 2, none⟩) hadl] at h2
      clear hadl hbw
      obtain ⟨m, hm, hM⟩ := HM.out
      have hkl : k < l.length := by have := HN.out; omega
      have hst := hM.step hkl (A := A2) (c := c2) (by have := h3; simp only [rd_T40, Int.toNat_natCast] at this; exact this) (by have := h4; simp only [rd_T40, Int.toNat_natCast] at this; exact this)
      have hz : rd_T40 l k = l.getD k z40 := by simp [rd_T40]
      rw [hz] at h0 h1 h2 h3 h4
      have hyk : okN (l.getD k z40).f0 := HOK.out _ (by rw [List.getD_eq_getElem?_getD, List.getElem?_eq_getElem hkl]; exact List.getElem_mem _)
      have HST := Aside0.mk hst
      have HMA := Aside0.mk hm
      have HMO := Aside0.mk (hM.ok (fun u hu => HOK.out u (List.mem_of_mem_take hu)))
      have HYK := Aside0.mk hyk
      clear hst hm hM hyk HM h3 h4 hz
      generalize l.getD k z40 = y at *
      obtain ⟨⟨y0, y1⟩, y2⟩ := y
      simp only [Int.toNat_natCast] at h0 h1 h2
      go_wp2_with (at_mapUpdate; refine wpList_mapStore _ rfl _ _ _ 57 rfl kN 25 Try.underlying57 g m rfl (HMA.out.alloc _) HMO.out ⟨y0, y1⟩ rfl HYK.out (.slice A2 y2.length c2) rfl ?_; intro w1 hm1 ht1)
      have hb1 := (below_alloc (Below.refl _ wr) (.cells #[.string y0, .int .i64 y1, .slice A2 y2.length c2] 40))
      have hb2 : Below w.heap.size w w1 := ((BW.out.trans (hb1.mono BW.out.size))).grown ht1.grown (by have := BW.out.size; simp; omega) (fun k hk => by injection hk with hk; rw [← hk, HG.out]; exact Nat.le_refl _)
      go_roundg (n - (k + 1))
      case measure => omega
      case rel => exact ⟨k + 1, by omega, by omega, by go_num, Aside0.mk hb2, Aside0.mk ⟨_, hm1, HST.out⟩⟩
    · obtain rfl : k = n := by omega
      have hltz : ¬ (k : Int) < (k : Int) := by omega
      go_wp2
      go_ret
      obtain ⟨m, hm, hM⟩ := HM.out
      exact ⟨g, m, rfl, by rw [HG.out]; exact Nat.le_refl _, hm, by rw [List.take_of_length_le (by have := HN.out; omega)] at hM; exact hM, BW.out⟩
theorem refs_any (A : Option Addr) (c : Nat) (l : List Us) (w : World) (hr : Kd.C k40 w A l.length l) (hc : l.length ≤ c) (hbig : l.length ≤ 1048576) (hok : ∀ u ∈ l, okN u.f0) :
    Calls Try.prog 26 #[.slice A l.length c] w (RefsPost w l) := refs_old A c l w w hr (Below.refl _ _) hc hbig hok
end Go.Proofs.Ytddjhmelniphgaa.Print
