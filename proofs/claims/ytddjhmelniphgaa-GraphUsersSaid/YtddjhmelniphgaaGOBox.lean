/- What stands while graph.Order goes through its nodes. -/
import Derived.Test.YtddjhmelniphgaaGVisN
import Derived.Test.YtddjhmelniphgaaGPred
import Derived.Test.YtddjhmelniphgaaHGMay
namespace Go.Proofs.Ytddjhmelniphgaa.Print
open Go Go.RowKit Go.Maps Go.ChangeMaps Go.Proofs.YtddjhmelniphgaaW.PrintWords Go.Proofs.YtddjhmelniphgaaW.PrintLast
set_option linter.unusedVariables false
set_option linter.unusedSimpArgs false
/-- The blocks: the set met and its box, the rows' map and its box, the function's box, the result's box. -/
structure OC where
  Bm : Nat
  bm : Nat
  Bg : Nat
  bg : Nat
  Br : Nat
  Bo : Nat
def cellsN (l : List Nd) : List Value := l.flatMap fun x => [.string x.f0, .int .i64 x.f1]
theorem cellsN_len (l : List Nd) : (cellsN l).length = l.length * 2 := by
  induction l with
  | nil => rfl
  | cons x r ih => simp only [cellsN, List.flatMap_cons, List.length_append, List.length_cons, List.length_nil] at ih ⊢; omega
theorem cellsN_one (l : List Nd) : ∀ u ∈ cellsN l, u.oneCell' = true := by
  intro u hu
  obtain ⟨x, _, hx⟩ := List.mem_flatMap.1 hu
  rcases List.mem_cons.1 hx with rfl | hx
  · rfl
  · rw [List.mem_singleton] at hx; rw [hx]; rfl
theorem cellsN_snoc (l : List Nd) (x : Nd) : cellsN (l ++ [x]) = cellsN l ++ [.string x.f0, .int .i64 x.f1] := by simp [cellsN]
structure OBox (w W : World) (C : OC) (fv : Value) (mp : List (Nd × Value)) (met out : List Nd) (v : Value) : Prop where
  b : Below w.heap.size w W
  m0 : W.heap[C.Bm]? = some (.cells #[.map (some C.bm)] 59 (0, 0))
  m1 : MapAt encN W C.bm (setM met)
  mok : ∀ x ∈ met, okN x
  g0 : W.heap[C.Bg]? = some (.cells #[.map (some C.bg)] 57 (0, 0))
  g1 : MapAt encN W C.bg mp
  r0 : W.heap[C.Br]? = some (.cells #[fv] 61 (0, 0))
  o0 : W.heap[C.Bo]? = some (.cells #[v] 25 (0, 0))
  o1 : W.ownsRow w.heap.size 24 2 v out.length (cellsN out)
  lem : w.heap.size ≤ C.bm
  leo : w.heap.size ≤ C.Bo
  ne : C.bm ≠ C.bg
theorem obox_below {w W W' : World} {C : OC} {fv v : Value} {mp : List (Nd × Value)} {met out : List Nd} (h : OBox w W C fv mp met out v) (hb : Below W.heap.size W W') : OBox w W' C fv mp met out v :=
  ⟨below_step h.b hb, blk_below h.m0 hb, h.m1.below hb, h.mok, blk_below h.g0 hb, h.g1.below hb, blk_below h.r0 hb, blk_below h.o0 hb, pw_own_below h.o1 hb, h.lem, h.leo, h.ne⟩
/-- What a part of the walk leaves alone. -/
structure FrameO (W W' : World) (C : OC) (v v' : Value) : Prop where
  os : W'.os = W.os
  tape : W'.tape = W.tape
  output : W'.output = W.output
  size : W.heap.size ≤ W'.heap.size
  block : ∀ k, k < W.heap.size → k ≠ C.bm → k ≠ C.Bo → some k ≠ v.ownBlock → W'.heap[k]? = W.heap[k]?
  own : v'.ownBlock = v.ownBlock ∨ v'.ownBlock = none ∨ ∃ b, v'.ownBlock = some b ∧ W.heap.size ≤ b
theorem FrameO.refl (W : World) (C : OC) (v : Value) : FrameO W W C v v := ⟨rfl, rfl, rfl, Nat.le_refl _, fun _ _ _ _ _ => rfl, .inl rfl⟩
theorem FrameO.trans {W W1 W2 : World} {C : OC} {v v1 v2 : Value} (h : FrameO W W1 C v v1) (h2 : FrameO W1 W2 C v1 v2) : FrameO W W2 C v v2 := by
  refine ⟨h2.os.trans h.os, h2.tape.trans h.tape, h2.output.trans h.output, Nat.le_trans h.size h2.size, fun k hk h3 h4 h5 => ?_, ?_⟩
  · refine (h2.block k (Nat.lt_of_lt_of_le hk h.size) h3 h4 ?_).trans (h.block k hk h3 h4 h5)
    rcases h.own with e | e | ⟨b, e, hb⟩
    · rw [e]; exact h5
    · rw [e]; intro h; cases h
    · rw [e]; intro h; injection h with h; omega
  · rcases h2.own with e | e | ⟨b, e, hb⟩
    · rw [e]; exact h.own
    · exact .inr (.inl e)
    · exact .inr (.inr ⟨b, e, Nat.le_trans h.size hb⟩)
theorem FrameO.of_below {W W' : World} {C : OC} {v : Value} (hb : Below W.heap.size W W') : FrameO W W' C v v := ⟨hb.os, hb.tape, hb.output, hb.size, fun k hk _ _ _ => hb.block k hk, .inl rfl⟩
/-- A block that is none of the three stays. -/
theorem FrameO.kept {W W' : World} {C : OC} {v v' : Value} (h : FrameO W W' C v v') {g : Nat} {o : Obj} (hg : W.heap[g]? = some o) (h1 : g ≠ C.bm) (h2 : g ≠ C.Bo) (h3 : some g ≠ v.ownBlock) : W'.heap[g]? = some o := (h.block g (Array.getElem?_eq_some_iff.1 hg).1 h1 h2 h3).trans hg
theorem own_typed {w : World} {base e sz n : Nat} {v : Value} {cs : List Value} (ho : w.ownsRow base e sz v n cs) {k : Nat} (hk : v.ownBlock = some k) : base ≤ k ∧ ∃ cur, w.heap[k]? = some (.cells cur e (0, 0)) := by
  rcases ho.2 with ⟨h, _⟩ | ⟨g, cap, cur, h, hg, hb, _⟩
  · rw [h] at hk; cases hk
  · rw [h] at hk
    obtain rfl := Option.some.inj hk
    exact ⟨hg, cur, hb⟩
section
variable {w W : World} {C : OC} {fv v : Value} {mp : List (Nd × Value)} {met out : List Nd}
theorem OBox.own_ne (h : OBox w W C fv mp met out v) {g : Nat} {cs : Array Value} {t : TypeId} (hg : W.heap[g]? = some (.cells cs t (0, 0))) (ht : t ≠ 24) : some g ≠ v.ownBlock := fun he => by
  obtain ⟨_, cur, hc⟩ := own_typed h.o1 he.symm
  rw [hg] at hc
  injection hc with hc
  injection hc with _ h2 _
  exact ht h2
theorem OBox.map_ne (h : OBox w W C fv mp met out v) {g : Nat} {cs : Array Value} {t : TypeId} (hg : W.heap[g]? = some (.cells cs t (0, 0))) : g ≠ C.bm := fun he => by
  obtain ⟨⟨es, clock, hb, _⟩, _⟩ := h.m1
  rw [← he, hg] at hb
  cases hb
theorem OBox.box_ne (h : OBox w W C fv mp met out v) {g : Nat} {cs : Array Value} {t : TypeId} (hg : W.heap[g]? = some (.cells cs t (0, 0))) (ht : t ≠ 25) : g ≠ C.Bo := fun he => by
  have := h.o0
  rw [← he, hg] at this
  injection this with hc
  injection hc with _ h2 _
  exact ht h2
theorem OBox.bm_own (h : OBox w W C fv mp met out v) {b : Nat} {l : List (Nd × Value)} (hm : MapAt encN W b l) : some b ≠ v.ownBlock := fun he => by
  obtain ⟨⟨es, clock, hb, _⟩, _⟩ := hm
  obtain ⟨_, cur, hc⟩ := own_typed h.o1 he.symm
  rw [hb] at hc
  cases hc
theorem OBox.bm_box (h : OBox w W C fv mp met out v) {b : Nat} {l : List (Nd × Value)} (hm : MapAt encN W b l) : b ≠ C.Bo := fun he => by
  obtain ⟨⟨es, clock, hb, _⟩, _⟩ := hm
  have := h.o0
  rw [← he, hb] at this
  cases this
/-- A node is met. -/
theorem OBox.mark (h : OBox w W C fv mp met out v) {x : Nd} (hx : x ∉ met) (hok : okN x) {W' : World} (hm : MapAt encN W' C.bm (putL x (.bool true) (setM met))) (ht : W.mapTurned W' C.bm) : OBox w W' C fv mp (met ++ [x]) out v ∧ FrameO W W' C v v := by
  have hg := ht.grown
  have hbl : ∀ k, k < W.heap.size → k ≠ C.bm → W'.heap[k]? = W.heap[k]? := fun k hk hne => hg.block k hk (by intro e; injection e with e; exact hne e)
  have keep : ∀ {g : Nat} {cs : Array Value} {t : TypeId}, W.heap[g]? = some (.cells cs t (0, 0)) → W'.heap[g]? = some (.cells cs t (0, 0)) := fun {g cs t} h2 => (hbl g (Array.getElem?_eq_some_iff.1 h2).1 (h.map_ne h2)).trans h2
  refine ⟨⟨h.b.grown hg h.b.size (fun k hk => by injection hk with hk; rw [← hk]; exact h.lem), keep h.m0, ?_, ?_, keep h.g0, h.g1.later (hbl _ h.g1.lt (Ne.symm h.ne)), keep h.r0, keep h.o0, own_other h.o1 hg ?_, h.lem, h.leo, h.ne⟩, ?_⟩
  · rw [setM_put] at hm
    unfold addN at hm
    rw [if_neg hx] at hm
    exact hm
  · intro y hy
    rcases List.mem_append.1 hy with hy | hy
    · exact h.mok y hy
    · rw [List.mem_singleton] at hy; rw [hy]; exact hok
  · cases hv : v.ownBlock with
    | none => exact .inl rfl
    | some k => exact .inr (by rw [← hv]; exact (h.bm_own h.m1).symm)
  · exact ⟨hg.os, hg.tape, hg.output, hg.size, fun k hk h1 _ _ => hbl k hk h1, .inl rfl⟩
end
theorem refs_at {w : World} {l : List Us} {mp : List (Nd × Value)} (h : RefsM w l mp) (hn : (mp.map (·.1)).Nodup) (hs : SortedU l) {x : Nd} (hx : inN l x = true) :
    ∃ A c, (look x mp).getD (.slice none 0 0) = .slice A (refsOf l x).length c ∧ (refsOf l x).length ≤ c ∧ Kd.C k24 w A (refsOf l x).length (refsOf l x) := by
  unfold inN at hx
  rw [decide_eq_true_iff, List.mem_map] at hx
  obtain ⟨u, hu, rfl⟩ := hx
  have h1 : u.f0 ∈ mp.map (·.1) := by rw [h.1]; exact mem_keysN hu
  obtain ⟨p, hp, he⟩ := List.mem_map.1 h1
  obtain ⟨u2, hu2, e2, A, c, h3, h4, h5⟩ := h.2 p hp
  have e3 : refsOf l u.f0 = u2.f1 := by rw [← he, ← e2]; exact refsOf_row hs hu2
  rw [e3]
  refine ⟨A, c, ?_, h4, h5⟩
  have h6 : (p.1, p.2) ∈ mp := hp
  rw [← he, look_at hn h6, h3]
  rfl
end Go.Proofs.Ytddjhmelniphgaa.Print
