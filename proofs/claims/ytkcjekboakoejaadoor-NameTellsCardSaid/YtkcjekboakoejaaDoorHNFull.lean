/- Contract of name.Full: which texts are full names. -/
import Derived.Test.YtkcjekboakoejaaDoorHSplit
import Derived.Test.YtkcjekboakoejaaDoorHNSimple
import Derived.Lib.AtoiErrMem
namespace Go.Proofs.YtkcjekboakoejaaDoor.Print
open Go Go.RowKit Go.Shelf Go.Proofs.YtkcjekboakoejaaDoorW.PrintWords Go.Proofs.YtkcjekboakoejaaDoorW.PrintLast
set_option linter.unusedVariables false
set_option linter.unusedSimpArgs false
attribute [local go_sem] Oper.semAt_some

/-- Which texts are full names. -/
def fullB (s : ByteArray) : Bool := (partsB 46 s.size s).all simpleB && decide (s.size ≤ 128)

theorem keeps_of_below {W W' : World} (h : Below W.heap.size W W') : KeepsOthers W W' :=
  .of_grownBy (row := none) ⟨h.os, h.tape, h.output, h.size, fun k hk _ => h.block k hk⟩ (fun j o e _ => by cases e)

set_option maxRecDepth 100000 in
set_option maxHeartbeats 4000000 in
theorem full_any (s : ByteArray) (hs : s.size ≤ 140737488351232) (w : World) : Calls Tryd.prog 16 #[.string s] w fun e w' => e = .returned (.bool (fullB s)) ∧ Below w.heap.size w w' := by
  have hn : fullB s = fullB s := rfl
  conv at hn => rhs; unfold fullB
  have HN := Aside0.mk hn
  clear hn
  refine (callsIn_wide (n := 5)).1 ?_
  refine callsIn_of_wp_marks Tryd.func16 rfl trivial ?_ rfl
  simp only [Tryd.ntmps16, List.size_toArray, List.length_cons, List.length_nil, Nat.reduceAdd, Nat.reduceSub, Array.replicate_succ, Array.replicate_zero, List.push_toArray, List.append_toArray, List.nil_append, List.cons_append]
  gi_wp2_with (refine ⟨trivial, ?_⟩; gi_at_call 41; refine (callsIn_wide.2 (splitSeq_any s ⟨#[46]⟩ _)).mono ?_; rintro e w' ⟨rfl, rfl⟩)
  obtain ⟨w3, hw3⟩ : ∃ w3, w3 = (((w.alloc (.cells #[.bool false] 4)).alloc (.cells #[.string s] 9)).alloc (.cells #[.string ⟨#[46]⟩] 9)).alloc (.cells #[.int .i64 0] 3) := ⟨_, rfl⟩
  rw [← hw3]
  have hsz : w3.heap.size = w.heap.size + 1 + 1 + 1 + 1 := by rw [hw3]; simp
  have hB0 : Below w.heap.size w w3 := by
    rw [hw3]
    exact ((((Below.refl _ w).alloc (Nat.le_refl _) _).alloc (by simp) _).alloc (by simp; omega) _).alloc (by simp; omega) _
  have b0 : w3.heap[w.heap.size]? = some (.cells #[.bool false] 4 (0, 0)) := by
    rw [hw3]
    exact (Below.heap_alloc _ _ _ (by simp only [World.size_alloc]; omega)).trans ((Below.heap_alloc _ _ _ (by simp only [World.size_alloc]; omega)).trans ((Below.heap_alloc _ _ _ (by simp only [World.size_alloc]; omega)).trans (World.alloc_heap_new w (.cells #[.bool false] 4))))
  have b1 : w3.heap[w.heap.size + 1]? = some (.cells #[.string s] 9 (0, 0)) := by
    rw [hw3]
    exact (Below.heap_alloc _ _ _ (by simp only [World.size_alloc]; omega)).trans ((Below.heap_alloc _ _ _ (by simp only [World.size_alloc]; omega)).trans (by have := World.alloc_heap_new (w.alloc (.cells #[.bool false] 4)) (.cells #[.string s] 9); simpa only [World.size_alloc] using this))
  have b2 : w3.heap[w.heap.size + 1 + 1]? = some (.cells #[.string ⟨#[46]⟩] 9 (0, 0)) := by
    rw [hw3]
    exact (Below.heap_alloc _ _ _ (by simp only [World.size_alloc]; omega)).trans (by have := World.alloc_heap_new ((w.alloc (.cells #[.bool false] 4)).alloc (.cells #[.string s] 9)) (.cells #[.string ⟨#[46]⟩] 9); simpa only [World.size_alloc] using this)
  have b3 : w3.heap[w.heap.size + 1 + 1 + 1]? = some (.cells #[.int .i64 0] 3 (0, 0)) := by
    rw [hw3]
    have := World.alloc_heap_new (((w.alloc (.cells #[.bool false] 4)).alloc (.cells #[.string s] 9)).alloc (.cells #[.string ⟨#[46]⟩] 9)) (.cells #[.int .i64 0] 3)
    simpa only [World.size_alloc] using this
  clear hw3
  have r0 := blk_cell b0 0
  have f0 := blk_frozen b0 0
  have HSZ := Aside0.mk hsz
  refine wpIn_range_own (B := w.heap.size + 1) (w0 := w3) (F := Fence.wide) (n := 5) (gf := 54) rfl (by decide) (lb := #[.pointer (some ⟨w.heap.size + 1 + 1, 0, none⟩), .pointer (some ⟨w.heap.size + 1, 0, none⟩), .pointer (some ⟨w.heap.size + 1 + 1 + 1, 0, none⟩)]) rfl trivial (enters_of Tryd.func54 (by kernel_rfl) rfl)
    (split_stops 4 46 s hs (w.heap.size + 1 + 1) (w.heap.size + 1) (w.heap.size + 1 + 1 + 1) w3.heap.size w3 (Nat.le_refl _) (by omega) (by omega) (by omega) (by omega) (by omega) (blk_cell b1 0) (blk_frozen b1 0) (blk_cell b2 0) (blk_cell b3 0))
    (by omega) belowK_t (belowK_b (Nat.le_refl _)) (Below.refl _ _) (fun _ => rfl)
    (fun pre W => ((∀ y ∈ pre, simpleB y = true) ∧ W.cell? ⟨w.heap.size, 0, none⟩ = some (.bool false) ∧ W.frozen? ⟨w.heap.size, 0, none⟩ = false ∧ w3.heap.size ≤ W.heap.size) ∧ Below w.heap.size w W)
    (fun c pre W => (c = .ret ∧ (∃ y ∈ pre, simpleB y = false) ∧ W.cell? ⟨w.heap.size, 0, none⟩ = some (.bool false)) ∧ Below w.heap.size w W)
    (OwnFrom.and (Own.from (fun s A B row hs hg hr => ⟨hs.1, cell_kept hs.2.1 hg hr, (frozen_kept hs.2.1 hg hr).trans hs.2.2.1, Nat.le_trans hs.2.2.2 hg.size⟩) _) (ownFrom_below (Nat.le_refl _) (by omega)))
    (fun c => OwnFrom.and (Own.from (fun s A B row hs hg hr => ⟨hs.1, hs.2.1, cell_kept hs.2.2 hg hr⟩) _) (ownFrom_below (Nat.le_refl _) (by omega)))
    (fun ys A C hs hc => ⟨⟨hs.1.1, (World.cell?_of_block (hc.2.2.2.2 _ (Lib.lt_of_cell hs.1.2.1) (by simp))).trans hs.1.2.1, (World.frozen?_of_block (hc.2.2.2.2 _ (Lib.lt_of_cell hs.1.2.1) (by simp))).trans hs.1.2.2.1, Nat.le_trans hs.1.2.2.2 hc.2.2.2.1⟩, hs.2.trans (hc.below (by omega) hs.2.size)⟩)
    (fun c ys A C hs hc => ⟨⟨hs.1.1, hs.1.2.1, (World.cell?_of_block (hc.2.2.2.2 _ (Lib.lt_of_cell hs.1.2.2) (by simp))).trans hs.1.2.2⟩, hs.2.trans (hc.below (by omega) hs.2.size)⟩)
    ⟨⟨by simp, r0, f0, Nat.le_refl _⟩, hB0⟩
    (fun x => { tmps := #[.string s, undef, .pointer (some ⟨w.heap.size, 0, none⟩), .string x, .string s, .func (.func 54) #[] #[.pointer (some ⟨w.heap.size + 1 + 1, 0, none⟩), .pointer (some ⟨w.heap.size + 1, 0, none⟩), .pointer (some ⟨w.heap.size + 1 + 1 + 1, 0, none⟩)], .string x, undef, undef, undef, undef, undef, undef], defers := [] }) ?assign ?body ?done ?stop
  case assign =>
    intro l x W K hK
    gi_wp2
    exact hK
  case body =>
    rintro l pre x W ⟨⟨hp, hc, hf, hz⟩, hB⟩ _
    have hsim := fun W => simple_any x W
    have hR : w.heap.size < W.heap.size := Lib.lt_of_cell hc
    cases hx : simpleB x with
    | true =>
      rw [hx] at hsim
      have HX := Aside0.mk hx
      clear hx
      gi_wp2_with (refine ⟨trivial, ?_⟩; gi_at_call 14; refine (CallsIn.inRound l (callsIn_wide.2 (hsim _))).mono ?_; rintro e w' ⟨rfl, hb⟩)
      have d0 := (hb.cell (p := ⟨w.heap.size, 0, none⟩) hR).trans hc
      have d1 := (hb.frozen (p := ⟨w.heap.size, 0, none⟩) hR).trans hf
      exact ⟨keeps_of_below hb, hb.mono hz, ⟨fun y hy => (List.mem_append.1 hy).elim (hp y) (fun e => by simp at e; subst e; exact HX.out), d0, d1, Nat.le_trans hz hb.size⟩, hB.trans (hb.mono hB.size)⟩
    | false =>
      rw [hx] at hsim
      have HX := Aside0.mk hx
      clear hx
      gi_wp2_with (refine ⟨trivial, ?_⟩; gi_at_call 14; refine (CallsIn.inRound l (callsIn_wide.2 (hsim _))).mono ?_; rintro e w' ⟨rfl, hb⟩; have d0 := (hb.cell (p := ⟨w.heap.size, 0, none⟩) hR).trans hc; have d1 := (hb.frozen (p := ⟨w.heap.size, 0, none⟩) hR).trans hf)
      exact ⟨(keeps_of_below hb).trans (KeepsOthers.setCell _ _ _), ⟨rfl, ⟨x, by simp, HX.out⟩, World.cell?_setCell_same' _ _ _ (by rw [d0]; rfl)⟩, (hB.trans (hb.mono hB.size)).setCell (p := ⟨w.heap.size, 0, none⟩) (Nat.le_refl _) _⟩
  case done =>
    rintro D ys W hD rfl ⟨⟨hp, hc, hf, hz⟩, hB⟩ hK
    have hall : (partsB 46 s.size s).all simpleB = true := List.all_eq_true.2 hp
    have HF := Aside0.mk (show fullB s = decide (s.size ≤ 128) by rw [HN.out, hall, Bool.true_and])
    clear hall hp
    gi_wp2
    have hK' := (KeepsOthers.setCell W ⟨w.heap.size, 0, none⟩ (.bool (decide ((s.size : Int) ≤ 128)))).same D _ hK rfl
    refine ⟨by simp, .inl ⟨_, _, rfl, run_takeDeferred hK', ?_⟩⟩
    have hc5 := cell_kept (World.cell?_setCell_same' W ⟨w.heap.size, 0, none⟩ (.bool (decide ((s.size : Int) ≤ 128))) (by rw [hc]; rfl)) (grownBy_putObj' _ D (.deferred none)) (fun r e => by cases e; exact ⟨_, hK', rfl⟩)
    refine ⟨.bool (decide ((s.size : Int) ≤ 128)), ?_, ?_, (hB.setCell (p := ⟨w.heap.size, 0, none⟩) (Nat.le_refl _) _).trans (belowK_b (w := w) (Nat.le_refl _) _ D _ _ (by omega) hK' rfl rfl)⟩
    · simp [results, Tryd.f16, go_sem, hc5]
    · rw [HF.out]
      congr 2
      rw [decide_eq_decide]
      omega
  case stop =>
    rintro D c pre W hD hpre ⟨⟨rfl, ⟨y, hy, hbad⟩, hc⟩, hB⟩ hK
    have hall : (partsB 46 s.size s).all simpleB = false := List.all_eq_false.2 ⟨y, hpre.subset hy, by rw [hbad]; decide⟩
    have HF := Aside0.mk (show fullB s = false by rw [HN.out, hall, Bool.false_and])
    clear hall hy hbad hpre
    gi_wp2
    refine ⟨by simp, .inl ⟨_, _, rfl, run_takeDeferred hK, ?_⟩⟩
    have hc5 := cell_kept hc (grownBy_putObj' _ D (.deferred none)) (fun r e => by cases e; exact ⟨_, hK, rfl⟩)
    refine ⟨.bool false, ?_, by rw [HF.out], hB.trans (belowK_b (w := w) (Nat.le_refl _) W D _ _ (by omega) hK rfl rfl)⟩
    simp [results, Tryd.f16, go_sem, hc5]
end Go.Proofs.YtkcjekboakoejaaDoor.Print
