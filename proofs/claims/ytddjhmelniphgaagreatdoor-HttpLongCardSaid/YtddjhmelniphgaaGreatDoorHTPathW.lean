/- Contract of the function within http.Path. -/
import Derived.Test.YtddjhmelniphgaaGreatDoorHAn
import Derived.Test.YtddjhmelniphgaaGreatDoorHTWalkP
import Derived.Shelf.RegionOpen
import Derived.OwnWalkIn
namespace Go.Proofs.YtddjhmelniphgaaGreatDoor.Print
open Go Go.RowKit Go.Proofs.YtddjhmelniphgaaGreatDoorW.PrintWords Go.Proofs.YtddjhmelniphgaaGreatDoorW.PrintLast
set_option linter.unusedVariables false
set_option linter.unusedSimpArgs false
attribute [local go_sem] Oper.semAt_some
theorem extract_tail (s : List UInt8) (k : Nat) : (bs s).extract k (bs s).size = bs (s.drop k) := by
  apply ByteArray.ext
  rw [ByteArray.data_extract]
  apply Array.ext'
  unfold bs
  have hsz : (⟨s.toArray⟩ : ByteArray).size = s.length := rfl
  simp [hsz]
  exact List.take_of_length_le (by rw [List.length_drop]; omega)
/-- What http.Path's caller has behind it. -/
def pathPost (E L Q : Nat) (s : List UInt8) (w : World) (e : Ending) (w' : World) : Prop :=
  e = .returned (.tuple #[]) ∧ But3 E L Q w w' ∧ match pathL s with
    | none => w'.heap[E]? = some (.cells #[.int .i64 291] 26 (0, 0)) ∧ (∃ v, w'.heap[L]? = some (.cells #[v] 40 (0, 0))) ∧ (∃ v, w'.heap[Q]? = some (.cells #[v] 23 (0, 0)))
    | some (ls, qs) => w'.heap[E]? = w.heap[E]? ∧ ∃ v u, w'.heap[L]? = some (.cells #[v] 40 (0, 0)) ∧ w'.ownsRow w.heap.size 9 1 v ls.length (scells ls) ∧ w'.heap[Q]? = some (.cells #[u] 23 (0, 0)) ∧ w'.ownsRow w.heap.size 59 2 u qs.length (hcells qs)
section
variable {n : Nat} {tmps : Array Value} {R : Ending → World → Prop} {w : World} {ds : List Deferred} {u : FrameMode}
theorem leave_mark {fn : Func} {D : Nat} (hu : u ≠ .run) (hD : w.heap[D]? = some (.deferred (some []))) (h : LeavesInM Fence.wide n Tryz.prog fn tmps R ds u (w.putObj D (.deferred none))) : LeavesInM Fence.wide n Tryz.prog fn tmps R ({ target := .collected D, args := #[] } :: ds) u w :=
  ⟨hu, .inl ⟨_, _, rfl, run_takeDeferred hD, h⟩⟩
theorem leave_oops {E : Nat} {x er : Int} (hn : 1 ≤ n) (hE : w.heap[E]? = some (.cells #[.int .i64 x] 26 (0, 0))) (h : R (.returned (.tuple #[])) (w.setCell ⟨E, 0, none⟩ (.int .i64 er))) :
    LeavesInM Fence.wide n Tryz.prog Tryz.f43 tmps R [{ target := Target.fn (Fn.func 27) #[], args := #[Value.pointer (some { block := E, off := 0 })] }] (.panicking (oops er)) w := by
  obtain ⟨g1, g2⟩ := caught_oopsIn (n - 1) ⟨E, 0, none⟩ x er w (blk_cell hE 0) (blk_frozen hE 0)
  refine ⟨by simp, .inr ⟨fun _ => hn, _, _, 27, #[.pointer (some ⟨E, 0, none⟩)], rfl, by simp [go_sem], fun _ _ => trivial, g1, fun c cs hu hr => ?_⟩⟩
  obtain ⟨e, u', w', fr, ⟨rfl, rfl, rfl⟩, s⟩ := g2 c cs hu hr
  refine ⟨_, _, _, fr, ?_, s⟩
  exact ⟨_, by simp [results, Tryz.f43, go_sem], h⟩
theorem leave_idle {E : Nat} (hn : 1 ≤ n) (h : R (.returned (.tuple #[])) w) :
    LeavesInM Fence.wide n Tryz.prog Tryz.f43 tmps R [{ target := Target.fn (Fn.func 27) #[], args := #[Value.pointer (some { block := E, off := 0 })] }] .returning w := by
  obtain ⟨g1, g2⟩ := caught_idleIn (n - 1) ⟨E, 0, none⟩ w
  refine ⟨by simp, .inr ⟨fun _ => hn, _, _, 27, #[.pointer (some ⟨E, 0, none⟩)], rfl, by simp [go_sem], fun _ _ => trivial, g1, fun c cs hu hr => ?_⟩⟩
  obtain ⟨e, u', w', fr, ⟨rfl, rfl, rfl⟩, s⟩ := g2 c cs hu hr
  refine ⟨_, _, _, fr, ?_, s⟩
  exact ⟨_, by simp [results, Tryz.f43, go_sem], h⟩
end
theorem but3_mark {E R M D : Nat} {w W : World} {o : Obj} (h : But3 E R M w W) (hD : w.heap.size ≤ D) : But3 E R M w (W.putObj D o) :=
  ⟨h.os, h.tape, h.output, by simpa [World.putObj] using h.size, fun k hk h1 h2 h3 => (World.putObj_heap_other zy4).trans (h.old k hk h1 h2 h3)⟩
theorem but3_own2 {E R M : Nat} {w W4 W : World} (hb : Below w.heap.size w W4) (hk : OwnStep R W4 W) : But3 E R M w W :=
  ⟨hk.1.trans hb.os, hk.2.1.trans hb.tape, hk.2.2.1.trans hb.output, Nat.le_trans hb.size hk.2.2.2.1, fun k h _ h2 _ => (hk.2.2.2.2 k (Nat.lt_of_lt_of_le h hb.size) h2).trans (hb.block k h)⟩
theorem but3_two {E R M : Nat} {w W4 W W' : World} (hb : Below w.heap.size w W4) (h1 : OwnStep R W4 W) (h2 : OwnStep M W W') : But3 E R M w W' :=
  ⟨h2.1.trans (h1.1.trans hb.os), h2.2.1.trans (h1.2.1.trans hb.tape), h2.2.2.1.trans (h1.2.2.1.trans hb.output), Nat.le_trans hb.size (Nat.le_trans h1.2.2.2.1 h2.2.2.2.1),
    fun k hk e1 e2 e3 => (h2.2.2.2.2 k (Nat.lt_of_lt_of_le hk (Nat.le_trans hb.size h1.2.2.2.1)) e3).trans ((h1.2.2.2.2 k (Nat.lt_of_lt_of_le hk hb.size) e2).trans (hb.block k hk))⟩
theorem own_low {W : World} {n1 n2 : Nat} {e : TypeId} {z : Nat} {v : Value} {k : Nat} {xs : List Value} (h : W.ownsRow n1 e z v k xs) (hn : n2 ≤ n1) : W.ownsRow n2 e z v k xs := by
  refine ⟨h.1, h.2.imp id ?_⟩
  rintro ⟨g, cap, cur, h1, h2, h3, h4⟩
  exact ⟨g, cap, cur, h1, Nat.le_trans hn h2, h3, h4⟩
theorem get_putD {W : World} {D g : Nat} {o : Obj} {cs : Array Value} {e : TypeId} {r : Option (List Deferred)} (hD : W.heap[D]? = some (.deferred r)) (h : W.heap[g]? = some (.cells cs e (0, 0))) : (W.putObj D o).heap[g]? = some (.cells cs e (0, 0)) := by
  refine (World.putObj_heap_other ?_).trans h
  rintro rfl
  rw [hD] at h
  cases h
theorem str_info : (Tryz.prog.info? 9).map (fun i => (i.zero, i.size, i.bytes)) = some (some (.string ByteArray.empty), 1, 16) := by kernel_rfl
/-- append(l, y), of a row of texts that one owns. -/
theorem append_str {W w9 : World} {n1 : Nat} {A0 : Option Addr} {cp0 : Nat} {ys : List ByteArray} (y : ByteArray) (h3 : W.ownsRow n1 9 1 (.slice A0 ys.length cp0) ys.length (scells ys)) (hb : Below W.heap.size W w9) (hn : n1 ≤ W.heap.size) (hlen : ys.length ≤ 1048577) :
    ∃ A1 cp1 w10, (∀ ty, (Builtin.append_ #[40, 40] ty #[.slice A0 ys.length cp0, .slice (some ⟨w9.heap.size, 0, none⟩) 1 1]).run Tryz.prog (w9.alloc (.cells #[.string y] 9)) = .ok (.slice A1 (ys.length + 1) cp1) w10) ∧
      w10.ownsRow n1 9 1 (.slice A1 (ys.length + 1) cp1) (ys.length + 1) (scells (ys ++ [y])) ∧ (w9.alloc (.cells #[.string y] 9)).grownBy w10 (Value.slice A0 ys.length cp0).ownBlock := by
  obtain ⟨i0, hin, hz0, hz1, hz2⟩ := info_parts str_info
  have hown : (w9.alloc (.cells #[.string y] 9)).ownsRow n1 9 1 (.slice A0 ys.length cp0) ys.length (scells ys) :=
    ownsRow_same h3 (fun g cs hg hx => (Below.heap_alloc _ _ _ (Array.getElem?_eq_some_iff.1 (get_below hx hb)).1).trans (get_below hx hb))
  have hk : ∀ ty, ∃ v' w', (Builtin.append_ #[40, 40] ty #[.slice A0 ys.length cp0, .slice (some ⟨w9.heap.size, 0, none⟩) 1 1]).run Tryz.prog (w9.alloc (.cells #[.string y] 9)) = .ok v' w' ∧ w'.ownsRow n1 9 1 v' (ys.length + 1) (scells ys ++ [.string y]) ∧ (w9.alloc (.cells #[.string y] 9)).grownBy w' (Value.slice A0 ys.length cp0).ownBlock := fun ty => by
    obtain ⟨v', w', hrun, r1, r2, _⟩ := run_append_own (P := Tryz.prog) (w9.alloc (.cells #[.string y] 9)) n1 40 ty 9 i0 _ 1 16 Tryz.underlying40 hin hz0 hz1 hz2 rfl zy6 (.slice A0 ys.length cp0) ys.length (scells ys) hown ⟨w9.heap.size, 0, none⟩ 1 1 [.string y] rfl
      (by intro j u hj; rw [Addr.add_lit, Nat.zero_add, World.cell?_alloc_new]; simpa using hj) (by intro u hu; simp only [List.mem_cons, List.not_mem_nil, or_false] at hu; subst hu; rfl) (by unfold maxLen; omega) zy4 (by rw [World.size_alloc]; have := hb.size; omega)
    exact ⟨v', w', hrun, r1, r2⟩
  obtain ⟨v', w', hrun, r1, r2⟩ := hk 0
  obtain ⟨A1, cp1, rfl⟩ := own_form r1
  exact ⟨A1, cp1, w', fun ty => (show (Builtin.append_ #[40, 40] ty _).run Tryz.prog _ = (Builtin.append_ #[40, 40] 0 _).run Tryz.prog _ from rfl).trans hrun, by rw [scells, List.map_append]; exact r1, r2⟩
/-- append(query, h), of a row of headers that one owns. -/
theorem append_hd {W w9 : World} {n1 : Nat} {A0 : Option Addr} {cp0 : Nat} {ys : List Hd} (y : Hd) (h3 : W.ownsRow n1 59 2 (.slice A0 ys.length cp0) ys.length (hcells ys)) (hb : Below W.heap.size W w9) (hn : n1 ≤ W.heap.size) (hlen : ys.length ≤ 1048577) :
    ∃ A1 cp1 w10, (∀ ty, (Builtin.append_ #[23, 23] ty #[.slice A0 ys.length cp0, .slice (some ⟨w9.heap.size, 0, none⟩) 1 1]).run Tryz.prog (w9.alloc (.cells #[.string y.f0, .string y.f1] 59)) = .ok (.slice A1 (ys.length + 1) cp1) w10) ∧
      w10.ownsRow n1 59 2 (.slice A1 (ys.length + 1) cp1) (ys.length + 1) (hcells (ys ++ [y])) ∧ (w9.alloc (.cells #[.string y.f0, .string y.f1] 59)).grownBy w10 (Value.slice A0 ys.length cp0).ownBlock := by
  obtain ⟨i0, hin, hz0, hz1, hz2⟩ := info_parts hd_info
  have hown : (w9.alloc (.cells #[.string y.f0, .string y.f1] 59)).ownsRow n1 59 2 (.slice A0 ys.length cp0) ys.length (hcells ys) :=
    ownsRow_same h3 (fun g cs hg hx => (Below.heap_alloc _ _ _ (Array.getElem?_eq_some_iff.1 (get_below hx hb)).1).trans (get_below hx hb))
  have hk : ∀ ty, ∃ v' w', (Builtin.append_ #[23, 23] ty #[.slice A0 ys.length cp0, .slice (some ⟨w9.heap.size, 0, none⟩) 1 1]).run Tryz.prog (w9.alloc (.cells #[.string y.f0, .string y.f1] 59)) = .ok v' w' ∧ w'.ownsRow n1 59 2 v' (ys.length + 1) (hcells ys ++ [.string y.f0, .string y.f1]) ∧ (w9.alloc (.cells #[.string y.f0, .string y.f1] 59)).grownBy w' (Value.slice A0 ys.length cp0).ownBlock := fun ty => by
    obtain ⟨v', w', hrun, r1, r2, _⟩ := run_append_own (P := Tryz.prog) (w9.alloc (.cells #[.string y.f0, .string y.f1] 59)) n1 23 ty 59 i0 _ 2 32 Tryz.underlying23 hin hz0 hz1 hz2 rfl zy6 (.slice A0 ys.length cp0) ys.length (hcells ys) hown ⟨w9.heap.size, 0, none⟩ 1 1 [.string y.f0, .string y.f1] rfl
      (by intro j u hj; rw [Addr.add_lit, Nat.zero_add, World.cell?_alloc_new]; simpa using hj) (by intro u hu; simp only [List.mem_cons, List.not_mem_nil, or_false] at hu; rcases hu with rfl | rfl <;> rfl) (by unfold maxLen; omega) zy4 (by rw [World.size_alloc]; have := hb.size; omega)
    exact ⟨v', w', hrun, r1, r2⟩
  obtain ⟨v', w', hrun, r1, r2⟩ := hk 0
  obtain ⟨A1, cp1, rfl⟩ := own_form r1
  exact ⟨A1, cp1, w', fun ty => (show (Builtin.append_ #[23, 23] ty _).run Tryz.prog _ = (Builtin.append_ #[23, 23] 0 _).run Tryz.prog _ from rfl).trans hrun, by rw [hcells_snoc]; exact r1, r2⟩
set_option maxRecDepth 100000 in
set_option maxHeartbeats 4000000 in
theorem path_in (E T L Q : Nat) (hne : E ≠ L ∧ E ≠ Q ∧ L ≠ Q ∧ T ≠ E ∧ T ≠ L ∧ T ≠ Q) (s : List UInt8) (hs : s.length ≤ 1048575) (w : World) (HL : Laid0 w)
    (hf : ∀ k, k = L ∨ k = Q → 0 ≠ k ∧ 1 ≠ k ∧ 2 ≠ k ∧ 4 ≠ k)
    (hE : w.heap[E]? = some (.cells #[.int .i64 0] 26 (0, 0))) (hT : w.heap[T]? = some (.cells #[.string (bs s)] 9 (0, 0))) (hLl : w.heap[L]? = some (.cells #[.slice none 0 0] 40 (0, 0))) (hQl : w.heap[Q]? = some (.cells #[.slice none 0 0] 23 (0, 0))) :
    Calls Tryz.prog 43 #[.pointer (some ⟨E, 0, none⟩), .pointer (some ⟨T, 0, none⟩), .pointer (some ⟨L, 0, none⟩), .pointer (some ⟨Q, 0, none⟩)] w (pathPost E L Q s w) := by
  obtain ⟨m, hm⟩ := HL.max
  have hml : 0 < w.heap.size := Lib.lt_of_cell hm
  have HLA := Aside0.mk HL
  have htg := target_any (bs s) w
  have cT := blk_cell hT 0
  have HPL := Aside0.mk (show pathL s = (if targetB (bs s) = true then (runO stepS (enumL 0 (partsL [47] (tgtP s).length (tgtP s))) []).bind fun ls => (runO (stepQ (tgtQ s)) (enumL 0 (partsL [38] (tgtQ s).length (tgtQ s))) []).map fun qs => (ls, qs) else none) from rfl)
  refine calls_of_wpF (n := 6) Tryz.func43 rfl ?_
  simp only [Tryz.ntmps43, List.size_toArray, List.length_cons, List.length_nil, Nat.reduceAdd, Nat.reduceSub, Array.replicate_succ, Array.replicate_zero, List.push_toArray, List.append_toArray, List.nil_append, List.cons_append]
  refine wpF_seq (wpF_of ?_)
  gi_wp2
  cases htb : targetB (bs s) with
  | false =>
    rw [htb] at htg
    refine wpF_seq (wpF_of ?_)
    gi_wp2_with (first | (refine ⟨trivial, ?_⟩; gi_at_call 32; (with_reducible refine (callsIn_wide.2 htg).mono ?_); rintro e w1 ⟨rfl, hb1⟩; have H1 := Aside0.mk hb1; clear hb1) | (refine ⟨trivial, ?_⟩; gi_at_call 44; (with_reducible refine (callsIn_wide.2 (must_false 291 _)).mono ?_); rintro e w2 ⟨rfl, rfl⟩))
    have kE := blk_below hE H1.out
    refine leave_oops zy6 kE ?_
    have hp : pathL s = none := by rw [HPL.out, htb]; rfl
    refine ⟨rfl, (⟨H1.out.os, H1.out.tape, H1.out.output, H1.out.size, fun k hk _ _ _ => H1.out.block k hk⟩ : But3 E L Q w w2).set (.inl rfl), ?_⟩
    rw [hp]
    exact ⟨by have := blk_setT (o := 0) kE (.int .i64 291); simpa using this, ⟨_, get_set (blk_below hLl H1.out) (fun h => hne.1 h.symm)⟩, ⟨_, get_set (blk_below hQl H1.out) (fun h => hne.2.1 h.symm)⟩⟩
  | true =>
    rw [htb] at htg
    rw [htb, if_pos rfl] at HPL
    have hs1 : 1 ≤ s.length := by
      cases s with
      | nil => exact absurd htb zy6
      | cons a r => simp
    have hcut := fun W (hb : Below w.heap.size w W) => cut_any (s.drop 1) [63] (by rw [List.length_drop]; omega) W m ((hb.cell (Lib.lt_of_cell hm)).trans hm)
    have e63 : bs [63] = (⟨#[63]⟩ : ByteArray) := rfl
    have eT : bs (s.drop 1) = (bs s).extract 1 (bs s).size := (extract_tail s 1).symm
    simp only [e63, eT] at hcut
    clear e63 eT
    have hle := cut_le (s.drop 1) [63]
    rw [List.length_drop] at hle
    have eP : (Lib.cut (s.drop 1) [63]).1 = tgtP s := rfl
    have eQ : (Lib.cut (s.drop 1) [63]).2.1 = tgtQ s := rfl
    rw [eP, eQ] at hle
    simp only [eP, eQ] at hcut
    clear eP eQ
    have HLE := Aside0.mk (show (tgtP s).length ≤ 1048575 ∧ (tgtQ s).length ≤ 1048575 from ⟨by omega, by omega⟩)
    clear hle
    generalize tgtP s = pp at *
    generalize tgtQ s = qq at *
    generalize (Lib.cut (s.drop 1) [63]).2.2 = cb at *
    refine wpF_seq (wpF_of ?_)
    gi_wp2_with (first | (refine ⟨trivial, ?_⟩; gi_at_call 32; (with_reducible refine (callsIn_wide.2 htg).mono ?_); rintro e w1 ⟨rfl, hb1⟩; have H1 := Aside0.mk hb1; have cT1 := blk_cell (blk_below hT hb1) 0; clear hb1) | (refine ⟨trivial, ?_⟩; gi_at_call 44; (with_reducible refine (callsIn_wide.2 (must_true 291 _)).mono ?_); rintro e w2 ⟨rfl, rfl⟩))
    have g1 : (1 : Int) ≤ ((bs s).size : Int) := by have : (bs s).size = s.length := rfl; omega
    refine wpF_seq (wpF_of ?_)
    gi_wp2_with (refine ⟨trivial, ?_⟩; gi_at_call 30; go_loud ((with_reducible refine (callsIn_wide.2 (hcut _ H1.out)).mono ?_); rintro e w3 ⟨rfl, hb3⟩; have H3 := Aside0.mk hb3; clear hb3))
    have hH3 := H1.out.trans (H3.out.mono H1.out.size)
    obtain ⟨W4, hW4⟩ : ∃ W4, W4 = w3.alloc (Obj.cells #[Value.string (bs qq)] 9) := ⟨_, rfl⟩
    rw [← hW4]
    have hb4 : Below w3.heap.size w3 W4 := by rw [hW4]; exact (Below.refl _ w3).alloc (Nat.le_refl _) _
    have kq4 : W4.heap[w3.heap.size]? = some (.cells #[Value.string (bs qq)] 9 (0, 0)) := by rw [hW4]; exact World.alloc_heap_new w3 _
    have hb04 := hH3.trans (hb4.mono hH3.size)
    have hs03 := hH3.size
    clear hW4
    generalize hBq : w3.heap.size = Bq at *
    have HBQ := Aside0.mk (show w.heap.size ≤ Bq from hs03)
    clear hcut cT1 cT htg g1 hs03 hBq
    refine wpF_seq (wpF_seq (wpF_of ?_))
    gi_wp2_with (refine ⟨trivial, ?_⟩; gi_at_call 45; (refine (callsIn_wide.2 (parts_any _ _ _)).mono ?_); rintro e w6 ⟨rfl, rfl⟩)
    obtain ⟨W6, hW6⟩ : ∃ W6, W6 = (W4.alloc (Obj.cells #[Value.string (bs pp)] 9)).alloc (Obj.cells #[Value.string ⟨#[47]⟩] 9) := ⟨_, rfl⟩
    rw [← hW6]
    have hb6 : Below W4.heap.size W4 W6 := by rw [hW6]; exact ((Below.refl _ W4).alloc (Nat.le_refl _) _).alloc zy3 _
    have ks : W6.heap[W4.heap.size]? = some (.cells #[Value.string (bs pp)] 9 (0, 0)) := by
      rw [hW6]; exact (Below.heap_alloc _ _ _ zy3).trans (World.alloc_heap_new W4 _)
    have kp : W6.heap[W4.heap.size + 1]? = some (.cells #[Value.string ⟨#[47]⟩] 9 (0, 0)) := by
      rw [hW6]
      have := World.alloc_heap_new (W4.alloc (Obj.cells #[Value.string (bs pp)] 9)) (Obj.cells #[Value.string ⟨#[47]⟩] 9)
      rwa [World.size_alloc] at this
    have hz6 : W6.heap.size = W4.heap.size + 2 := by rw [hW6]; simp
    clear hW6
    have hb06 := hb04.trans (hb6.mono hb04.size)
    have hL4 := blk_below hLl hb04
    have hL6 := blk_below hL4 hb6
    have hLlt : L < w.heap.size := (Array.getElem?_eq_some_iff.1 hLl).1
    have hs04 := hb04.size
    obtain ⟨Bs, hBs⟩ : ∃ Bs, Bs = W4.heap.size := ⟨_, rfl⟩
    rw [← hBs] at ks kp hz6 ⊢
    have hLB : L ≠ Bs := by omega
    refine wpF_block ?_
    refine wpF_range (n := 6) (B := Bs) (w0 := W6) Tryz.func43 (gf := 73) (lb := #[.pointer (some ⟨Bs, 0, none⟩), .pointer (some ⟨Bs + 1, 0, none⟩)]) rfl (enters_of Tryz.func73 (by kernel_rfl) rfl)
      (encs := encP) (Kp := KpP Bs (Bs + 1)) (L := enumL 0 (partsL [47] pp.length pp))
      (parts_seq pp [47] zy3 (by have := HLE.out.1; omega) Bs (Bs + 1) m W6 zy4 zy4 (blk_cell ks 0) (blk_frozen ks 0) (blk_cell kp 0) ((hb06.cell (p := ⟨0, 0, none⟩) hml).trans hm))
      zy4 (fun h k => h.trans k) (fun W l o o' hl ho => ⟨by simp [World.putObj], fun k hk => World.putObj_heap_other (by rcases hk with rfl | rfl | rfl <;> omega)⟩) (Below.refl _ _) (fun x => rfl)
      (PaI L W6.heap.size 40 9 1 scells stepS W4)
      (PaP L 40 stepS W4 (enumL 0 (partsL [47] pp.length pp)))
      (fun pre A C h hc => h.calm hc hLB zy4 zy4 zy4)
      ⟨⟨[], .slice none 0 0, rfl, hL6, ⟨rfl, .inl ⟨rfl, rfl⟩⟩, Nat.zero_le _⟩, own_of_below hb6, Nat.le_refl _⟩
      ?round ?done ?panic
    case round =>
      intro l pre x W hI hpre
      obtain ⟨i, line⟩ := x
      obtain ⟨hi, hmem⟩ := enumL_pre _ 0 pre (i, line) hpre
      have hll := Nat.le_trans (partsL_le [47] pp.length pp line hmem) HLE.out.1
      have hpl : pre.length ≤ 1048577 := by
        have h1 := hpre.length_le
        rw [List.length_append, enumL_len] at h1
        have h2 := partsL_len [47] pp.length pp
        have := HLE.out.1
        omega
      obtain ⟨rst, hrst⟩ := hpre
      have hrst' : enumL 0 (partsL [47] pp.length pp) = pre ++ (i, line) :: rst := by rw [← hrst]; simp
      have HPRE := Aside0.mk hrst'
      have HLL := Aside0.mk hll
      have HPLN := Aside0.mk hpl
      clear hi hmem hll hrst hrst' hI ks kp hpl
      rw [show encP (i, line) = #[.int .i64 i, .string (bs line)] from rfl]
      gi_wp2
      refine ⟨trivial, ?_⟩
      clear W
      intro W hI
      obtain ⟨⟨ys, v, h1, h2, h3, h4⟩, h5, h6⟩ := hI
      obtain ⟨A0, cp0, rfl⟩ := own_form h3
      have HZB := Aside0.mk (And.intro hBs hz6)
      clear hBs hz6
      have hlaid := laid_own (HLA.out.later hb04) zy4 (hf L (.inl rfl)) h5
      have hdec0 := fun W1 (hb : Below W.heap.size W W1) => decoded_any line (by have := HLL.out; omega) W1 (hlaid.later hb)
      have c0 := blk_cell h2 0
      have f0 := blk_frozen h2 0
      cases hd : decL line with
      | none =>
        have hdn : ∀ W1, Below W.heap.size W W1 → Calls Tryz.prog 46 #[.string (bs line)] W1 fun e w' => e = .panicked (oops 291) ∧ Below W1.heap.size W1 w' := fun W1 hb => (hdec0 W1 hb).mono fun e w' hp => by
          obtain ⟨a, b⟩ := hp
          rw [hd] at b
          exact ⟨b, a⟩
        have hmix : Tryz.prog.follows .mixedOrders = true := by kernel_rfl
        have HN := Aside0.mk (show stepS (i, line) ys = none by unfold stepS; rw [hd]; rfl)
        have PN := Aside0.mk (fun W' (hb : Below W.heap.size W W') (hn : stepS (i, line) ys = none) => show KeepsOthers W W' ∧ PaP L 40 stepS W4 (enumL 0 (partsL [47] pp.length pp)) (oops 291) W' from ⟨keepsB hb, rfl, by rw [HPRE.out]; exact runO_none hn pre [] h1, h5.trans (own_of_below hb), _, blk_below h2 hb⟩)
        clear hdec0
        gi_wp2
        refine wpIn_region_any (by assumption) ?_
        try (change wpAnyIn _ _ _ _ _ _ _ _ _ (World.drew _))
        refine wpAnyIn_ready (rs := [0, 1]) (by kernel_rfl) zy3 ?_
        refine AllReadyIn.cons rfl (fun K hK => ?_) ?_
        ·go_simp
         refine hK _ _ ?_; clear hK K
         refine wpAnyIn_ready (rs := [1]) (by kernel_rfl) zy3 ?_
         refine AllReadyIn.cons rfl (fun K hK => ?_) ?_
         ·go_simp
          refine hK _ _ ?_; clear hK K
          refine wpAnyIn_ready (rs := [2]) (by kernel_rfl) zy3 ?_
          refine AllReadyIn.cons rfl (fun K hK => ?_) ?_
          ·go_simp
           (gi_wp2_with (refine ⟨trivial, ?_⟩; gi_at_call 46; ((with_reducible refine (CallsIn.inRound l (callsIn_wide.2 (hdn _ zy2))).mono ?_); rintro e w9 ⟨rfl, hb9⟩; exact ⟨rfl, PN.out _ (below_step zy2 hb9) HN.out⟩)))
          exact AllReadyIn.nil
         exact AllReadyIn.nil
        refine AllReadyIn.cons rfl (fun K hK => ?_) ?_
        ·go_simp
         refine hK _ _ ?_; clear hK K
         refine wpAnyIn_ready (rs := [0, 2]) (by kernel_rfl) zy3 ?_
         refine AllReadyIn.cons rfl (fun K hK => ?_) ?_
         ·go_simp
          refine hK _ _ ?_; clear hK K
          refine wpAnyIn_ready (rs := [2]) (by kernel_rfl) zy3 ?_
          refine AllReadyIn.cons rfl (fun K hK => ?_) ?_
          ·go_simp
           (gi_wp2_with (refine ⟨trivial, ?_⟩; gi_at_call 46; ((with_reducible refine (CallsIn.inRound l (callsIn_wide.2 (hdn _ zy2))).mono ?_); rintro e w9 ⟨rfl, hb9⟩; exact ⟨rfl, PN.out _ (below_step zy2 hb9) HN.out⟩)))
          exact AllReadyIn.nil
         refine AllReadyIn.cons rfl (fun K hK => ?_) ?_
         ·go_simp
          (gi_wp2_with (refine ⟨trivial, ?_⟩; gi_at_call 46; ((with_reducible refine (CallsIn.inRound l (callsIn_wide.2 (hdn _ zy2))).mono ?_); rintro e w9 ⟨rfl, hb9⟩; exact ⟨rfl, PN.out _ (below_step zy2 hb9) HN.out⟩)))
         exact AllReadyIn.nil
        exact AllReadyIn.nil
      | some y =>
        have hdn : ∀ W1, Below W.heap.size W W1 → Calls Tryz.prog 46 #[.string (bs line)] W1 fun e w' => e = .returned (.string (bs y)) ∧ Below W1.heap.size W1 w' := fun W1 hb => (hdec0 W1 hb).mono fun e w' hp => by
          obtain ⟨a, b⟩ := hp
          rw [hd] at b
          exact ⟨b, a⟩
        have hmix : Tryz.prog.follows .mixedOrders = true := by kernel_rfl
        have HN := Aside0.mk (show stepS (i, line) ys = some (ys ++ [bs y]) by unfold stepS; rw [hd]; rfl)
        have HAP := Aside0.mk (fun w9 (hb : Below W.heap.size W w9) => append_str (bs y) h3 hb h6 (by have := HPLN.out; omega))
        have hge := own_ge (e := 9) h3
        have HUP := Aside0.mk (fun (w9 w10 : World) (hb : Below W.heap.size W w9) (hg : (w9.alloc (.cells #[.string (bs y)] 9)).grownBy w10 (Value.slice A0 ys.length cp0).ownBlock) =>
          show w10.heap[L]? = some (.cells #[.slice A0 ys.length cp0] 40 (0, 0)) from get_grown (get_below h2 (below_alloc hb _)) hg (fun e => by have := (hge L e).1; have := HZB.out; omega))
        have FIN := Aside0.mk (fun (w9 w10 : World) (A1 : Option Addr) (cp1 : Nat) (hB : Below W.heap.size W w9) (ho : w10.ownsRow W6.heap.size 9 1 (.slice A1 (ys.length + 1) cp1) (ys.length + 1) (scells (ys ++ [bs y]))) (hg : (w9.alloc (.cells #[.string (bs y)] 9)).grownBy w10 (Value.slice A0 ys.length cp0).ownBlock) =>
          show KeepsOthers W (w10.setCell ⟨L, 0, none⟩ (.slice A1 (ys.length + 1) cp1)) ∧ KpP Bs (Bs + 1) W (w10.setCell ⟨L, 0, none⟩ (.slice A1 (ys.length + 1) cp1)) ∧ PaI L W6.heap.size 40 9 1 scells stepS W4 (pre ++ [(i, line)]) (w10.setCell ⟨L, 0, none⟩ (.slice A1 (ys.length + 1) cp1)) from by
            have hB4 := below_alloc hB (.cells #[.string (bs y)] 9)
            have hz := HZB.out
            have hfL := hf L (.inl rfl)
            have hL10 := HUP.out _ _ hB hg
            refine ⟨((keepsB hB4).trans (keeps_grown hg (fun b hb => ⟨_, _, get_below (hge b hb).2.choose_spec hB4⟩))).trans (KeepsOthers.setCell _ _ _), ((kpP_below hB4 zy4 zy4 zy4).trans (kpP_grown hg (by have := hB4.size; omega) (by have := hB4.size; omega) (by have := hB4.size; omega) (fun b hb => by have := (hge b hb).1; omega))).trans (kpP_set _ zy4 zy4 zy4), ⟨ys ++ [bs y], .slice A1 (ys.length + 1) cp1, by rw [runO_snoc, h1]; exact HN.out, ?_, ?_, by simp only [List.length_append, List.length_singleton]; omega⟩, ?_, ?_⟩
            · have := blk_setT (o := 0) hL10 (.slice A1 (ys.length + 1) cp1)
              simpa using this
            · rw [List.length_append, List.length_singleton]
              exact ownsRow_same ho (fun g cs hg2 hx => (Below.heap_setCell _ _ _ _ (show g ≠ L by omega)).trans hx)
            · exact (own_grown (h5.trans (own_of_below hB4)) hg (fun b hb => by have := (hge b hb).1; omega)).trans (step_put L 0 _ _)
            · have := hg.size; have := hB4.size
              simp only [World.setCell, Array.size_modify]
              omega)
        clear hdec0
        gi_wp2
        refine wpIn_region_any (by assumption) ?_
        try (change wpAnyIn _ _ _ _ _ _ _ _ _ (World.drew _))
        refine wpAnyIn_ready (rs := [0, 1]) (by kernel_rfl) zy3 ?_
        refine AllReadyIn.cons rfl (fun K hK => ?_) ?_
        ·go_simp
         refine hK _ _ ?_; clear hK K
         refine wpAnyIn_ready (rs := [1]) (by kernel_rfl) zy3 ?_
         refine AllReadyIn.cons rfl (fun K hK => ?_) ?_
         ·go_simp
          refine hK _ _ ?_; clear hK K
          refine wpAnyIn_ready (rs := [2]) (by kernel_rfl) zy3 ?_
          refine AllReadyIn.cons rfl (fun K hK => ?_) ?_
          ·go_simp
           (gi_wp2_with (refine ⟨trivial, ?_⟩; gi_at_call 46; ((with_reducible refine (CallsIn.inRound l (callsIn_wide.2 (hdn _ zy2))).mono ?_); rintro e w9 ⟨rfl, hb9⟩; have HB9 := Aside0.mk (show Below W.heap.size W w9 from below_step (show Below W.heap.size W W.drew from below_drew1 (Below.refl _ _)) hb9); have c9 := blk_cell (get_below h2 HB9.out) 0; have c9a := blk_cell (get_below h2 (below_alloc HB9.out (.cells #[.string (bs y)] 9))) 0; have hLw9 : L < w9.heap.size := blk_lt (get_below h2 HB9.out); obtain ⟨A1, cp1, w10, hrun, hown, hgr⟩ := HAP.out w9 HB9.out; have c10 := blk_cell (HUP.out _ _ HB9.out hgr) 0; have f10 := blk_frozen (HUP.out _ _ HB9.out hgr) 0; have HO := Aside0.mk hown; have HG := Aside0.mk hgr; clear hown hgr)))
           refine wpAnyIn_ready (rs := [3]) (by kernel_rfl) zy3 ?_
           refine AllReadyIn.cons rfl (fun K hK => ?_) ?_
           ·go_simp
            refine hK _ _ ?_; clear hK K
            refine wpAnyIn_ready (rs := [4]) (by kernel_rfl) zy3 ?_
            refine AllReadyIn.cons rfl (fun K hK => ?_) ?_
            ·(refine step_append_runIn rfl (.tmp 28) (.tmp 31) 40 rfl (.slice A0 ys.length cp0) (.slice (some ⟨w9.heap.size, 0, none⟩) 1 1) (.slice A1 (ys.length + 1) cp1) zy1 zy1 hrun (hK _ _ ?_))
             (gi_wp2_with (refine ⟨trivial, ?_⟩; gi_at_call 46; ((with_reducible refine (CallsIn.inRound l (callsIn_wide.2 (hdn _ zy2))).mono ?_); rintro e w9 ⟨rfl, hb9⟩; have HB9 := Aside0.mk (show Below W.heap.size W w9 from below_step (show Below W.heap.size W W.drew from below_drew1 (Below.refl _ _)) hb9); have c9 := blk_cell (get_below h2 HB9.out) 0; have c9a := blk_cell (get_below h2 (below_alloc HB9.out (.cells #[.string (bs y)] 9))) 0; have hLw9 : L < w9.heap.size := blk_lt (get_below h2 HB9.out); obtain ⟨A1, cp1, w10, hrun, hown, hgr⟩ := HAP.out w9 HB9.out; have c10 := blk_cell (HUP.out _ _ HB9.out hgr) 0; have f10 := blk_frozen (HUP.out _ _ HB9.out hgr) 0; have HO := Aside0.mk hown; have HG := Aside0.mk hgr; clear hown hgr)))
             refine wpAnyIn_ready (rs := [5]) (by kernel_rfl) zy3 ?_
             refine AllReadyIn.cons rfl (fun K hK => ?_) ?_
             ·go_simp
              refine hK _ _ ?_; clear hK K
              refine wpAnyIn_done (by kernel_rfl) ?_ _
              (exact FIN.out _ _ _ _ HB9.out HO.out HG.out)
             exact AllReadyIn.nil
            exact AllReadyIn.nil
           exact AllReadyIn.nil
          exact AllReadyIn.nil
         exact AllReadyIn.nil
        refine AllReadyIn.cons rfl (fun K hK => ?_) ?_
        ·go_simp
         refine hK _ _ ?_; clear hK K
         refine wpAnyIn_ready (rs := [0, 2]) (by kernel_rfl) zy3 ?_
         refine AllReadyIn.cons rfl (fun K hK => ?_) ?_
         ·go_simp
          refine hK _ _ ?_; clear hK K
          refine wpAnyIn_ready (rs := [2]) (by kernel_rfl) zy3 ?_
          refine AllReadyIn.cons rfl (fun K hK => ?_) ?_
          ·go_simp
           (gi_wp2_with (refine ⟨trivial, ?_⟩; gi_at_call 46; ((with_reducible refine (CallsIn.inRound l (callsIn_wide.2 (hdn _ zy2))).mono ?_); rintro e w9 ⟨rfl, hb9⟩; have HB9 := Aside0.mk (show Below W.heap.size W w9 from below_step (show Below W.heap.size W W.drew from below_drew1 (Below.refl _ _)) hb9); have c9 := blk_cell (get_below h2 HB9.out) 0; have c9a := blk_cell (get_below h2 (below_alloc HB9.out (.cells #[.string (bs y)] 9))) 0; have hLw9 : L < w9.heap.size := blk_lt (get_below h2 HB9.out); obtain ⟨A1, cp1, w10, hrun, hown, hgr⟩ := HAP.out w9 HB9.out; have c10 := blk_cell (HUP.out _ _ HB9.out hgr) 0; have f10 := blk_frozen (HUP.out _ _ HB9.out hgr) 0; have HO := Aside0.mk hown; have HG := Aside0.mk hgr; clear hown hgr)))
           refine wpAnyIn_ready (rs := [3]) (by kernel_rfl) zy3 ?_
           refine AllReadyIn.cons rfl (fun K hK => ?_) ?_
           ·go_simp
            refine hK _ _ ?_; clear hK K
            refine wpAnyIn_ready (rs := [4]) (by kernel_rfl) zy3 ?_
            refine AllReadyIn.cons rfl (fun K hK => ?_) ?_
            ·(refine step_append_runIn rfl (.tmp 28) (.tmp 31) 40 rfl (.slice A0 ys.length cp0) (.slice (some ⟨w9.heap.size, 0, none⟩) 1 1) (.slice A1 (ys.length + 1) cp1) zy1 zy1 hrun (hK _ _ ?_))
             (gi_wp2_with (refine ⟨trivial, ?_⟩; gi_at_call 46; ((with_reducible refine (CallsIn.inRound l (callsIn_wide.2 (hdn _ zy2))).mono ?_); rintro e w9 ⟨rfl, hb9⟩; have HB9 := Aside0.mk (show Below W.heap.size W w9 from below_step (show Below W.heap.size W W.drew from below_drew1 (Below.refl _ _)) hb9); have c9 := blk_cell (get_below h2 HB9.out) 0; have c9a := blk_cell (get_below h2 (below_alloc HB9.out (.cells #[.string (bs y)] 9))) 0; have hLw9 : L < w9.heap.size := blk_lt (get_below h2 HB9.out); obtain ⟨A1, cp1, w10, hrun, hown, hgr⟩ := HAP.out w9 HB9.out; have c10 := blk_cell (HUP.out _ _ HB9.out hgr) 0; have f10 := blk_frozen (HUP.out _ _ HB9.out hgr) 0; have HO := Aside0.mk hown; have HG := Aside0.mk hgr; clear hown hgr)))
             refine wpAnyIn_ready (rs := [5]) (by kernel_rfl) zy3 ?_
             refine AllReadyIn.cons rfl (fun K hK => ?_) ?_
             ·go_simp
              refine hK _ _ ?_; clear hK K
              refine wpAnyIn_done (by kernel_rfl) ?_ _
              (exact FIN.out _ _ _ _ HB9.out HO.out HG.out)
             exact AllReadyIn.nil
            exact AllReadyIn.nil
           exact AllReadyIn.nil
          exact AllReadyIn.nil
         refine AllReadyIn.cons rfl (fun K hK => ?_) ?_
         ·go_simp
          (gi_wp2_with (refine ⟨trivial, ?_⟩; gi_at_call 46; ((with_reducible refine (CallsIn.inRound l (callsIn_wide.2 (hdn _ zy2))).mono ?_); rintro e w9 ⟨rfl, hb9⟩; have HB9 := Aside0.mk (show Below W.heap.size W w9 from below_step (show Below W.heap.size W W.drew from below_drew1 (Below.refl _ _)) hb9); have c9 := blk_cell (get_below h2 HB9.out) 0; have c9a := blk_cell (get_below h2 (below_alloc HB9.out (.cells #[.string (bs y)] 9))) 0; have hLw9 : L < w9.heap.size := blk_lt (get_below h2 HB9.out); obtain ⟨A1, cp1, w10, hrun, hown, hgr⟩ := HAP.out w9 HB9.out; have c10 := blk_cell (HUP.out _ _ HB9.out hgr) 0; have f10 := blk_frozen (HUP.out _ _ HB9.out hgr) 0; have HO := Aside0.mk hown; have HG := Aside0.mk hgr; clear hown hgr)))
          refine wpAnyIn_ready (rs := [0, 3]) (by kernel_rfl) zy3 ?_
          refine AllReadyIn.cons rfl (fun K hK => ?_) ?_
          ·go_simp
           refine hK _ _ ?_; clear hK K
           refine wpAnyIn_ready (rs := [3]) (by kernel_rfl) zy3 ?_
           refine AllReadyIn.cons rfl (fun K hK => ?_) ?_
           ·go_simp
            refine hK _ _ ?_; clear hK K
            refine wpAnyIn_ready (rs := [4]) (by kernel_rfl) zy3 ?_
            refine AllReadyIn.cons rfl (fun K hK => ?_) ?_
            ·(refine step_append_runIn rfl (.tmp 28) (.tmp 31) 40 rfl (.slice A0 ys.length cp0) (.slice (some ⟨w9.heap.size, 0, none⟩) 1 1) (.slice A1 (ys.length + 1) cp1) zy1 zy1 hrun (hK _ _ ?_))
             (gi_wp2_with (refine ⟨trivial, ?_⟩; gi_at_call 46; ((with_reducible refine (CallsIn.inRound l (callsIn_wide.2 (hdn _ zy2))).mono ?_); rintro e w9 ⟨rfl, hb9⟩; have HB9 := Aside0.mk (show Below W.heap.size W w9 from below_step (show Below W.heap.size W W.drew from below_drew1 (Below.refl _ _)) hb9); have c9 := blk_cell (get_below h2 HB9.out) 0; have c9a := blk_cell (get_below h2 (below_alloc HB9.out (.cells #[.string (bs y)] 9))) 0; have hLw9 : L < w9.heap.size := blk_lt (get_below h2 HB9.out); obtain ⟨A1, cp1, w10, hrun, hown, hgr⟩ := HAP.out w9 HB9.out; have c10 := blk_cell (HUP.out _ _ HB9.out hgr) 0; have f10 := blk_frozen (HUP.out _ _ HB9.out hgr) 0; have HO := Aside0.mk hown; have HG := Aside0.mk hgr; clear hown hgr)))
             refine wpAnyIn_ready (rs := [5]) (by kernel_rfl) zy3 ?_
             refine AllReadyIn.cons rfl (fun K hK => ?_) ?_
             ·go_simp
              refine hK _ _ ?_; clear hK K
              refine wpAnyIn_done (by kernel_rfl) ?_ _
              (exact FIN.out _ _ _ _ HB9.out HO.out HG.out)
             exact AllReadyIn.nil
            exact AllReadyIn.nil
           exact AllReadyIn.nil
          refine AllReadyIn.cons rfl (fun K hK => ?_) ?_
          ·go_simp
           refine hK _ _ ?_; clear hK K
           refine wpAnyIn_ready (rs := [0]) (by kernel_rfl) zy3 ?_
           refine AllReadyIn.cons rfl (fun K hK => ?_) ?_
           ·go_simp
            refine hK _ _ ?_; clear hK K
            refine wpAnyIn_ready (rs := [4]) (by kernel_rfl) zy3 ?_
            refine AllReadyIn.cons rfl (fun K hK => ?_) ?_
            ·(refine step_append_runIn rfl (.tmp 28) (.tmp 31) 40 rfl (.slice A0 ys.length cp0) (.slice (some ⟨w9.heap.size, 0, none⟩) 1 1) (.slice A1 (ys.length + 1) cp1) zy1 zy1 hrun (hK _ _ ?_))
             (gi_wp2_with (refine ⟨trivial, ?_⟩; gi_at_call 46; ((with_reducible refine (CallsIn.inRound l (callsIn_wide.2 (hdn _ zy2))).mono ?_); rintro e w9 ⟨rfl, hb9⟩; have HB9 := Aside0.mk (show Below W.heap.size W w9 from below_step (show Below W.heap.size W W.drew from below_drew1 (Below.refl _ _)) hb9); have c9 := blk_cell (get_below h2 HB9.out) 0; have c9a := blk_cell (get_below h2 (below_alloc HB9.out (.cells #[.string (bs y)] 9))) 0; have hLw9 : L < w9.heap.size := blk_lt (get_below h2 HB9.out); obtain ⟨A1, cp1, w10, hrun, hown, hgr⟩ := HAP.out w9 HB9.out; have c10 := blk_cell (HUP.out _ _ HB9.out hgr) 0; have f10 := blk_frozen (HUP.out _ _ HB9.out hgr) 0; have HO := Aside0.mk hown; have HG := Aside0.mk hgr; clear hown hgr)))
             refine wpAnyIn_ready (rs := [5]) (by kernel_rfl) zy3 ?_
             refine AllReadyIn.cons rfl (fun K hK => ?_) ?_
             ·go_simp
              refine hK _ _ ?_; clear hK K
              refine wpAnyIn_done (by kernel_rfl) ?_ _
              (exact FIN.out _ _ _ _ HB9.out HO.out HG.out)
             exact AllReadyIn.nil
            exact AllReadyIn.nil
           exact AllReadyIn.nil
          exact AllReadyIn.nil
         exact AllReadyIn.nil
        exact AllReadyIn.nil
    case done =>
      intro D W hD hI hK
      refine ⟨.inl rfl, ?_⟩
      change WpF 6 Tryz.prog 43 _ _ _ W
      obtain ⟨⟨ys, v, h1, h2, h3, h4⟩, h5, h6⟩ := hI
      have hBqL : Bq ≠ L := by have := HBQ.out; omega
      have kqW := h5.other hBqL kq4
      have cq := blk_cell kqW 0
      have HPL2 := Aside0.mk (show pathL s = Option.map (fun qs => (ys, qs)) (runO (stepQ qq) (enumL 0 (partsL [38] qq.length qq)) []) by rw [HPL.out, h1]; rfl)
      have HK := Aside0.mk hK
      have H2 := Aside0.mk h2
      have H3 := Aside0.mk h3
      clear HPL h1 hK h2 h3 h4 ks kp hz6 hBs hLB
      refine wpF_seq (wpF_of ?_)
      gi_wp2_with (refine ⟨trivial, ?_⟩; gi_at_call 45; (refine (callsIn_wide.2 (parts_any _ _ _)).mono ?_); rintro e w7 ⟨rfl, rfl⟩)
      obtain ⟨V6, hV6⟩ : ∃ V6, V6 = (W.alloc (Obj.cells #[Value.string (bs qq)] 9)).alloc (Obj.cells #[Value.string ⟨#[38]⟩] 9) := ⟨_, rfl⟩
      rw [← hV6]
      have gb6 : Below W.heap.size W V6 := by rw [hV6]; exact ((Below.refl _ W).alloc (Nat.le_refl _) _).alloc zy3 _
      have gs : V6.heap[W.heap.size]? = some (.cells #[Value.string (bs qq)] 9 (0, 0)) := by
        rw [hV6]; exact (Below.heap_alloc _ _ _ zy3).trans (World.alloc_heap_new W _)
      have gp : V6.heap[W.heap.size + 1]? = some (.cells #[Value.string ⟨#[38]⟩] 9 (0, 0)) := by
        rw [hV6]
        have := World.alloc_heap_new (W.alloc (Obj.cells #[Value.string (bs qq)] 9)) (Obj.cells #[Value.string ⟨#[38]⟩] 9)
        rwa [World.size_alloc] at this
      have gz6 : V6.heap.size = W.heap.size + 2 := by rw [hV6]; simp
      clear hV6
      have hLlt2 : L < W.heap.size := blk_lt H2.out
      have hQlt : Q < w.heap.size := (Array.getElem?_eq_some_iff.1 hQl).1
      have hElt : E < w.heap.size := (Array.getElem?_eq_some_iff.1 hE).1
      have hQW := h5.other (fun h => hne.2.2.1 h.symm) (blk_below hQl hb04)
      have hQ6 := blk_below hQW gb6
      have hLW := laid_own (HLA.out.later hb04) zy4 (hf L (.inl rfl)) h5
      have HLW := Aside0.mk hLW
      obtain ⟨m2, hm2⟩ := hLW.max
      have hml2 : 0 < W.heap.size := Lib.lt_of_cell hm2
      have hQlW : Q < W.heap.size := (Array.getElem?_eq_some_iff.1 hQW).1
      have hBqW : Bq < W.heap.size := (Array.getElem?_eq_some_iff.1 kqW).1
      have H5 := Aside0.mk h5
      clear hLW h5 h6 cq kq4
      obtain ⟨Cs, hCs⟩ : ∃ Cs, Cs = W.heap.size := ⟨_, rfl⟩
      rw [← hCs] at gs gp gz6 ⊢
      refine wpF_block ?_
      refine wpF_range (n := 6) (B := Cs) (w0 := V6) Tryz.func43 (gf := 73) (lb := #[.pointer (some ⟨Cs, 0, none⟩), .pointer (some ⟨Cs + 1, 0, none⟩)]) rfl (enters_of Tryz.func73 (by kernel_rfl) rfl)
        (encs := encP) (Kp := KpP Cs (Cs + 1)) (L := enumL 0 (partsL [38] qq.length qq))
        (parts_seq qq [38] zy3 (by have := HLE.out.2; omega) Cs (Cs + 1) m2 V6 zy4 zy4 (blk_cell gs 0) (blk_frozen gs 0) (blk_cell gp 0) ((gb6.cell (p := ⟨0, 0, none⟩) hml2).trans hm2))
        zy4 (fun h k => h.trans k) (fun W l o o' hl ho => ⟨by simp [World.putObj], fun k hk => World.putObj_heap_other (by rcases hk with rfl | rfl | rfl <;> omega)⟩) (Below.refl _ _) (fun x => rfl)
        (PaI Q V6.heap.size 23 59 2 hcells (stepQ qq) W)
        (PaP Q 23 (stepQ qq) W (enumL 0 (partsL [38] qq.length qq)))
        (fun pre A C h hc => h.calm hc zy4 zy4 zy4 zy4)
        ⟨⟨[], .slice none 0 0, rfl, hQ6, ⟨rfl, .inl ⟨rfl, rfl⟩⟩, Nat.zero_le _⟩, own_of_below gb6, Nat.le_refl _⟩
        ?round2 ?done2 ?panic2
      case round2 =>
        have HW0 := Aside0.mk (And.intro kqW (And.intro hBqL (And.intro hCs gz6)))
        have HLT := Aside0.mk (And.intro hQlW (And.intro hBqW hml2))
        have hBqQ : Bq ≠ Q := by have := HBQ.out; omega
        clear HPL2 HK H2 H3 H5 hQW hQ6 hm2 hml2 hm hLl hQl hE hT kqW gb6 gs gp hD hL4 hL6 hCs gz6 hb6 hb4 hH3 hb06
        intro l pre x V hI hpre
        obtain ⟨i, line⟩ := x
        obtain ⟨hi, hmem⟩ := enumL_pre _ 0 pre (i, line) hpre
        have hll := Nat.le_trans (partsL_le [38] qq.length qq line hmem) HLE.out.2
        have hpl : pre.length ≤ 1048577 := by
          have h1 := hpre.length_le
          rw [List.length_append, enumL_len] at h1
          have h2 := partsL_len [38] qq.length qq
          have := HLE.out.2
          omega
        obtain ⟨rst, hrst⟩ := hpre
        have hrst' : enumL 0 (partsL [38] qq.length qq) = pre ++ (i, line) :: rst := by rw [← hrst]; simp
        have HPRE := Aside0.mk hrst'
        have HLL := Aside0.mk hll
        have HPLN := Aside0.mk hpl
        clear hi hmem hll hrst hrst' hI hpl
        rw [show encP (i, line) = #[.int .i64 i, .string (bs line)] from rfl]
        gi_wp2
        refine ⟨trivial, ?_⟩
        clear V
        intro V hI
        have HI := Aside0.mk hI
        obtain ⟨⟨ys, v, h1, h2, h3, h4⟩, h5, h6⟩ := hI
        obtain ⟨A0, cp0, rfl⟩ := own_form h3
        have hlaid := laid_own HLW.out (by have := HLT.out; omega) (hf Q (.inr rfl)) h5
        have HLV := Aside0.mk hlaid
        have kqV := h5.other hBqQ HW0.out.1
        have cqV := blk_cell kqV 0
        have c0 := blk_cell h2 0
        have f0 := blk_frozen h2 0
        by_cases hq0 : qq = []
        · have hqe2 : (!(bs qq).toList.isEmpty) = false := by rw [hq0, ByteArray.toList_eq]; rfl
          have HQ0 := Aside0.mk hq0
          clear hq0
          gi_wp2
          exact ⟨keepsB (Below.refl _ _), ⟨Nat.le_refl _, fun _ _ => rfl⟩, PaI.nopush (ys := ys) HI.out (Below.refl _ _) (fun ys _ => by unfold stepQ; rw [if_pos HQ0.out])⟩
        · have hqe : ¬ (bs qq).toList = [] := fun e => hq0 (by rw [ByteArray.toList_eq] at e; exact e)
          have hqe2 : (!(bs qq).toList.isEmpty) = true := by cases h : (bs qq).toList with | nil => exact absurd h hqe | cons a b => rfl
          have HQ0 := Aside0.mk hq0
          clear hq0
          have hml3 : 0 < V.heap.size := Nat.lt_of_lt_of_le HLT.out.2.2 h5.2.2.2.1
          obtain ⟨m3, hm3⟩ := hlaid.max
          have hcut := cut_any line [61] (by have := HLL.out; omega) V m3 hm3
          have e61 : bs [61] = (⟨#[61]⟩ : ByteArray) := rfl
          rw [e61] at hcut
          clear e61
          have hle := cut_le line [61]
          have HCL := Aside0.mk (show (Lib.cut line [61]).1.length ≤ 1048575 ∧ (Lib.cut line [61]).2.1.length ≤ 1048575 from ⟨by have := HLL.out; omega, by have := HLL.out; omega⟩)
          clear hle
          have HSQ := Aside0.mk (show stepQ qq (i, line) ys = (decL (Lib.cut line [61]).1).bind fun a => (decL (Lib.cut line [61]).2.1).map fun b => ys ++ [⟨bs a, bs b⟩] by unfold stepQ; rw [if_neg HQ0.out])
          generalize (Lib.cut line [61]).1 = la at *
          generalize (Lib.cut line [61]).2.1 = lb at *
          generalize (Lib.cut line [61]).2.2 = lc at *
          have hdecA := fun W1 (hb : Below V.heap.size V W1) => decoded_any la (by have := HCL.out.1; omega) W1 (HLV.out.later hb)
          have hdecB := fun W1 (hb : Below V.heap.size V W1) => decoded_any lb (by have := HCL.out.2; omega) W1 (HLV.out.later hb)
          have hmix : Tryz.prog.follows .mixedOrders = true := by kernel_rfl
          have PN := Aside0.mk (fun W' (hb : Below V.heap.size V W') (hn : stepQ qq (i, line) ys = none) => show KeepsOthers V W' ∧ PaP Q 23 (stepQ qq) W (enumL 0 (partsL [38] qq.length qq)) (oops 291) W' from ⟨keepsB hb, rfl, by rw [HPRE.out]; exact runO_none hn pre [] h1, h5.trans (own_of_below hb), _, blk_below h2 hb⟩)
          have H2V := Aside0.mk h2
          have hVlt : Q < V.heap.size := blk_lt h2
          clear hlaid hm3
          cases hd : decL la with
          | none =>
            have HN := Aside0.mk (show stepQ qq (i, line) ys = none by rw [HSQ.out, hd]; rfl)
            have hda : ∀ W1, Below V.heap.size V W1 → Calls Tryz.prog 46 #[.string (bs la)] W1 fun e w' => e = .panicked (oops 291) ∧ KeepsOthers V w' ∧ PaP Q 23 (stepQ qq) W (enumL 0 (partsL [38] qq.length qq)) (oops 291) w' := fun W1 hb => (hdecA W1 hb).mono fun e w' hp => by
              obtain ⟨a, b⟩ := hp
              rw [hd] at b
              exact ⟨b, PN.out _ (below_step hb a) HN.out⟩
            clear hdecA hdecB
            gi_wp2_with (refine ⟨trivial, ?_⟩; gi_at_call 30; ((with_reducible refine (CallsIn.inRound l (callsIn_wide.2 hcut)).mono ?_); rintro e w10 ⟨rfl, hb10⟩; have HB10 := Aside0.mk hb10; have c10 := blk_cell (get_below H2V.out hb10) 0; clear hb10))
            refine wpIn_region_any (by assumption) ?_
            try (change wpAnyIn _ _ _ _ _ _ _ _ _ (World.drew _))
            refine wpAnyIn_ready (rs := [0, 1, 3]) (by kernel_rfl) zy3 ?_
            refine AllReadyIn.cons rfl (fun K hK => ?_) ?_
            ·go_simp
             refine hK _ _ ?_; clear hK K
             refine wpAnyIn_ready (rs := [1, 3]) (by kernel_rfl) zy3 ?_
             refine AllReadyIn.cons rfl (fun K hK => ?_) ?_
             ·go_simp
              refine hK _ _ ?_; clear hK K
              refine wpAnyIn_ready (rs := [2, 3]) (by kernel_rfl) zy3 ?_
              refine AllReadyIn.cons rfl (fun K hK => ?_) ?_
              ·go_simp
               (gi_wp2_with (refine ⟨trivial, ?_⟩; gi_at_call 46; (with_reducible refine (CallsIn.inRound l (callsIn_wide.2 (hda _ bT10))).mono ?_); rintro e w11 ⟨rfl, h⟩; exact ⟨rfl, h⟩))
              refine AllReadyIn.cons rfl (fun K hK => ?_) ?_
              ·go_simp
               refine hK _ _ ?_; clear hK K
               refine wpAnyIn_ready (rs := [2]) (by kernel_rfl) zy3 ?_
               refine AllReadyIn.cons rfl (fun K hK => ?_) ?_
               ·go_simp
                (gi_wp2_with (refine ⟨trivial, ?_⟩; gi_at_call 46; (with_reducible refine (CallsIn.inRound l (callsIn_wide.2 (hda _ bT10))).mono ?_); rintro e w11 ⟨rfl, h⟩; exact ⟨rfl, h⟩))
               exact AllReadyIn.nil
              exact AllReadyIn.nil
             refine AllReadyIn.cons rfl (fun K hK => ?_) ?_
             ·go_simp
              refine hK _ _ ?_; clear hK K
              refine wpAnyIn_ready (rs := [1]) (by kernel_rfl) zy3 ?_
              refine AllReadyIn.cons rfl (fun K hK => ?_) ?_
              ·go_simp
               refine hK _ _ ?_; clear hK K
               refine wpAnyIn_ready (rs := [2]) (by kernel_rfl) zy3 ?_
               refine AllReadyIn.cons rfl (fun K hK => ?_) ?_
               ·go_simp
                (gi_wp2_with (refine ⟨trivial, ?_⟩; gi_at_call 46; (with_reducible refine (CallsIn.inRound l (callsIn_wide.2 (hda _ bT10))).mono ?_); rintro e w11 ⟨rfl, h⟩; exact ⟨rfl, h⟩))
               exact AllReadyIn.nil
              exact AllReadyIn.nil
             exact AllReadyIn.nil
            refine AllReadyIn.cons rfl (fun K hK => ?_) ?_
            ·go_simp
             refine hK _ _ ?_; clear hK K
             refine wpAnyIn_ready (rs := [0, 2, 3]) (by kernel_rfl) zy3 ?_
             refine AllReadyIn.cons rfl (fun K hK => ?_) ?_
             ·go_simp
              refine hK _ _ ?_; clear hK K
              refine wpAnyIn_ready (rs := [2, 3]) (by kernel_rfl) zy3 ?_
              refine AllReadyIn.cons rfl (fun K hK => ?_) ?_
              ·go_simp
               (gi_wp2_with (refine ⟨trivial, ?_⟩; gi_at_call 46; (with_reducible refine (CallsIn.inRound l (callsIn_wide.2 (hda _ bT10))).mono ?_); rintro e w11 ⟨rfl, h⟩; exact ⟨rfl, h⟩))
              refine AllReadyIn.cons rfl (fun K hK => ?_) ?_
              ·go_simp
               refine hK _ _ ?_; clear hK K
               refine wpAnyIn_ready (rs := [2]) (by kernel_rfl) zy3 ?_
               refine AllReadyIn.cons rfl (fun K hK => ?_) ?_
               ·go_simp
                (gi_wp2_with (refine ⟨trivial, ?_⟩; gi_at_call 46; (with_reducible refine (CallsIn.inRound l (callsIn_wide.2 (hda _ bT10))).mono ?_); rintro e w11 ⟨rfl, h⟩; exact ⟨rfl, h⟩))
               exact AllReadyIn.nil
              exact AllReadyIn.nil
             refine AllReadyIn.cons rfl (fun K hK => ?_) ?_
             ·go_simp
              (gi_wp2_with (refine ⟨trivial, ?_⟩; gi_at_call 46; (with_reducible refine (CallsIn.inRound l (callsIn_wide.2 (hda _ bT10))).mono ?_); rintro e w11 ⟨rfl, h⟩; exact ⟨rfl, h⟩))
             refine AllReadyIn.cons rfl (fun K hK => ?_) ?_
             ·go_simp
              refine hK _ _ ?_; clear hK K
              refine wpAnyIn_ready (rs := [0, 2]) (by kernel_rfl) zy3 ?_
              refine AllReadyIn.cons rfl (fun K hK => ?_) ?_
              ·go_simp
               refine hK _ _ ?_; clear hK K
               refine wpAnyIn_ready (rs := [2]) (by kernel_rfl) zy3 ?_
               refine AllReadyIn.cons rfl (fun K hK => ?_) ?_
               ·go_simp
                (gi_wp2_with (refine ⟨trivial, ?_⟩; gi_at_call 46; (with_reducible refine (CallsIn.inRound l (callsIn_wide.2 (hda _ bT10))).mono ?_); rintro e w11 ⟨rfl, h⟩; exact ⟨rfl, h⟩))
               exact AllReadyIn.nil
              refine AllReadyIn.cons rfl (fun K hK => ?_) ?_
              ·go_simp
               (gi_wp2_with (refine ⟨trivial, ?_⟩; gi_at_call 46; (with_reducible refine (CallsIn.inRound l (callsIn_wide.2 (hda _ bT10))).mono ?_); rintro e w11 ⟨rfl, h⟩; exact ⟨rfl, h⟩))
              exact AllReadyIn.nil
             exact AllReadyIn.nil
            refine AllReadyIn.cons rfl (fun K hK => ?_) ?_
            ·go_simp
             refine hK _ _ ?_; clear hK K
             refine wpAnyIn_ready (rs := [0, 1]) (by kernel_rfl) zy3 ?_
             refine AllReadyIn.cons rfl (fun K hK => ?_) ?_
             ·go_simp
              refine hK _ _ ?_; clear hK K
              refine wpAnyIn_ready (rs := [1]) (by kernel_rfl) zy3 ?_
              refine AllReadyIn.cons rfl (fun K hK => ?_) ?_
              ·go_simp
               refine hK _ _ ?_; clear hK K
               refine wpAnyIn_ready (rs := [2]) (by kernel_rfl) zy3 ?_
               refine AllReadyIn.cons rfl (fun K hK => ?_) ?_
               ·go_simp
                (gi_wp2_with (refine ⟨trivial, ?_⟩; gi_at_call 46; (with_reducible refine (CallsIn.inRound l (callsIn_wide.2 (hda _ bT10))).mono ?_); rintro e w11 ⟨rfl, h⟩; exact ⟨rfl, h⟩))
               exact AllReadyIn.nil
              exact AllReadyIn.nil
             refine AllReadyIn.cons rfl (fun K hK => ?_) ?_
             ·go_simp
              refine hK _ _ ?_; clear hK K
              refine wpAnyIn_ready (rs := [0, 2]) (by kernel_rfl) zy3 ?_
              refine AllReadyIn.cons rfl (fun K hK => ?_) ?_
              ·go_simp
               refine hK _ _ ?_; clear hK K
               refine wpAnyIn_ready (rs := [2]) (by kernel_rfl) zy3 ?_
               refine AllReadyIn.cons rfl (fun K hK => ?_) ?_
               ·go_simp
                (gi_wp2_with (refine ⟨trivial, ?_⟩; gi_at_call 46; (with_reducible refine (CallsIn.inRound l (callsIn_wide.2 (hda _ bT10))).mono ?_); rintro e w11 ⟨rfl, h⟩; exact ⟨rfl, h⟩))
               exact AllReadyIn.nil
              refine AllReadyIn.cons rfl (fun K hK => ?_) ?_
              ·go_simp
               (gi_wp2_with (refine ⟨trivial, ?_⟩; gi_at_call 46; (with_reducible refine (CallsIn.inRound l (callsIn_wide.2 (hda _ bT10))).mono ?_); rintro e w11 ⟨rfl, h⟩; exact ⟨rfl, h⟩))
              exact AllReadyIn.nil
             exact AllReadyIn.nil
            exact AllReadyIn.nil
          | some ya =>
            have hda : ∀ W1, Below V.heap.size V W1 → Calls Tryz.prog 46 #[.string (bs la)] W1 fun e w' => e = .returned (.string (bs ya)) ∧ Aside0 (Below V.heap.size V w') ∧ w'.cell? ⟨Q, 0, none⟩ = #[Value.slice A0 ys.length cp0][0]? := fun W1 hb => (hdecA W1 hb).mono fun e w' hp => by
              obtain ⟨a, b⟩ := hp
              rw [hd] at b
              exact ⟨b, Aside0.mk (below_step hb a), blk_cell (get_below H2V.out (below_step hb a)) 0⟩
            have HD := Aside0.mk hd
            clear hd
            cases hd2 : decL lb with
            | none =>
              have HN := Aside0.mk (show stepQ qq (i, line) ys = none by rw [HSQ.out, HD.out, hd2]; rfl)
              have hdb : ∀ W1, Below V.heap.size V W1 → Calls Tryz.prog 46 #[.string (bs lb)] W1 fun e w' => e = .panicked (oops 291) ∧ KeepsOthers V w' ∧ PaP Q 23 (stepQ qq) W (enumL 0 (partsL [38] qq.length qq)) (oops 291) w' := fun W1 hb => (hdecB W1 hb).mono fun e w' hp => by
                obtain ⟨a, b⟩ := hp
                rw [hd2] at b
                exact ⟨b, PN.out _ (below_step hb a) HN.out⟩
              clear hdecA hdecB
              gi_wp2_with (refine ⟨trivial, ?_⟩; gi_at_call 30; ((with_reducible refine (CallsIn.inRound l (callsIn_wide.2 hcut)).mono ?_); rintro e w10 ⟨rfl, hb10⟩; have HB10 := Aside0.mk hb10; have c10 := blk_cell (get_below H2V.out hb10) 0; clear hb10))
              refine wpIn_region_any (by assumption) ?_
              try (change wpAnyIn _ _ _ _ _ _ _ _ _ (World.drew _))
              refine wpAnyIn_ready (rs := [0, 1, 3]) (by kernel_rfl) zy3 ?_
              refine AllReadyIn.cons rfl (fun K hK => ?_) ?_
              ·go_simp
               refine hK _ _ ?_; clear hK K
               refine wpAnyIn_ready (rs := [1, 3]) (by kernel_rfl) zy3 ?_
               refine AllReadyIn.cons rfl (fun K hK => ?_) ?_
               ·go_simp
                refine hK _ _ ?_; clear hK K
                refine wpAnyIn_ready (rs := [2, 3]) (by kernel_rfl) zy3 ?_
                refine AllReadyIn.cons rfl (fun K hK => ?_) ?_
                ·go_simp
                 (gi_wp2_with (refine ⟨trivial, ?_⟩; gi_at_call 46; first | ((with_reducible refine (CallsIn.inRound l (callsIn_wide.2 (hda _ bT10))).mono ?_); rintro e w11 ⟨rfl, HB11, c11⟩) | ((with_reducible refine (CallsIn.inRound l (callsIn_wide.2 (hdb _ HB11.out))).mono ?_); rintro e w12 ⟨rfl, h⟩; exact ⟨rfl, h⟩)))
                 refine wpAnyIn_ready (rs := [3]) (by kernel_rfl) zy3 ?_
                 refine AllReadyIn.cons rfl (fun K hK => ?_) ?_
                 ·go_simp
                  refine hK _ _ ?_; clear hK K
                  refine wpAnyIn_ready (rs := [4]) (by kernel_rfl) zy3 ?_
                  refine AllReadyIn.cons rfl (fun K hK => ?_) ?_
                  ·go_simp
                   (gi_wp2_with (refine ⟨trivial, ?_⟩; gi_at_call 46; first | ((with_reducible refine (CallsIn.inRound l (callsIn_wide.2 (hda _ bT10))).mono ?_); rintro e w11 ⟨rfl, HB11, c11⟩) | ((with_reducible refine (CallsIn.inRound l (callsIn_wide.2 (hdb _ HB11.out))).mono ?_); rintro e w12 ⟨rfl, h⟩; exact ⟨rfl, h⟩)))
                  exact AllReadyIn.nil
                 exact AllReadyIn.nil
                refine AllReadyIn.cons rfl (fun K hK => ?_) ?_
                ·go_simp
                 refine hK _ _ ?_; clear hK K
                 refine wpAnyIn_ready (rs := [2]) (by kernel_rfl) zy3 ?_
                 refine AllReadyIn.cons rfl (fun K hK => ?_) ?_
                 ·go_simp
                  (gi_wp2_with (refine ⟨trivial, ?_⟩; gi_at_call 46; first | ((with_reducible refine (CallsIn.inRound l (callsIn_wide.2 (hda _ bT10))).mono ?_); rintro e w11 ⟨rfl, HB11, c11⟩) | ((with_reducible refine (CallsIn.inRound l (callsIn_wide.2 (hdb _ HB11.out))).mono ?_); rintro e w12 ⟨rfl, h⟩; exact ⟨rfl, h⟩)))
                  refine wpAnyIn_ready (rs := [4]) (by kernel_rfl) zy3 ?_
                  refine AllReadyIn.cons rfl (fun K hK => ?_) ?_
                  ·go_simp
                   (gi_wp2_with (refine ⟨trivial, ?_⟩; gi_at_call 46; first | ((with_reducible refine (CallsIn.inRound l (callsIn_wide.2 (hda _ bT10))).mono ?_); rintro e w11 ⟨rfl, HB11, c11⟩) | ((with_reducible refine (CallsIn.inRound l (callsIn_wide.2 (hdb _ HB11.out))).mono ?_); rintro e w12 ⟨rfl, h⟩; exact ⟨rfl, h⟩)))
                  exact AllReadyIn.nil
                 exact AllReadyIn.nil
                exact AllReadyIn.nil
               refine AllReadyIn.cons rfl (fun K hK => ?_) ?_
               ·go_simp
                refine hK _ _ ?_; clear hK K
                refine wpAnyIn_ready (rs := [1]) (by kernel_rfl) zy3 ?_
                refine AllReadyIn.cons rfl (fun K hK => ?_) ?_
                ·go_simp
                 refine hK _ _ ?_; clear hK K
                 refine wpAnyIn_ready (rs := [2]) (by kernel_rfl) zy3 ?_
                 refine AllReadyIn.cons rfl (fun K hK => ?_) ?_
                 ·go_simp
                  (gi_wp2_with (refine ⟨trivial, ?_⟩; gi_at_call 46; first | ((with_reducible refine (CallsIn.inRound l (callsIn_wide.2 (hda _ bT10))).mono ?_); rintro e w11 ⟨rfl, HB11, c11⟩) | ((with_reducible refine (CallsIn.inRound l (callsIn_wide.2 (hdb _ HB11.out))).mono ?_); rintro e w12 ⟨rfl, h⟩; exact ⟨rfl, h⟩)))
                  refine wpAnyIn_ready (rs := [4]) (by kernel_rfl) zy3 ?_
                  refine AllReadyIn.cons rfl (fun K hK => ?_) ?_
                  ·go_simp
                   (gi_wp2_with (refine ⟨trivial, ?_⟩; gi_at_call 46; first | ((with_reducible refine (CallsIn.inRound l (callsIn_wide.2 (hda _ bT10))).mono ?_); rintro e w11 ⟨rfl, HB11, c11⟩) | ((with_reducible refine (CallsIn.inRound l (callsIn_wide.2 (hdb _ HB11.out))).mono ?_); rintro e w12 ⟨rfl, h⟩; exact ⟨rfl, h⟩)))
                  exact AllReadyIn.nil
                 exact AllReadyIn.nil
                exact AllReadyIn.nil
               exact AllReadyIn.nil
              refine AllReadyIn.cons rfl (fun K hK => ?_) ?_
              ·go_simp
               refine hK _ _ ?_; clear hK K
               refine wpAnyIn_ready (rs := [0, 2, 3]) (by kernel_rfl) zy3 ?_
               refine AllReadyIn.cons rfl (fun K hK => ?_) ?_
               ·go_simp
                refine hK _ _ ?_; clear hK K
                refine wpAnyIn_ready (rs := [2, 3]) (by kernel_rfl) zy3 ?_
                refine AllReadyIn.cons rfl (fun K hK => ?_) ?_
                ·go_simp
                 (gi_wp2_with (refine ⟨trivial, ?_⟩; gi_at_call 46; first | ((with_reducible refine (CallsIn.inRound l (callsIn_wide.2 (hda _ bT10))).mono ?_); rintro e w11 ⟨rfl, HB11, c11⟩) | ((with_reducible refine (CallsIn.inRound l (callsIn_wide.2 (hdb _ HB11.out))).mono ?_); rintro e w12 ⟨rfl, h⟩; exact ⟨rfl, h⟩)))
                 refine wpAnyIn_ready (rs := [3]) (by kernel_rfl) zy3 ?_
                 refine AllReadyIn.cons rfl (fun K hK => ?_) ?_
                 ·go_simp
                  refine hK _ _ ?_; clear hK K
                  refine wpAnyIn_ready (rs := [4]) (by kernel_rfl) zy3 ?_
                  refine AllReadyIn.cons rfl (fun K hK => ?_) ?_
                  ·go_simp
                   (gi_wp2_with (refine ⟨trivial, ?_⟩; gi_at_call 46; first | ((with_reducible refine (CallsIn.inRound l (callsIn_wide.2 (hda _ bT10))).mono ?_); rintro e w11 ⟨rfl, HB11, c11⟩) | ((with_reducible refine (CallsIn.inRound l (callsIn_wide.2 (hdb _ HB11.out))).mono ?_); rintro e w12 ⟨rfl, h⟩; exact ⟨rfl, h⟩)))
                  exact AllReadyIn.nil
                 exact AllReadyIn.nil
                refine AllReadyIn.cons rfl (fun K hK => ?_) ?_
                ·go_simp
                 refine hK _ _ ?_; clear hK K
                 refine wpAnyIn_ready (rs := [2]) (by kernel_rfl) zy3 ?_
                 refine AllReadyIn.cons rfl (fun K hK => ?_) ?_
                 ·go_simp
                  (gi_wp2_with (refine ⟨trivial, ?_⟩; gi_at_call 46; first | ((with_reducible refine (CallsIn.inRound l (callsIn_wide.2 (hda _ bT10))).mono ?_); rintro e w11 ⟨rfl, HB11, c11⟩) | ((with_reducible refine (CallsIn.inRound l (callsIn_wide.2 (hdb _ HB11.out))).mono ?_); rintro e w12 ⟨rfl, h⟩; exact ⟨rfl, h⟩)))
                  refine wpAnyIn_ready (rs := [4]) (by kernel_rfl) zy3 ?_
                  refine AllReadyIn.cons rfl (fun K hK => ?_) ?_
                  ·go_simp
                   (gi_wp2_with (refine ⟨trivial, ?_⟩; gi_at_call 46; first | ((with_reducible refine (CallsIn.inRound l (callsIn_wide.2 (hda _ bT10))).mono ?_); rintro e w11 ⟨rfl, HB11, c11⟩) | ((with_reducible refine (CallsIn.inRound l (callsIn_wide.2 (hdb _ HB11.out))).mono ?_); rintro e w12 ⟨rfl, h⟩; exact ⟨rfl, h⟩)))
                  exact AllReadyIn.nil
                 exact AllReadyIn.nil
                exact AllReadyIn.nil
               refine AllReadyIn.cons rfl (fun K hK => ?_) ?_
               ·go_simp
                (gi_wp2_with (refine ⟨trivial, ?_⟩; gi_at_call 46; first | ((with_reducible refine (CallsIn.inRound l (callsIn_wide.2 (hda _ bT10))).mono ?_); rintro e w11 ⟨rfl, HB11, c11⟩) | ((with_reducible refine (CallsIn.inRound l (callsIn_wide.2 (hdb _ HB11.out))).mono ?_); rintro e w12 ⟨rfl, h⟩; exact ⟨rfl, h⟩)))
                refine wpAnyIn_ready (rs := [0, 3]) (by kernel_rfl) zy3 ?_
                refine AllReadyIn.cons rfl (fun K hK => ?_) ?_
                ·go_simp
                 refine hK _ _ ?_; clear hK K
                 refine wpAnyIn_ready (rs := [3]) (by kernel_rfl) zy3 ?_
                 refine AllReadyIn.cons rfl (fun K hK => ?_) ?_
                 ·go_simp
                  refine hK _ _ ?_; clear hK K
                  refine wpAnyIn_ready (rs := [4]) (by kernel_rfl) zy3 ?_
                  refine AllReadyIn.cons rfl (fun K hK => ?_) ?_
                  ·go_simp
                   (gi_wp2_with (refine ⟨trivial, ?_⟩; gi_at_call 46; first | ((with_reducible refine (CallsIn.inRound l (callsIn_wide.2 (hda _ bT10))).mono ?_); rintro e w11 ⟨rfl, HB11, c11⟩) | ((with_reducible refine (CallsIn.inRound l (callsIn_wide.2 (hdb _ HB11.out))).mono ?_); rintro e w12 ⟨rfl, h⟩; exact ⟨rfl, h⟩)))
                  exact AllReadyIn.nil
                 exact AllReadyIn.nil
                refine AllReadyIn.cons rfl (fun K hK => ?_) ?_
                ·go_simp
                 refine hK _ _ ?_; clear hK K
                 refine wpAnyIn_ready (rs := [0, 4]) (by kernel_rfl) zy3 ?_
                 refine AllReadyIn.cons rfl (fun K hK => ?_) ?_
                 ·go_simp
                  refine hK _ _ ?_; clear hK K
                  refine wpAnyIn_ready (rs := [4]) (by kernel_rfl) zy3 ?_
                  refine AllReadyIn.cons rfl (fun K hK => ?_) ?_
                  ·go_simp
                   (gi_wp2_with (refine ⟨trivial, ?_⟩; gi_at_call 46; first | ((with_reducible refine (CallsIn.inRound l (callsIn_wide.2 (hda _ bT10))).mono ?_); rintro e w11 ⟨rfl, HB11, c11⟩) | ((with_reducible refine (CallsIn.inRound l (callsIn_wide.2 (hdb _ HB11.out))).mono ?_); rintro e w12 ⟨rfl, h⟩; exact ⟨rfl, h⟩)))
                  exact AllReadyIn.nil
                 refine AllReadyIn.cons rfl (fun K hK => ?_) ?_
                 ·go_simp
                  (gi_wp2_with (refine ⟨trivial, ?_⟩; gi_at_call 46; first | ((with_reducible refine (CallsIn.inRound l (callsIn_wide.2 (hda _ bT10))).mono ?_); rintro e w11 ⟨rfl, HB11, c11⟩) | ((with_reducible refine (CallsIn.inRound l (callsIn_wide.2 (hdb _ HB11.out))).mono ?_); rintro e w12 ⟨rfl, h⟩; exact ⟨rfl, h⟩)))
                 exact AllReadyIn.nil
                exact AllReadyIn.nil
               refine AllReadyIn.cons rfl (fun K hK => ?_) ?_
               ·go_simp
                refine hK _ _ ?_; clear hK K
                refine wpAnyIn_ready (rs := [0, 2]) (by kernel_rfl) zy3 ?_
                refine AllReadyIn.cons rfl (fun K hK => ?_) ?_
                ·go_simp
                 refine hK _ _ ?_; clear hK K
                 refine wpAnyIn_ready (rs := [2]) (by kernel_rfl) zy3 ?_
                 refine AllReadyIn.cons rfl (fun K hK => ?_) ?_
                 ·go_simp
                  (gi_wp2_with (refine ⟨trivial, ?_⟩; gi_at_call 46; first | ((with_reducible refine (CallsIn.inRound l (callsIn_wide.2 (hda _ bT10))).mono ?_); rintro e w11 ⟨rfl, HB11, c11⟩) | ((with_reducible refine (CallsIn.inRound l (callsIn_wide.2 (hdb _ HB11.out))).mono ?_); rintro e w12 ⟨rfl, h⟩; exact ⟨rfl, h⟩)))
                  refine wpAnyIn_ready (rs := [4]) (by kernel_rfl) zy3 ?_
                  refine AllReadyIn.cons rfl (fun K hK => ?_) ?_
                  ·go_simp
                   (gi_wp2_with (refine ⟨trivial, ?_⟩; gi_at_call 46; first | ((with_reducible refine (CallsIn.inRound l (callsIn_wide.2 (hda _ bT10))).mono ?_); rintro e w11 ⟨rfl, HB11, c11⟩) | ((with_reducible refine (CallsIn.inRound l (callsIn_wide.2 (hdb _ HB11.out))).mono ?_); rintro e w12 ⟨rfl, h⟩; exact ⟨rfl, h⟩)))
                  exact AllReadyIn.nil
                 exact AllReadyIn.nil
                refine AllReadyIn.cons rfl (fun K hK => ?_) ?_
                ·go_simp
                 (gi_wp2_with (refine ⟨trivial, ?_⟩; gi_at_call 46; first | ((with_reducible refine (CallsIn.inRound l (callsIn_wide.2 (hda _ bT10))).mono ?_); rintro e w11 ⟨rfl, HB11, c11⟩) | ((with_reducible refine (CallsIn.inRound l (callsIn_wide.2 (hdb _ HB11.out))).mono ?_); rintro e w12 ⟨rfl, h⟩; exact ⟨rfl, h⟩)))
                 refine wpAnyIn_ready (rs := [0, 4]) (by kernel_rfl) zy3 ?_
                 refine AllReadyIn.cons rfl (fun K hK => ?_) ?_
                 ·go_simp
                  refine hK _ _ ?_; clear hK K
                  refine wpAnyIn_ready (rs := [4]) (by kernel_rfl) zy3 ?_
                  refine AllReadyIn.cons rfl (fun K hK => ?_) ?_
                  ·go_simp
                   (gi_wp2_with (refine ⟨trivial, ?_⟩; gi_at_call 46; first | ((with_reducible refine (CallsIn.inRound l (callsIn_wide.2 (hda _ bT10))).mono ?_); rintro e w11 ⟨rfl, HB11, c11⟩) | ((with_reducible refine (CallsIn.inRound l (callsIn_wide.2 (hdb _ HB11.out))).mono ?_); rintro e w12 ⟨rfl, h⟩; exact ⟨rfl, h⟩)))
                  exact AllReadyIn.nil
                 refine AllReadyIn.cons rfl (fun K hK => ?_) ?_
                 ·go_simp
                  (gi_wp2_with (refine ⟨trivial, ?_⟩; gi_at_call 46; first | ((with_reducible refine (CallsIn.inRound l (callsIn_wide.2 (hda _ bT10))).mono ?_); rintro e w11 ⟨rfl, HB11, c11⟩) | ((with_reducible refine (CallsIn.inRound l (callsIn_wide.2 (hdb _ HB11.out))).mono ?_); rintro e w12 ⟨rfl, h⟩; exact ⟨rfl, h⟩)))
                 exact AllReadyIn.nil
                exact AllReadyIn.nil
               exact AllReadyIn.nil
              refine AllReadyIn.cons rfl (fun K hK => ?_) ?_
              ·go_simp
               refine hK _ _ ?_; clear hK K
               refine wpAnyIn_ready (rs := [0, 1]) (by kernel_rfl) zy3 ?_
               refine AllReadyIn.cons rfl (fun K hK => ?_) ?_
               ·go_simp
                refine hK _ _ ?_; clear hK K
                refine wpAnyIn_ready (rs := [1]) (by kernel_rfl) zy3 ?_
                refine AllReadyIn.cons rfl (fun K hK => ?_) ?_
                ·go_simp
                 refine hK _ _ ?_; clear hK K
                 refine wpAnyIn_ready (rs := [2]) (by kernel_rfl) zy3 ?_
                 refine AllReadyIn.cons rfl (fun K hK => ?_) ?_
                 ·go_simp
                  (gi_wp2_with (refine ⟨trivial, ?_⟩; gi_at_call 46; first | ((with_reducible refine (CallsIn.inRound l (callsIn_wide.2 (hda _ bT10))).mono ?_); rintro e w11 ⟨rfl, HB11, c11⟩) | ((with_reducible refine (CallsIn.inRound l (callsIn_wide.2 (hdb _ HB11.out))).mono ?_); rintro e w12 ⟨rfl, h⟩; exact ⟨rfl, h⟩)))
                  refine wpAnyIn_ready (rs := [4]) (by kernel_rfl) zy3 ?_
                  refine AllReadyIn.cons rfl (fun K hK => ?_) ?_
                  ·go_simp
                   (gi_wp2_with (refine ⟨trivial, ?_⟩; gi_at_call 46; first | ((with_reducible refine (CallsIn.inRound l (callsIn_wide.2 (hda _ bT10))).mono ?_); rintro e w11 ⟨rfl, HB11, c11⟩) | ((with_reducible refine (CallsIn.inRound l (callsIn_wide.2 (hdb _ HB11.out))).mono ?_); rintro e w12 ⟨rfl, h⟩; exact ⟨rfl, h⟩)))
                  exact AllReadyIn.nil
                 exact AllReadyIn.nil
                exact AllReadyIn.nil
               refine AllReadyIn.cons rfl (fun K hK => ?_) ?_
               ·go_simp
                refine hK _ _ ?_; clear hK K
                refine wpAnyIn_ready (rs := [0, 2]) (by kernel_rfl) zy3 ?_
                refine AllReadyIn.cons rfl (fun K hK => ?_) ?_
                ·go_simp
                 refine hK _ _ ?_; clear hK K
                 refine wpAnyIn_ready (rs := [2]) (by kernel_rfl) zy3 ?_
                 refine AllReadyIn.cons rfl (fun K hK => ?_) ?_
                 ·go_simp
                  (gi_wp2_with (refine ⟨trivial, ?_⟩; gi_at_call 46; first | ((with_reducible refine (CallsIn.inRound l (callsIn_wide.2 (hda _ bT10))).mono ?_); rintro e w11 ⟨rfl, HB11, c11⟩) | ((with_reducible refine (CallsIn.inRound l (callsIn_wide.2 (hdb _ HB11.out))).mono ?_); rintro e w12 ⟨rfl, h⟩; exact ⟨rfl, h⟩)))
                  refine wpAnyIn_ready (rs := [4]) (by kernel_rfl) zy3 ?_
                  refine AllReadyIn.cons rfl (fun K hK => ?_) ?_
                  ·go_simp
                   (gi_wp2_with (refine ⟨trivial, ?_⟩; gi_at_call 46; first | ((with_reducible refine (CallsIn.inRound l (callsIn_wide.2 (hda _ bT10))).mono ?_); rintro e w11 ⟨rfl, HB11, c11⟩) | ((with_reducible refine (CallsIn.inRound l (callsIn_wide.2 (hdb _ HB11.out))).mono ?_); rintro e w12 ⟨rfl, h⟩; exact ⟨rfl, h⟩)))
                  exact AllReadyIn.nil
                 exact AllReadyIn.nil
                refine AllReadyIn.cons rfl (fun K hK => ?_) ?_
                ·go_simp
                 (gi_wp2_with (refine ⟨trivial, ?_⟩; gi_at_call 46; first | ((with_reducible refine (CallsIn.inRound l (callsIn_wide.2 (hda _ bT10))).mono ?_); rintro e w11 ⟨rfl, HB11, c11⟩) | ((with_reducible refine (CallsIn.inRound l (callsIn_wide.2 (hdb _ HB11.out))).mono ?_); rintro e w12 ⟨rfl, h⟩; exact ⟨rfl, h⟩)))
                 refine wpAnyIn_ready (rs := [0, 4]) (by kernel_rfl) zy3 ?_
                 refine AllReadyIn.cons rfl (fun K hK => ?_) ?_
                 ·go_simp
                  refine hK _ _ ?_; clear hK K
                  refine wpAnyIn_ready (rs := [4]) (by kernel_rfl) zy3 ?_
                  refine AllReadyIn.cons rfl (fun K hK => ?_) ?_
                  ·go_simp
                   (gi_wp2_with (refine ⟨trivial, ?_⟩; gi_at_call 46; first | ((with_reducible refine (CallsIn.inRound l (callsIn_wide.2 (hda _ bT10))).mono ?_); rintro e w11 ⟨rfl, HB11, c11⟩) | ((with_reducible refine (CallsIn.inRound l (callsIn_wide.2 (hdb _ HB11.out))).mono ?_); rintro e w12 ⟨rfl, h⟩; exact ⟨rfl, h⟩)))
                  exact AllReadyIn.nil
                 refine AllReadyIn.cons rfl (fun K hK => ?_) ?_
                 ·go_simp
                  (gi_wp2_with (refine ⟨trivial, ?_⟩; gi_at_call 46; first | ((with_reducible refine (CallsIn.inRound l (callsIn_wide.2 (hda _ bT10))).mono ?_); rintro e w11 ⟨rfl, HB11, c11⟩) | ((with_reducible refine (CallsIn.inRound l (callsIn_wide.2 (hdb _ HB11.out))).mono ?_); rintro e w12 ⟨rfl, h⟩; exact ⟨rfl, h⟩)))
                 exact AllReadyIn.nil
                exact AllReadyIn.nil
               exact AllReadyIn.nil
              exact AllReadyIn.nil
            | some yb =>
              have HN := Aside0.mk (show stepQ qq (i, line) ys = some (ys ++ [⟨bs ya, bs yb⟩]) by rw [HSQ.out, HD.out, hd2]; rfl)
              have HAP := Aside0.mk (fun w9 (hb : Below V.heap.size V w9) => append_hd ⟨bs ya, bs yb⟩ h3 hb h6 (by have := HPLN.out; omega))
              have hge := own_ge (e := 59) h3
              have HUP := Aside0.mk (fun (w9 w10 : World) (hb : Below V.heap.size V w9) (hg : (w9.alloc (.cells #[.string (bs ya), .string (bs yb)] 59)).grownBy w10 (Value.slice A0 ys.length cp0).ownBlock) =>
                show w10.heap[Q]? = some (.cells #[.slice A0 ys.length cp0] 23 (0, 0)) from get_grown (get_below H2V.out (below_alloc hb _)) hg (fun e => by have := (hge Q e).1; have := HW0.out.2.2; have := HLT.out; omega))
              have hdb : ∀ W1, Below V.heap.size V W1 → Calls Tryz.prog 46 #[.string (bs lb)] W1 fun e w' => e = .returned (.string (bs yb)) ∧ Aside0 (Below V.heap.size V w') ∧ w'.cell? ⟨Q, 0, none⟩ = #[Value.slice A0 ys.length cp0][0]? ∧ (w'.alloc (.cells #[.string (bs ya), .string (bs yb)] 59)).cell? ⟨Q, 0, none⟩ = #[Value.slice A0 ys.length cp0][0]? ∧ Q < w'.heap.size ∧ ∃ A1 cp1 w13,
                  (∀ ty, (Builtin.append_ #[23, 23] ty #[.slice A0 ys.length cp0, .slice (some ⟨w'.heap.size, 0, none⟩) 1 1]).run Tryz.prog (w'.alloc (.cells #[.string (bs ya), .string (bs yb)] 59)) = .ok (.slice A1 (ys.length + 1) cp1) w13) ∧
                  Aside0 (w13.ownsRow V6.heap.size 59 2 (.slice A1 (ys.length + 1) cp1) (ys.length + 1) (hcells (ys ++ [⟨bs ya, bs yb⟩]))) ∧ Aside0 ((w'.alloc (.cells #[.string (bs ya), .string (bs yb)] 59)).grownBy w13 (Value.slice A0 ys.length cp0).ownBlock) ∧ w13.cell? ⟨Q, 0, none⟩ = #[Value.slice A0 ys.length cp0][0]? ∧ w13.frozen? ⟨Q, 0, none⟩ = false := fun W1 hb => (hdecB W1 hb).mono fun e w' hp => by
                obtain ⟨a, b⟩ := hp
                rw [hd2] at b
                have hb2 := below_step hb a
                obtain ⟨A1, cp1, w13, hrun, hown, hgr⟩ := HAP.out w' hb2
                exact ⟨b, Aside0.mk hb2, blk_cell (get_below H2V.out hb2) 0, blk_cell (get_below H2V.out (below_alloc hb2 _)) 0, blk_lt (get_below H2V.out hb2), A1, cp1, w13, hrun, Aside0.mk hown, Aside0.mk hgr, blk_cell (HUP.out _ _ hb2 hgr) 0, blk_frozen (HUP.out _ _ hb2 hgr) 0⟩
              have FIN := Aside0.mk (fun (w9 w10 : World) (A1 : Option Addr) (cp1 : Nat) (hB : Below V.heap.size V w9) (ho : w10.ownsRow V6.heap.size 59 2 (.slice A1 (ys.length + 1) cp1) (ys.length + 1) (hcells (ys ++ [⟨bs ya, bs yb⟩]))) (hg : (w9.alloc (.cells #[.string (bs ya), .string (bs yb)] 59)).grownBy w10 (Value.slice A0 ys.length cp0).ownBlock) =>
                show KeepsOthers V (w10.setCell ⟨Q, 0, none⟩ (.slice A1 (ys.length + 1) cp1)) ∧ KpP Cs (Cs + 1) V (w10.setCell ⟨Q, 0, none⟩ (.slice A1 (ys.length + 1) cp1)) ∧ PaI Q V6.heap.size 23 59 2 hcells (stepQ qq) W (pre ++ [(i, line)]) (w10.setCell ⟨Q, 0, none⟩ (.slice A1 (ys.length + 1) cp1)) from by
                  have hB4 := below_alloc hB (.cells #[.string (bs ya), .string (bs yb)] 59)
                  have hz := HW0.out.2.2
                  have hl3 := HLT.out
                  have hfQ := hf Q (.inr rfl)
                  have hQ10 := HUP.out _ _ hB hg
                  refine ⟨((keepsB hB4).trans (keeps_grown hg (fun b hb => ⟨_, _, get_below (hge b hb).2.choose_spec hB4⟩))).trans (KeepsOthers.setCell _ _ _), ((kpP_below hB4 zy4 zy4 zy4).trans (kpP_grown hg (by have := hB4.size; omega) (by have := hB4.size; omega) (by have := hB4.size; omega) (fun b hb => by have := (hge b hb).1; omega))).trans (kpP_set _ zy4 zy4 zy4), ⟨ys ++ [⟨bs ya, bs yb⟩], .slice A1 (ys.length + 1) cp1, by rw [runO_snoc, h1]; exact HN.out, ?_, ?_, by simp only [List.length_append, List.length_singleton]; omega⟩, ?_, ?_⟩
                  · have := blk_setT (o := 0) hQ10 (.slice A1 (ys.length + 1) cp1)
                    simpa using this
                  · rw [List.length_append, List.length_singleton]
                    exact ownsRow_same ho (fun g cs hg2 hx => (Below.heap_setCell _ _ _ _ (show g ≠ Q by omega)).trans hx)
                  · exact (own_grown (h5.trans (own_of_below hB4)) hg (fun b hb => by have := (hge b hb).1; omega)).trans (step_put Q 0 _ _)
                  · have := hg.size; have := hB4.size
                    simp only [World.setCell, Array.size_modify]
                    omega)
              clear hdecA hdecB
              gi_wp2_with (refine ⟨trivial, ?_⟩; gi_at_call 30; ((with_reducible refine (CallsIn.inRound l (callsIn_wide.2 hcut)).mono ?_); rintro e w10 ⟨rfl, hb10⟩; have HB10 := Aside0.mk hb10; have c10 := blk_cell (get_below H2V.out hb10) 0; clear hb10))
              refine wpIn_region_any (by assumption) ?_
              try (change wpAnyIn _ _ _ _ _ _ _ _ _ (World.drew _))
              refine wpAnyIn_ready (rs := [0, 1, 3]) (by kernel_rfl) zy3 ?_
              refine AllReadyIn.cons rfl (fun K hK => ?_) ?_
              ·go_simp
               refine hK _ _ ?_; clear hK K
               refine wpAnyIn_ready (rs := [1, 3]) (by kernel_rfl) zy3 ?_
               refine AllReadyIn.cons rfl (fun K hK => ?_) ?_
               ·go_simp
                refine hK _ _ ?_; clear hK K
                refine wpAnyIn_ready (rs := [2, 3]) (by kernel_rfl) zy3 ?_
                refine AllReadyIn.cons rfl (fun K hK => ?_) ?_
                ·go_simp
                 (gi_wp2_with (refine ⟨trivial, ?_⟩; gi_at_call 46; first | ((with_reducible refine (CallsIn.inRound l (callsIn_wide.2 (hda _ bT10))).mono ?_); rintro e w11 ⟨rfl, HB11, c11⟩) | ((with_reducible refine (CallsIn.inRound l (callsIn_wide.2 (hdb _ HB11.out))).mono ?_); rintro e w12 ⟨rfl, HB12, c12, c12a, hQw12, A1, cp1, w13, hrun, HO, HG, c13, f13⟩)))
                 refine wpAnyIn_ready (rs := [3]) (by kernel_rfl) zy3 ?_
                 refine AllReadyIn.cons rfl (fun K hK => ?_) ?_
                 ·go_simp
                  refine hK _ _ ?_; clear hK K
                  refine wpAnyIn_ready (rs := [4]) (by kernel_rfl) zy3 ?_
                  refine AllReadyIn.cons rfl (fun K hK => ?_) ?_
                  ·go_simp
                   (gi_wp2_with (refine ⟨trivial, ?_⟩; gi_at_call 46; first | ((with_reducible refine (CallsIn.inRound l (callsIn_wide.2 (hda _ bT10))).mono ?_); rintro e w11 ⟨rfl, HB11, c11⟩) | ((with_reducible refine (CallsIn.inRound l (callsIn_wide.2 (hdb _ HB11.out))).mono ?_); rintro e w12 ⟨rfl, HB12, c12, c12a, hQw12, A1, cp1, w13, hrun, HO, HG, c13, f13⟩)))
                   refine wpAnyIn_ready (rs := [5]) (by kernel_rfl) zy3 ?_
                   refine AllReadyIn.cons rfl (fun K hK => ?_) ?_
                   ·go_simp
                    refine hK _ _ ?_; clear hK K
                    refine wpAnyIn_ready (rs := [6]) (by kernel_rfl) zy3 ?_
                    refine AllReadyIn.cons rfl (fun K hK => ?_) ?_
                    ·go_simp
                     refine hK _ _ ?_; clear hK K
                     refine wpAnyIn_ready (rs := [7]) (by kernel_rfl) zy3 ?_
                     refine AllReadyIn.cons rfl (fun K hK => ?_) ?_
                     ·(refine step_append_runIn rfl (.tmp 45) (.tmp 51) 23 rfl (.slice A0 ys.length cp0) (.slice (some ⟨w12.heap.size, 0, none⟩) 1 1) (.slice A1 (ys.length + 1) cp1) zy1 zy1 hrun (hK _ _ ?_))
                      (gi_wp2_with (refine ⟨trivial, ?_⟩; gi_at_call 46; first | ((with_reducible refine (CallsIn.inRound l (callsIn_wide.2 (hda _ bT10))).mono ?_); rintro e w11 ⟨rfl, HB11, c11⟩) | ((with_reducible refine (CallsIn.inRound l (callsIn_wide.2 (hdb _ HB11.out))).mono ?_); rintro e w12 ⟨rfl, HB12, c12, c12a, hQw12, A1, cp1, w13, hrun, HO, HG, c13, f13⟩)))
                      refine wpAnyIn_ready (rs := [8]) (by kernel_rfl) zy3 ?_
                      refine AllReadyIn.cons rfl (fun K hK => ?_) ?_
                      ·go_simp
                       refine hK _ _ ?_; clear hK K
                       refine wpAnyIn_done (by kernel_rfl) ?_ _
                       (exact FIN.out _ _ _ _ HB12.out HO.out HG.out)
                      exact AllReadyIn.nil
                     exact AllReadyIn.nil
                    exact AllReadyIn.nil
                   exact AllReadyIn.nil
                  exact AllReadyIn.nil
                 exact AllReadyIn.nil
                refine AllReadyIn.cons rfl (fun K hK => ?_) ?_
                ·go_simp
                 refine hK _ _ ?_; clear hK K
                 refine wpAnyIn_ready (rs := [2]) (by kernel_rfl) zy3 ?_
                 refine AllReadyIn.cons rfl (fun K hK => ?_) ?_
                 ·go_simp
                  (gi_wp2_with (refine ⟨trivial, ?_⟩; gi_at_call 46; first | ((with_reducible refine (CallsIn.inRound l (callsIn_wide.2 (hda _ bT10))).mono ?_); rintro e w11 ⟨rfl, HB11, c11⟩) | ((with_reducible refine (CallsIn.inRound l (callsIn_wide.2 (hdb _ HB11.out))).mono ?_); rintro e w12 ⟨rfl, HB12, c12, c12a, hQw12, A1, cp1, w13, hrun, HO, HG, c13, f13⟩)))
                  refine wpAnyIn_ready (rs := [4]) (by kernel_rfl) zy3 ?_
                  refine AllReadyIn.cons rfl (fun K hK => ?_) ?_
                  ·go_simp
                   (gi_wp2_with (refine ⟨trivial, ?_⟩; gi_at_call 46; first | ((with_reducible refine (CallsIn.inRound l (callsIn_wide.2 (hda _ bT10))).mono ?_); rintro e w11 ⟨rfl, HB11, c11⟩) | ((with_reducible refine (CallsIn.inRound l (callsIn_wide.2 (hdb _ HB11.out))).mono ?_); rintro e w12 ⟨rfl, HB12, c12, c12a, hQw12, A1, cp1, w13, hrun, HO, HG, c13, f13⟩)))
                   refine wpAnyIn_ready (rs := [5]) (by kernel_rfl) zy3 ?_
                   refine AllReadyIn.cons rfl (fun K hK => ?_) ?_
                   ·go_simp
                    refine hK _ _ ?_; clear hK K
                    refine wpAnyIn_ready (rs := [6]) (by kernel_rfl) zy3 ?_
                    refine AllReadyIn.cons rfl (fun K hK => ?_) ?_
                    ·go_simp
                     refine hK _ _ ?_; clear hK K
                     refine wpAnyIn_ready (rs := [7]) (by kernel_rfl) zy3 ?_
                     refine AllReadyIn.cons rfl (fun K hK => ?_) ?_
                     ·(refine step_append_runIn rfl (.tmp 45) (.tmp 51) 23 rfl (.slice A0 ys.length cp0) (.slice (some ⟨w12.heap.size, 0, none⟩) 1 1) (.slice A1 (ys.length + 1) cp1) zy1 zy1 hrun (hK _ _ ?_))
                      (gi_wp2_with (refine ⟨trivial, ?_⟩; gi_at_call 46; first | ((with_reducible refine (CallsIn.inRound l (callsIn_wide.2 (hda _ bT10))).mono ?_); rintro e w11 ⟨rfl, HB11, c11⟩) | ((with_reducible refine (CallsIn.inRound l (callsIn_wide.2 (hdb _ HB11.out))).mono ?_); rintro e w12 ⟨rfl, HB12, c12, c12a, hQw12, A1, cp1, w13, hrun, HO, HG, c13, f13⟩)))
                      refine wpAnyIn_ready (rs := [8]) (by kernel_rfl) zy3 ?_
                      refine AllReadyIn.cons rfl (fun K hK => ?_) ?_
                      ·go_simp
                       refine hK _ _ ?_; clear hK K
                       refine wpAnyIn_done (by kernel_rfl) ?_ _
                       (exact FIN.out _ _ _ _ HB12.out HO.out HG.out)
                      exact AllReadyIn.nil
                     exact AllReadyIn.nil
                    exact AllReadyIn.nil
                   exact AllReadyIn.nil
                  exact AllReadyIn.nil
                 exact AllReadyIn.nil
                exact AllReadyIn.nil
               refine AllReadyIn.cons rfl (fun K hK => ?_) ?_
               ·go_simp
                refine hK _ _ ?_; clear hK K
                refine wpAnyIn_ready (rs := [1]) (by kernel_rfl) zy3 ?_
                refine AllReadyIn.cons rfl (fun K hK => ?_) ?_
                ·go_simp
                 refine hK _ _ ?_; clear hK K
                 refine wpAnyIn_ready (rs := [2]) (by kernel_rfl) zy3 ?_
                 refine AllReadyIn.cons rfl (fun K hK => ?_) ?_
                 ·go_simp
                  (gi_wp2_with (refine ⟨trivial, ?_⟩; gi_at_call 46; first | ((with_reducible refine (CallsIn.inRound l (callsIn_wide.2 (hda _ bT10))).mono ?_); rintro e w11 ⟨rfl, HB11, c11⟩) | ((with_reducible refine (CallsIn.inRound l (callsIn_wide.2 (hdb _ HB11.out))).mono ?_); rintro e w12 ⟨rfl, HB12, c12, c12a, hQw12, A1, cp1, w13, hrun, HO, HG, c13, f13⟩)))
                  refine wpAnyIn_ready (rs := [4]) (by kernel_rfl) zy3 ?_
                  refine AllReadyIn.cons rfl (fun K hK => ?_) ?_
                  ·go_simp
                   (gi_wp2_with (refine ⟨trivial, ?_⟩; gi_at_call 46; first | ((with_reducible refine (CallsIn.inRound l (callsIn_wide.2 (hda _ bT10))).mono ?_); rintro e w11 ⟨rfl, HB11, c11⟩) | ((with_reducible refine (CallsIn.inRound l (callsIn_wide.2 (hdb _ HB11.out))).mono ?_); rintro e w12 ⟨rfl, HB12, c12, c12a, hQw12, A1, cp1, w13, hrun, HO, HG, c13, f13⟩)))
                   refine wpAnyIn_ready (rs := [5]) (by kernel_rfl) zy3 ?_
                   refine AllReadyIn.cons rfl (fun K hK => ?_) ?_
                   ·go_simp
                    refine hK _ _ ?_; clear hK K
                    refine wpAnyIn_ready (rs := [6]) (by kernel_rfl) zy3 ?_
                    refine AllReadyIn.cons rfl (fun K hK => ?_) ?_
                    ·go_simp
                     refine hK _ _ ?_; clear hK K
                     refine wpAnyIn_ready (rs := [7]) (by kernel_rfl) zy3 ?_
                     refine AllReadyIn.cons rfl (fun K hK => ?_) ?_
                     ·(refine step_append_runIn rfl (.tmp 45) (.tmp 51) 23 rfl (.slice A0 ys.length cp0) (.slice (some ⟨w12.heap.size, 0, none⟩) 1 1) (.slice A1 (ys.length + 1) cp1) zy1 zy1 hrun (hK _ _ ?_))
                      (gi_wp2_with (refine ⟨trivial, ?_⟩; gi_at_call 46; first | ((with_reducible refine (CallsIn.inRound l (callsIn_wide.2 (hda _ bT10))).mono ?_); rintro e w11 ⟨rfl, HB11, c11⟩) | ((with_reducible refine (CallsIn.inRound l (callsIn_wide.2 (hdb _ HB11.out))).mono ?_); rintro e w12 ⟨rfl, HB12, c12, c12a, hQw12, A1, cp1, w13, hrun, HO, HG, c13, f13⟩)))
                      refine wpAnyIn_ready (rs := [8]) (by kernel_rfl) zy3 ?_
                      refine AllReadyIn.cons rfl (fun K hK => ?_) ?_
                      ·go_simp
                       refine hK _ _ ?_; clear hK K
                       refine wpAnyIn_done (by kernel_rfl) ?_ _
                       (exact FIN.out _ _ _ _ HB12.out HO.out HG.out)
                      exact AllReadyIn.nil
                     exact AllReadyIn.nil
                    exact AllReadyIn.nil
                   exact AllReadyIn.nil
                  exact AllReadyIn.nil
                 exact AllReadyIn.nil
                exact AllReadyIn.nil
               exact AllReadyIn.nil
              refine AllReadyIn.cons rfl (fun K hK => ?_) ?_
              ·go_simp
               refine hK _ _ ?_; clear hK K
               refine wpAnyIn_ready (rs := [0, 2, 3]) (by kernel_rfl) zy3 ?_
               refine AllReadyIn.cons rfl (fun K hK => ?_) ?_
               ·go_simp
                refine hK _ _ ?_; clear hK K
                refine wpAnyIn_ready (rs := [2, 3]) (by kernel_rfl) zy3 ?_
                refine AllReadyIn.cons rfl (fun K hK => ?_) ?_
                ·go_simp
                 (gi_wp2_with (refine ⟨trivial, ?_⟩; gi_at_call 46; first | ((with_reducible refine (CallsIn.inRound l (callsIn_wide.2 (hda _ bT10))).mono ?_); rintro e w11 ⟨rfl, HB11, c11⟩) | ((with_reducible refine (CallsIn.inRound l (callsIn_wide.2 (hdb _ HB11.out))).mono ?_); rintro e w12 ⟨rfl, HB12, c12, c12a, hQw12, A1, cp1, w13, hrun, HO, HG, c13, f13⟩)))
                 refine wpAnyIn_ready (rs := [3]) (by kernel_rfl) zy3 ?_
                 refine AllReadyIn.cons rfl (fun K hK => ?_) ?_
                 ·go_simp
                  refine hK _ _ ?_; clear hK K
                  refine wpAnyIn_ready (rs := [4]) (by kernel_rfl) zy3 ?_
                  refine AllReadyIn.cons rfl (fun K hK => ?_) ?_
                  ·go_simp
                   (gi_wp2_with (refine ⟨trivial, ?_⟩; gi_at_call 46; first | ((with_reducible refine (CallsIn.inRound l (callsIn_wide.2 (hda _ bT10))).mono ?_); rintro e w11 ⟨rfl, HB11, c11⟩) | ((with_reducible refine (CallsIn.inRound l (callsIn_wide.2 (hdb _ HB11.out))).mono ?_); rintro e w12 ⟨rfl, HB12, c12, c12a, hQw12, A1, cp1, w13, hrun, HO, HG, c13, f13⟩)))
                   refine wpAnyIn_ready (rs := [5]) (by kernel_rfl) zy3 ?_
                   refine AllReadyIn.cons rfl (fun K hK => ?_) ?_
                   ·go_simp
                    refine hK _ _ ?_; clear hK K
                    refine wpAnyIn_ready (rs := [6]) (by kernel_rfl) zy3 ?_
                    refine AllReadyIn.cons rfl (fun K hK => ?_) ?_
                    ·go_simp
                     refine hK _ _ ?_; clear hK K
                     refine wpAnyIn_ready (rs := [7]) (by kernel_rfl) zy3 ?_
                     refine AllReadyIn.cons rfl (fun K hK => ?_) ?_
                     ·(refine step_append_runIn rfl (.tmp 45) (.tmp 51) 23 rfl (.slice A0 ys.length cp0) (.slice (some ⟨w12.heap.size, 0, none⟩) 1 1) (.slice A1 (ys.length + 1) cp1) zy1 zy1 hrun (hK _ _ ?_))
                      (gi_wp2_with (refine ⟨trivial, ?_⟩; gi_at_call 46; first | ((with_reducible refine (CallsIn.inRound l (callsIn_wide.2 (hda _ bT10))).mono ?_); rintro e w11 ⟨rfl, HB11, c11⟩) | ((with_reducible refine (CallsIn.inRound l (callsIn_wide.2 (hdb _ HB11.out))).mono ?_); rintro e w12 ⟨rfl, HB12, c12, c12a, hQw12, A1, cp1, w13, hrun, HO, HG, c13, f13⟩)))
                      refine wpAnyIn_ready (rs := [8]) (by kernel_rfl) zy3 ?_
                      refine AllReadyIn.cons rfl (fun K hK => ?_) ?_
                      ·go_simp
                       refine hK _ _ ?_; clear hK K
                       refine wpAnyIn_done (by kernel_rfl) ?_ _
                       (exact FIN.out _ _ _ _ HB12.out HO.out HG.out)
                      exact AllReadyIn.nil
                     exact AllReadyIn.nil
                    exact AllReadyIn.nil
                   exact AllReadyIn.nil
                  exact AllReadyIn.nil
                 exact AllReadyIn.nil
                refine AllReadyIn.cons rfl (fun K hK => ?_) ?_
                ·go_simp
                 refine hK _ _ ?_; clear hK K
                 refine wpAnyIn_ready (rs := [2]) (by kernel_rfl) zy3 ?_
                 refine AllReadyIn.cons rfl (fun K hK => ?_) ?_
                 ·go_simp
                  (gi_wp2_with (refine ⟨trivial, ?_⟩; gi_at_call 46; first | ((with_reducible refine (CallsIn.inRound l (callsIn_wide.2 (hda _ bT10))).mono ?_); rintro e w11 ⟨rfl, HB11, c11⟩) | ((with_reducible refine (CallsIn.inRound l (callsIn_wide.2 (hdb _ HB11.out))).mono ?_); rintro e w12 ⟨rfl, HB12, c12, c12a, hQw12, A1, cp1, w13, hrun, HO, HG, c13, f13⟩)))
                  refine wpAnyIn_ready (rs := [4]) (by kernel_rfl) zy3 ?_
                  refine AllReadyIn.cons rfl (fun K hK => ?_) ?_
                  ·go_simp
                   (gi_wp2_with (refine ⟨trivial, ?_⟩; gi_at_call 46; first | ((with_reducible refine (CallsIn.inRound l (callsIn_wide.2 (hda _ bT10))).mono ?_); rintro e w11 ⟨rfl, HB11, c11⟩) | ((with_reducible refine (CallsIn.inRound l (callsIn_wide.2 (hdb _ HB11.out))).mono ?_); rintro e w12 ⟨rfl, HB12, c12, c12a, hQw12, A1, cp1, w13, hrun, HO, HG, c13, f13⟩)))
                   refine wpAnyIn_ready (rs := [5]) (by kernel_rfl) zy3 ?_
                   refine AllReadyIn.cons rfl (fun K hK => ?_) ?_
                   ·go_simp
                    refine hK _ _ ?_; clear hK K
                    refine wpAnyIn_ready (rs := [6]) (by kernel_rfl) zy3 ?_
                    refine AllReadyIn.cons rfl (fun K hK => ?_) ?_
                    ·go_simp
                     refine hK _ _ ?_; clear hK K
                     refine wpAnyIn_ready (rs := [7]) (by kernel_rfl) zy3 ?_
                     refine AllReadyIn.cons rfl (fun K hK => ?_) ?_
                     ·(refine step_append_runIn rfl (.tmp 45) (.tmp 51) 23 rfl (.slice A0 ys.length cp0) (.slice (some ⟨w12.heap.size, 0, none⟩) 1 1) (.slice A1 (ys.length + 1) cp1) zy1 zy1 hrun (hK _ _ ?_))
                      (gi_wp2_with (refine ⟨trivial, ?_⟩; gi_at_call 46; first | ((with_reducible refine (CallsIn.inRound l (callsIn_wide.2 (hda _ bT10))).mono ?_); rintro e w11 ⟨rfl, HB11, c11⟩) | ((with_reducible refine (CallsIn.inRound l (callsIn_wide.2 (hdb _ HB11.out))).mono ?_); rintro e w12 ⟨rfl, HB12, c12, c12a, hQw12, A1, cp1, w13, hrun, HO, HG, c13, f13⟩)))
                      refine wpAnyIn_ready (rs := [8]) (by kernel_rfl) zy3 ?_
                      refine AllReadyIn.cons rfl (fun K hK => ?_) ?_
                      ·go_simp
                       refine hK _ _ ?_; clear hK K
                       refine wpAnyIn_done (by kernel_rfl) ?_ _
                       (exact FIN.out _ _ _ _ HB12.out HO.out HG.out)
                      exact AllReadyIn.nil
                     exact AllReadyIn.nil
                    exact AllReadyIn.nil
                   exact AllReadyIn.nil
                  exact AllReadyIn.nil
                 exact AllReadyIn.nil
                exact AllReadyIn.nil
               refine AllReadyIn.cons rfl (fun K hK => ?_) ?_
               ·go_simp
                (gi_wp2_with (refine ⟨trivial, ?_⟩; gi_at_call 46; first | ((with_reducible refine (CallsIn.inRound l (callsIn_wide.2 (hda _ bT10))).mono ?_); rintro e w11 ⟨rfl, HB11, c11⟩) | ((with_reducible refine (CallsIn.inRound l (callsIn_wide.2 (hdb _ HB11.out))).mono ?_); rintro e w12 ⟨rfl, HB12, c12, c12a, hQw12, A1, cp1, w13, hrun, HO, HG, c13, f13⟩)))
                refine wpAnyIn_ready (rs := [0, 3]) (by kernel_rfl) zy3 ?_
                refine AllReadyIn.cons rfl (fun K hK => ?_) ?_
                ·go_simp
                 refine hK _ _ ?_; clear hK K
                 refine wpAnyIn_ready (rs := [3]) (by kernel_rfl) zy3 ?_
                 refine AllReadyIn.cons rfl (fun K hK => ?_) ?_
                 ·go_simp
                  refine hK _ _ ?_; clear hK K
                  refine wpAnyIn_ready (rs := [4]) (by kernel_rfl) zy3 ?_
                  refine AllReadyIn.cons rfl (fun K hK => ?_) ?_
                  ·go_simp
                   (gi_wp2_with (refine ⟨trivial, ?_⟩; gi_at_call 46; first | ((with_reducible refine (CallsIn.inRound l (callsIn_wide.2 (hda _ bT10))).mono ?_); rintro e w11 ⟨rfl, HB11, c11⟩) | ((with_reducible refine (CallsIn.inRound l (callsIn_wide.2 (hdb _ HB11.out))).mono ?_); rintro e w12 ⟨rfl, HB12, c12, c12a, hQw12, A1, cp1, w13, hrun, HO, HG, c13, f13⟩)))
                   refine wpAnyIn_ready (rs := [5]) (by kernel_rfl) zy3 ?_
                   refine AllReadyIn.cons rfl (fun K hK => ?_) ?_
                   ·go_simp
                    refine hK _ _ ?_; clear hK K
                    refine wpAnyIn_ready (rs := [6]) (by kernel_rfl) zy3 ?_
                    refine AllReadyIn.cons rfl (fun K hK => ?_) ?_
                    ·go_simp
                     refine hK _ _ ?_; clear hK K
                     refine wpAnyIn_ready (rs := [7]) (by kernel_rfl) zy3 ?_
                     refine AllReadyIn.cons rfl (fun K hK => ?_) ?_
                     ·(refine step_append_runIn rfl (.tmp 45) (.tmp 51) 23 rfl (.slice A0 ys.length cp0) (.slice (some ⟨w12.heap.size, 0, none⟩) 1 1) (.slice A1 (ys.length + 1) cp1) zy1 zy1 hrun (hK _ _ ?_))
                      (gi_wp2_with (refine ⟨trivial, ?_⟩; gi_at_call 46; first | ((with_reducible refine (CallsIn.inRound l (callsIn_wide.2 (hda _ bT10))).mono ?_); rintro e w11 ⟨rfl, HB11, c11⟩) | ((with_reducible refine (CallsIn.inRound l (callsIn_wide.2 (hdb _ HB11.out))).mono ?_); rintro e w12 ⟨rfl, HB12, c12, c12a, hQw12, A1, cp1, w13, hrun, HO, HG, c13, f13⟩)))
                      refine wpAnyIn_ready (rs := [8]) (by kernel_rfl) zy3 ?_
                      refine AllReadyIn.cons rfl (fun K hK => ?_) ?_
                      ·go_simp
                       refine hK _ _ ?_; clear hK K
                       refine wpAnyIn_done (by kernel_rfl) ?_ _
                       (exact FIN.out _ _ _ _ HB12.out HO.out HG.out)
                      exact AllReadyIn.nil
                     exact AllReadyIn.nil
                    exact AllReadyIn.nil
                   exact AllReadyIn.nil
                  exact AllReadyIn.nil
                 exact AllReadyIn.nil
                refine AllReadyIn.cons rfl (fun K hK => ?_) ?_
                ·go_simp
                 refine hK _ _ ?_; clear hK K
                 refine wpAnyIn_ready (rs := [0, 4]) (by kernel_rfl) zy3 ?_
                 refine AllReadyIn.cons rfl (fun K hK => ?_) ?_
                 ·go_simp
                  refine hK _ _ ?_; clear hK K
                  refine wpAnyIn_ready (rs := [4]) (by kernel_rfl) zy3 ?_
                  refine AllReadyIn.cons rfl (fun K hK => ?_) ?_
                  ·go_simp
                   (gi_wp2_with (refine ⟨trivial, ?_⟩; gi_at_call 46; first | ((with_reducible refine (CallsIn.inRound l (callsIn_wide.2 (hda _ bT10))).mono ?_); rintro e w11 ⟨rfl, HB11, c11⟩) | ((with_reducible refine (CallsIn.inRound l (callsIn_wide.2 (hdb _ HB11.out))).mono ?_); rintro e w12 ⟨rfl, HB12, c12, c12a, hQw12, A1, cp1, w13, hrun, HO, HG, c13, f13⟩)))
                   refine wpAnyIn_ready (rs := [5]) (by kernel_rfl) zy3 ?_
                   refine AllReadyIn.cons rfl (fun K hK => ?_) ?_
                   ·go_simp
                    refine hK _ _ ?_; clear hK K
                    refine wpAnyIn_ready (rs := [6]) (by kernel_rfl) zy3 ?_
                    refine AllReadyIn.cons rfl (fun K hK => ?_) ?_
                    ·go_simp
                     refine hK _ _ ?_; clear hK K
                     refine wpAnyIn_ready (rs := [7]) (by kernel_rfl) zy3 ?_
                     refine AllReadyIn.cons rfl (fun K hK => ?_) ?_
                     ·(refine step_append_runIn rfl (.tmp 45) (.tmp 51) 23 rfl (.slice A0 ys.length cp0) (.slice (some ⟨w12.heap.size, 0, none⟩) 1 1) (.slice A1 (ys.length + 1) cp1) zy1 zy1 hrun (hK _ _ ?_))
                      (gi_wp2_with (refine ⟨trivial, ?_⟩; gi_at_call 46; first | ((with_reducible refine (CallsIn.inRound l (callsIn_wide.2 (hda _ bT10))).mono ?_); rintro e w11 ⟨rfl, HB11, c11⟩) | ((with_reducible refine (CallsIn.inRound l (callsIn_wide.2 (hdb _ HB11.out))).mono ?_); rintro e w12 ⟨rfl, HB12, c12, c12a, hQw12, A1, cp1, w13, hrun, HO, HG, c13, f13⟩)))
                      refine wpAnyIn_ready (rs := [8]) (by kernel_rfl) zy3 ?_
                      refine AllReadyIn.cons rfl (fun K hK => ?_) ?_
                      ·go_simp
                       refine hK _ _ ?_; clear hK K
                       refine wpAnyIn_done (by kernel_rfl) ?_ _
                       (exact FIN.out _ _ _ _ HB12.out HO.out HG.out)
                      exact AllReadyIn.nil
                     exact AllReadyIn.nil
                    exact AllReadyIn.nil
                   exact AllReadyIn.nil
                  exact AllReadyIn.nil
                 refine AllReadyIn.cons rfl (fun K hK => ?_) ?_
                 ·go_simp
                  (gi_wp2_with (refine ⟨trivial, ?_⟩; gi_at_call 46; first | ((with_reducible refine (CallsIn.inRound l (callsIn_wide.2 (hda _ bT10))).mono ?_); rintro e w11 ⟨rfl, HB11, c11⟩) | ((with_reducible refine (CallsIn.inRound l (callsIn_wide.2 (hdb _ HB11.out))).mono ?_); rintro e w12 ⟨rfl, HB12, c12, c12a, hQw12, A1, cp1, w13, hrun, HO, HG, c13, f13⟩)))
                  refine wpAnyIn_ready (rs := [0, 5]) (by kernel_rfl) zy3 ?_
                  refine AllReadyIn.cons rfl (fun K hK => ?_) ?_
                  ·go_simp
                   refine hK _ _ ?_; clear hK K
                   refine wpAnyIn_ready (rs := [5]) (by kernel_rfl) zy3 ?_
                   refine AllReadyIn.cons rfl (fun K hK => ?_) ?_
                   ·go_simp
                    refine hK _ _ ?_; clear hK K
                    refine wpAnyIn_ready (rs := [6]) (by kernel_rfl) zy3 ?_
                    refine AllReadyIn.cons rfl (fun K hK => ?_) ?_
                    ·go_simp
                     refine hK _ _ ?_; clear hK K
                     refine wpAnyIn_ready (rs := [7]) (by kernel_rfl) zy3 ?_
                     refine AllReadyIn.cons rfl (fun K hK => ?_) ?_
                     ·(refine step_append_runIn rfl (.tmp 45) (.tmp 51) 23 rfl (.slice A0 ys.length cp0) (.slice (some ⟨w12.heap.size, 0, none⟩) 1 1) (.slice A1 (ys.length + 1) cp1) zy1 zy1 hrun (hK _ _ ?_))
                      (gi_wp2_with (refine ⟨trivial, ?_⟩; gi_at_call 46; first | ((with_reducible refine (CallsIn.inRound l (callsIn_wide.2 (hda _ bT10))).mono ?_); rintro e w11 ⟨rfl, HB11, c11⟩) | ((with_reducible refine (CallsIn.inRound l (callsIn_wide.2 (hdb _ HB11.out))).mono ?_); rintro e w12 ⟨rfl, HB12, c12, c12a, hQw12, A1, cp1, w13, hrun, HO, HG, c13, f13⟩)))
                      refine wpAnyIn_ready (rs := [8]) (by kernel_rfl) zy3 ?_
                      refine AllReadyIn.cons rfl (fun K hK => ?_) ?_
                      ·go_simp
                       refine hK _ _ ?_; clear hK K
                       refine wpAnyIn_done (by kernel_rfl) ?_ _
                       (exact FIN.out _ _ _ _ HB12.out HO.out HG.out)
                      exact AllReadyIn.nil
                     exact AllReadyIn.nil
                    exact AllReadyIn.nil
                   exact AllReadyIn.nil
                  refine AllReadyIn.cons rfl (fun K hK => ?_) ?_
                  ·go_simp
                   refine hK _ _ ?_; clear hK K
                   refine wpAnyIn_ready (rs := [0, 6]) (by kernel_rfl) zy3 ?_
                   refine AllReadyIn.cons rfl (fun K hK => ?_) ?_
                   ·go_simp
                    refine hK _ _ ?_; clear hK K
                    refine wpAnyIn_ready (rs := [6]) (by kernel_rfl) zy3 ?_
                    refine AllReadyIn.cons rfl (fun K hK => ?_) ?_
                    ·go_simp
                     refine hK _ _ ?_; clear hK K
                     refine wpAnyIn_ready (rs := [7]) (by kernel_rfl) zy3 ?_
                     refine AllReadyIn.cons rfl (fun K hK => ?_) ?_
                     ·(refine step_append_runIn rfl (.tmp 45) (.tmp 51) 23 rfl (.slice A0 ys.length cp0) (.slice (some ⟨w12.heap.size, 0, none⟩) 1 1) (.slice A1 (ys.length + 1) cp1) zy1 zy1 hrun (hK _ _ ?_))
                      (gi_wp2_with (refine ⟨trivial, ?_⟩; gi_at_call 46; first | ((with_reducible refine (CallsIn.inRound l (callsIn_wide.2 (hda _ bT10))).mono ?_); rintro e w11 ⟨rfl, HB11, c11⟩) | ((with_reducible refine (CallsIn.inRound l (callsIn_wide.2 (hdb _ HB11.out))).mono ?_); rintro e w12 ⟨rfl, HB12, c12, c12a, hQw12, A1, cp1, w13, hrun, HO, HG, c13, f13⟩)))
                      refine wpAnyIn_ready (rs := [8]) (by kernel_rfl) zy3 ?_
                      refine AllReadyIn.cons rfl (fun K hK => ?_) ?_
                      ·go_simp
                       refine hK _ _ ?_; clear hK K
                       refine wpAnyIn_done (by kernel_rfl) ?_ _
                       (exact FIN.out _ _ _ _ HB12.out HO.out HG.out)
                      exact AllReadyIn.nil
                     exact AllReadyIn.nil
                    exact AllReadyIn.nil
                   refine AllReadyIn.cons rfl (fun K hK => ?_) ?_
                   ·go_simp
                    refine hK _ _ ?_; clear hK K
                    refine wpAnyIn_ready (rs := [0]) (by kernel_rfl) zy3 ?_
                    refine AllReadyIn.cons rfl (fun K hK => ?_) ?_
                    ·go_simp
                     refine hK _ _ ?_; clear hK K
                     refine wpAnyIn_ready (rs := [7]) (by kernel_rfl) zy3 ?_
                     refine AllReadyIn.cons rfl (fun K hK => ?_) ?_
                     ·(refine step_append_runIn rfl (.tmp 45) (.tmp 51) 23 rfl (.slice A0 ys.length cp0) (.slice (some ⟨w12.heap.size, 0, none⟩) 1 1) (.slice A1 (ys.length + 1) cp1) zy1 zy1 hrun (hK _ _ ?_))
                      (gi_wp2_with (refine ⟨trivial, ?_⟩; gi_at_call 46; first | ((with_reducible refine (CallsIn.inRound l (callsIn_wide.2 (hda _ bT10))).mono ?_); rintro e w11 ⟨rfl, HB11, c11⟩) | ((with_reducible refine (CallsIn.inRound l (callsIn_wide.2 (hdb _ HB11.out))).mono ?_); rintro e w12 ⟨rfl, HB12, c12, c12a, hQw12, A1, cp1, w13, hrun, HO, HG, c13, f13⟩)))
                      refine wpAnyIn_ready (rs := [8]) (by kernel_rfl) zy3 ?_
                      refine AllReadyIn.cons rfl (fun K hK => ?_) ?_
                      ·go_simp
                       refine hK _ _ ?_; clear hK K
                       refine wpAnyIn_done (by kernel_rfl) ?_ _
                       (exact FIN.out _ _ _ _ HB12.out HO.out HG.out)
                      exact AllReadyIn.nil
                     exact AllReadyIn.nil
                    exact AllReadyIn.nil
                   exact AllReadyIn.nil
                  exact AllReadyIn.nil
                 exact AllReadyIn.nil
                exact AllReadyIn.nil
               refine AllReadyIn.cons rfl (fun K hK => ?_) ?_
               ·go_simp
                refine hK _ _ ?_; clear hK K
                refine wpAnyIn_ready (rs := [0, 2]) (by kernel_rfl) zy3 ?_
                refine AllReadyIn.cons rfl (fun K hK => ?_) ?_
                ·go_simp
                 refine hK _ _ ?_; clear hK K
                 refine wpAnyIn_ready (rs := [2]) (by kernel_rfl) zy3 ?_
                 refine AllReadyIn.cons rfl (fun K hK => ?_) ?_
                 ·go_simp
                  (gi_wp2_with (refine ⟨trivial, ?_⟩; gi_at_call 46; first | ((with_reducible refine (CallsIn.inRound l (callsIn_wide.2 (hda _ bT10))).mono ?_); rintro e w11 ⟨rfl, HB11, c11⟩) | ((with_reducible refine (CallsIn.inRound l (callsIn_wide.2 (hdb _ HB11.out))).mono ?_); rintro e w12 ⟨rfl, HB12, c12, c12a, hQw12, A1, cp1, w13, hrun, HO, HG, c13, f13⟩)))
                  refine wpAnyIn_ready (rs := [4]) (by kernel_rfl) zy3 ?_
                  refine AllReadyIn.cons rfl (fun K hK => ?_) ?_
                  ·go_simp
                   (gi_wp2_with (refine ⟨trivial, ?_⟩; gi_at_call 46; first | ((with_reducible refine (CallsIn.inRound l (callsIn_wide.2 (hda _ bT10))).mono ?_); rintro e w11 ⟨rfl, HB11, c11⟩) | ((with_reducible refine (CallsIn.inRound l (callsIn_wide.2 (hdb _ HB11.out))).mono ?_); rintro e w12 ⟨rfl, HB12, c12, c12a, hQw12, A1, cp1, w13, hrun, HO, HG, c13, f13⟩)))
                   refine wpAnyIn_ready (rs := [5]) (by kernel_rfl) zy3 ?_
                   refine AllReadyIn.cons rfl (fun K hK => ?_) ?_
                   ·go_simp
                    refine hK _ _ ?_; clear hK K
                    refine wpAnyIn_ready (rs := [6]) (by kernel_rfl) zy3 ?_
                    refine AllReadyIn.cons rfl (fun K hK => ?_) ?_
                    ·go_simp
                     refine hK _ _ ?_; clear hK K
                     refine wpAnyIn_ready (rs := [7]) (by kernel_rfl) zy3 ?_
                     refine AllReadyIn.cons rfl (fun K hK => ?_) ?_
                     ·(refine step_append_runIn rfl (.tmp 45) (.tmp 51) 23 rfl (.slice A0 ys.length cp0) (.slice (some ⟨w12.heap.size, 0, none⟩) 1 1) (.slice A1 (ys.length + 1) cp1) zy1 zy1 hrun (hK _ _ ?_))
                      (gi_wp2_with (refine ⟨trivial, ?_⟩; gi_at_call 46; first | ((with_reducible refine (CallsIn.inRound l (callsIn_wide.2 (hda _ bT10))).mono ?_); rintro e w11 ⟨rfl, HB11, c11⟩) | ((with_reducible refine (CallsIn.inRound l (callsIn_wide.2 (hdb _ HB11.out))).mono ?_); rintro e w12 ⟨rfl, HB12, c12, c12a, hQw12, A1, cp1, w13, hrun, HO, HG, c13, f13⟩)))
                      refine wpAnyIn_ready (rs := [8]) (by kernel_rfl) zy3 ?_
                      refine AllReadyIn.cons rfl (fun K hK => ?_) ?_
                      ·go_simp
                       refine hK _ _ ?_; clear hK K
                       refine wpAnyIn_done (by kernel_rfl) ?_ _
                       (exact FIN.out _ _ _ _ HB12.out HO.out HG.out)
                      exact AllReadyIn.nil
                     exact AllReadyIn.nil
                    exact AllReadyIn.nil
                   exact AllReadyIn.nil
                  exact AllReadyIn.nil
                 exact AllReadyIn.nil
                refine AllReadyIn.cons rfl (fun K hK => ?_) ?_
                ·go_simp
                 (gi_wp2_with (refine ⟨trivial, ?_⟩; gi_at_call 46; first | ((with_reducible refine (CallsIn.inRound l (callsIn_wide.2 (hda _ bT10))).mono ?_); rintro e w11 ⟨rfl, HB11, c11⟩) | ((with_reducible refine (CallsIn.inRound l (callsIn_wide.2 (hdb _ HB11.out))).mono ?_); rintro e w12 ⟨rfl, HB12, c12, c12a, hQw12, A1, cp1, w13, hrun, HO, HG, c13, f13⟩)))
                 refine wpAnyIn_ready (rs := [0, 4]) (by kernel_rfl) zy3 ?_
                 refine AllReadyIn.cons rfl (fun K hK => ?_) ?_
                 ·go_simp
                  refine hK _ _ ?_; clear hK K
                  refine wpAnyIn_ready (rs := [4]) (by kernel_rfl) zy3 ?_
                  refine AllReadyIn.cons rfl (fun K hK => ?_) ?_
                  ·go_simp
                   (gi_wp2_with (refine ⟨trivial, ?_⟩; gi_at_call 46; first | ((with_reducible refine (CallsIn.inRound l (callsIn_wide.2 (hda _ bT10))).mono ?_); rintro e w11 ⟨rfl, HB11, c11⟩) | ((with_reducible refine (CallsIn.inRound l (callsIn_wide.2 (hdb _ HB11.out))).mono ?_); rintro e w12 ⟨rfl, HB12, c12, c12a, hQw12, A1, cp1, w13, hrun, HO, HG, c13, f13⟩)))
                   refine wpAnyIn_ready (rs := [5]) (by kernel_rfl) zy3 ?_
                   refine AllReadyIn.cons rfl (fun K hK => ?_) ?_
                   ·go_simp
                    refine hK _ _ ?_; clear hK K
                    refine wpAnyIn_ready (rs := [6]) (by kernel_rfl) zy3 ?_
                    refine AllReadyIn.cons rfl (fun K hK => ?_) ?_
                    ·go_simp
                     refine hK _ _ ?_; clear hK K
                     refine wpAnyIn_ready (rs := [7]) (by kernel_rfl) zy3 ?_
                     refine AllReadyIn.cons rfl (fun K hK => ?_) ?_
                     ·(refine step_append_runIn rfl (.tmp 45) (.tmp 51) 23 rfl (.slice A0 ys.length cp0) (.slice (some ⟨w12.heap.size, 0, none⟩) 1 1) (.slice A1 (ys.length + 1) cp1) zy1 zy1 hrun (hK _ _ ?_))
                      (gi_wp2_with (refine ⟨trivial, ?_⟩; gi_at_call 46; first | ((with_reducible refine (CallsIn.inRound l (callsIn_wide.2 (hda _ bT10))).mono ?_); rintro e w11 ⟨rfl, HB11, c11⟩) | ((with_reducible refine (CallsIn.inRound l (callsIn_wide.2 (hdb _ HB11.out))).mono ?_); rintro e w12 ⟨rfl, HB12, c12, c12a, hQw12, A1, cp1, w13, hrun, HO, HG, c13, f13⟩)))
                      refine wpAnyIn_ready (rs := [8]) (by kernel_rfl) zy3 ?_
                      refine AllReadyIn.cons rfl (fun K hK => ?_) ?_
                      ·go_simp
                       refine hK _ _ ?_; clear hK K
                       refine wpAnyIn_done (by kernel_rfl) ?_ _
                       (exact FIN.out _ _ _ _ HB12.out HO.out HG.out)
                      exact AllReadyIn.nil
                     exact AllReadyIn.nil
                    exact AllReadyIn.nil
                   exact AllReadyIn.nil
                  exact AllReadyIn.nil
                 refine AllReadyIn.cons rfl (fun K hK => ?_) ?_
                 ·go_simp
                  (gi_wp2_with (refine ⟨trivial, ?_⟩; gi_at_call 46; first | ((with_reducible refine (CallsIn.inRound l (callsIn_wide.2 (hda _ bT10))).mono ?_); rintro e w11 ⟨rfl, HB11, c11⟩) | ((with_reducible refine (CallsIn.inRound l (callsIn_wide.2 (hdb _ HB11.out))).mono ?_); rintro e w12 ⟨rfl, HB12, c12, c12a, hQw12, A1, cp1, w13, hrun, HO, HG, c13, f13⟩)))
                  refine wpAnyIn_ready (rs := [0, 5]) (by kernel_rfl) zy3 ?_
                  refine AllReadyIn.cons rfl (fun K hK => ?_) ?_
                  ·go_simp
                   refine hK _ _ ?_; clear hK K
                   refine wpAnyIn_ready (rs := [5]) (by kernel_rfl) zy3 ?_
                   refine AllReadyIn.cons rfl (fun K hK => ?_) ?_
                   ·go_simp
                    refine hK _ _ ?_; clear hK K
                    refine wpAnyIn_ready (rs := [6]) (by kernel_rfl) zy3 ?_
                    refine AllReadyIn.cons rfl (fun K hK => ?_) ?_
                    ·go_simp
                     refine hK _ _ ?_; clear hK K
                     refine wpAnyIn_ready (rs := [7]) (by kernel_rfl) zy3 ?_
                     refine AllReadyIn.cons rfl (fun K hK => ?_) ?_
                     ·(refine step_append_runIn rfl (.tmp 45) (.tmp 51) 23 rfl (.slice A0 ys.length cp0) (.slice (some ⟨w12.heap.size, 0, none⟩) 1 1) (.slice A1 (ys.length + 1) cp1) zy1 zy1 hrun (hK _ _ ?_))
                      (gi_wp2_with (refine ⟨trivial, ?_⟩; gi_at_call 46; first | ((with_reducible refine (CallsIn.inRound l (callsIn_wide.2 (hda _ bT10))).mono ?_); rintro e w11 ⟨rfl, HB11, c11⟩) | ((with_reducible refine (CallsIn.inRound l (callsIn_wide.2 (hdb _ HB11.out))).mono ?_); rintro e w12 ⟨rfl, HB12, c12, c12a, hQw12, A1, cp1, w13, hrun, HO, HG, c13, f13⟩)))
                      refine wpAnyIn_ready (rs := [8]) (by kernel_rfl) zy3 ?_
                      refine AllReadyIn.cons rfl (fun K hK => ?_) ?_
                      ·go_simp
                       refine hK _ _ ?_; clear hK K
                       refine wpAnyIn_done (by kernel_rfl) ?_ _
                       (exact FIN.out _ _ _ _ HB12.out HO.out HG.out)
                      exact AllReadyIn.nil
                     exact AllReadyIn.nil
                    exact AllReadyIn.nil
                   exact AllReadyIn.nil
                  refine AllReadyIn.cons rfl (fun K hK => ?_) ?_
                  ·go_simp
                   refine hK _ _ ?_; clear hK K
                   refine wpAnyIn_ready (rs := [0, 6]) (by kernel_rfl) zy3 ?_
                   refine AllReadyIn.cons rfl (fun K hK => ?_) ?_
                   ·go_simp
                    refine hK _ _ ?_; clear hK K
                    refine wpAnyIn_ready (rs := [6]) (by kernel_rfl) zy3 ?_
                    refine AllReadyIn.cons rfl (fun K hK => ?_) ?_
                    ·go_simp
                     refine hK _ _ ?_; clear hK K
                     refine wpAnyIn_ready (rs := [7]) (by kernel_rfl) zy3 ?_
                     refine AllReadyIn.cons rfl (fun K hK => ?_) ?_
                     ·(refine step_append_runIn rfl (.tmp 45) (.tmp 51) 23 rfl (.slice A0 ys.length cp0) (.slice (some ⟨w12.heap.size, 0, none⟩) 1 1) (.slice A1 (ys.length + 1) cp1) zy1 zy1 hrun (hK _ _ ?_))
                      (gi_wp2_with (refine ⟨trivial, ?_⟩; gi_at_call 46; first | ((with_reducible refine (CallsIn.inRound l (callsIn_wide.2 (hda _ bT10))).mono ?_); rintro e w11 ⟨rfl, HB11, c11⟩) | ((with_reducible refine (CallsIn.inRound l (callsIn_wide.2 (hdb _ HB11.out))).mono ?_); rintro e w12 ⟨rfl, HB12, c12, c12a, hQw12, A1, cp1, w13, hrun, HO, HG, c13, f13⟩)))
                      refine wpAnyIn_ready (rs := [8]) (by kernel_rfl) zy3 ?_
                      refine AllReadyIn.cons rfl (fun K hK => ?_) ?_
                      ·go_simp
                       refine hK _ _ ?_; clear hK K
                       refine wpAnyIn_done (by kernel_rfl) ?_ _
                       (exact FIN.out _ _ _ _ HB12.out HO.out HG.out)
                      exact AllReadyIn.nil
                     exact AllReadyIn.nil
                    exact AllReadyIn.nil
                   refine AllReadyIn.cons rfl (fun K hK => ?_) ?_
                   ·go_simp
                    refine hK _ _ ?_; clear hK K
                    refine wpAnyIn_ready (rs := [0]) (by kernel_rfl) zy3 ?_
                    refine AllReadyIn.cons rfl (fun K hK => ?_) ?_
                    ·go_simp
                     refine hK _ _ ?_; clear hK K
                     refine wpAnyIn_ready (rs := [7]) (by kernel_rfl) zy3 ?_
                     refine AllReadyIn.cons rfl (fun K hK => ?_) ?_
                     ·(refine step_append_runIn rfl (.tmp 45) (.tmp 51) 23 rfl (.slice A0 ys.length cp0) (.slice (some ⟨w12.heap.size, 0, none⟩) 1 1) (.slice A1 (ys.length + 1) cp1) zy1 zy1 hrun (hK _ _ ?_))
                      (gi_wp2_with (refine ⟨trivial, ?_⟩; gi_at_call 46; first | ((with_reducible refine (CallsIn.inRound l (callsIn_wide.2 (hda _ bT10))).mono ?_); rintro e w11 ⟨rfl, HB11, c11⟩) | ((with_reducible refine (CallsIn.inRound l (callsIn_wide.2 (hdb _ HB11.out))).mono ?_); rintro e w12 ⟨rfl, HB12, c12, c12a, hQw12, A1, cp1, w13, hrun, HO, HG, c13, f13⟩)))
                      refine wpAnyIn_ready (rs := [8]) (by kernel_rfl) zy3 ?_
                      refine AllReadyIn.cons rfl (fun K hK => ?_) ?_
                      ·go_simp
                       refine hK _ _ ?_; clear hK K
                       refine wpAnyIn_done (by kernel_rfl) ?_ _
                       (exact FIN.out _ _ _ _ HB12.out HO.out HG.out)
                      exact AllReadyIn.nil
                     exact AllReadyIn.nil
                    exact AllReadyIn.nil
                   exact AllReadyIn.nil
                  exact AllReadyIn.nil
                 exact AllReadyIn.nil
                exact AllReadyIn.nil
               exact AllReadyIn.nil
              refine AllReadyIn.cons rfl (fun K hK => ?_) ?_
              ·go_simp
               refine hK _ _ ?_; clear hK K
               refine wpAnyIn_ready (rs := [0, 1]) (by kernel_rfl) zy3 ?_
               refine AllReadyIn.cons rfl (fun K hK => ?_) ?_
               ·go_simp
                refine hK _ _ ?_; clear hK K
                refine wpAnyIn_ready (rs := [1]) (by kernel_rfl) zy3 ?_
                refine AllReadyIn.cons rfl (fun K hK => ?_) ?_
                ·go_simp
                 refine hK _ _ ?_; clear hK K
                 refine wpAnyIn_ready (rs := [2]) (by kernel_rfl) zy3 ?_
                 refine AllReadyIn.cons rfl (fun K hK => ?_) ?_
                 ·go_simp
                  (gi_wp2_with (refine ⟨trivial, ?_⟩; gi_at_call 46; first | ((with_reducible refine (CallsIn.inRound l (callsIn_wide.2 (hda _ bT10))).mono ?_); rintro e w11 ⟨rfl, HB11, c11⟩) | ((with_reducible refine (CallsIn.inRound l (callsIn_wide.2 (hdb _ HB11.out))).mono ?_); rintro e w12 ⟨rfl, HB12, c12, c12a, hQw12, A1, cp1, w13, hrun, HO, HG, c13, f13⟩)))
                  refine wpAnyIn_ready (rs := [4]) (by kernel_rfl) zy3 ?_
                  refine AllReadyIn.cons rfl (fun K hK => ?_) ?_
                  ·go_simp
                   (gi_wp2_with (refine ⟨trivial, ?_⟩; gi_at_call 46; first | ((with_reducible refine (CallsIn.inRound l (callsIn_wide.2 (hda _ bT10))).mono ?_); rintro e w11 ⟨rfl, HB11, c11⟩) | ((with_reducible refine (CallsIn.inRound l (callsIn_wide.2 (hdb _ HB11.out))).mono ?_); rintro e w12 ⟨rfl, HB12, c12, c12a, hQw12, A1, cp1, w13, hrun, HO, HG, c13, f13⟩)))
                   refine wpAnyIn_ready (rs := [5]) (by kernel_rfl) zy3 ?_
                   refine AllReadyIn.cons rfl (fun K hK => ?_) ?_
                   ·go_simp
                    refine hK _ _ ?_; clear hK K
                    refine wpAnyIn_ready (rs := [6]) (by kernel_rfl) zy3 ?_
                    refine AllReadyIn.cons rfl (fun K hK => ?_) ?_
                    ·go_simp
                     refine hK _ _ ?_; clear hK K
                     refine wpAnyIn_ready (rs := [7]) (by kernel_rfl) zy3 ?_
                     refine AllReadyIn.cons rfl (fun K hK => ?_) ?_
                     ·(refine step_append_runIn rfl (.tmp 45) (.tmp 51) 23 rfl (.slice A0 ys.length cp0) (.slice (some ⟨w12.heap.size, 0, none⟩) 1 1) (.slice A1 (ys.length + 1) cp1) zy1 zy1 hrun (hK _ _ ?_))
                      (gi_wp2_with (refine ⟨trivial, ?_⟩; gi_at_call 46; first | ((with_reducible refine (CallsIn.inRound l (callsIn_wide.2 (hda _ bT10))).mono ?_); rintro e w11 ⟨rfl, HB11, c11⟩) | ((with_reducible refine (CallsIn.inRound l (callsIn_wide.2 (hdb _ HB11.out))).mono ?_); rintro e w12 ⟨rfl, HB12, c12, c12a, hQw12, A1, cp1, w13, hrun, HO, HG, c13, f13⟩)))
                      refine wpAnyIn_ready (rs := [8]) (by kernel_rfl) zy3 ?_
                      refine AllReadyIn.cons rfl (fun K hK => ?_) ?_
                      ·go_simp
                       refine hK _ _ ?_; clear hK K
                       refine wpAnyIn_done (by kernel_rfl) ?_ _
                       (exact FIN.out _ _ _ _ HB12.out HO.out HG.out)
                      exact AllReadyIn.nil
                     exact AllReadyIn.nil
                    exact AllReadyIn.nil
                   exact AllReadyIn.nil
                  exact AllReadyIn.nil
                 exact AllReadyIn.nil
                exact AllReadyIn.nil
               refine AllReadyIn.cons rfl (fun K hK => ?_) ?_
               ·go_simp
                refine hK _ _ ?_; clear hK K
                refine wpAnyIn_ready (rs := [0, 2]) (by kernel_rfl) zy3 ?_
                refine AllReadyIn.cons rfl (fun K hK => ?_) ?_
                ·go_simp
                 refine hK _ _ ?_; clear hK K
                 refine wpAnyIn_ready (rs := [2]) (by kernel_rfl) zy3 ?_
                 refine AllReadyIn.cons rfl (fun K hK => ?_) ?_
                 ·go_simp
                  (gi_wp2_with (refine ⟨trivial, ?_⟩; gi_at_call 46; first | ((with_reducible refine (CallsIn.inRound l (callsIn_wide.2 (hda _ bT10))).mono ?_); rintro e w11 ⟨rfl, HB11, c11⟩) | ((with_reducible refine (CallsIn.inRound l (callsIn_wide.2 (hdb _ HB11.out))).mono ?_); rintro e w12 ⟨rfl, HB12, c12, c12a, hQw12, A1, cp1, w13, hrun, HO, HG, c13, f13⟩)))
                  refine wpAnyIn_ready (rs := [4]) (by kernel_rfl) zy3 ?_
                  refine AllReadyIn.cons rfl (fun K hK => ?_) ?_
                  ·go_simp
                   (gi_wp2_with (refine ⟨trivial, ?_⟩; gi_at_call 46; first | ((with_reducible refine (CallsIn.inRound l (callsIn_wide.2 (hda _ bT10))).mono ?_); rintro e w11 ⟨rfl, HB11, c11⟩) | ((with_reducible refine (CallsIn.inRound l (callsIn_wide.2 (hdb _ HB11.out))).mono ?_); rintro e w12 ⟨rfl, HB12, c12, c12a, hQw12, A1, cp1, w13, hrun, HO, HG, c13, f13⟩)))
                   refine wpAnyIn_ready (rs := [5]) (by kernel_rfl) zy3 ?_
                   refine AllReadyIn.cons rfl (fun K hK => ?_) ?_
                   ·go_simp
                    refine hK _ _ ?_; clear hK K
                    refine wpAnyIn_ready (rs := [6]) (by kernel_rfl) zy3 ?_
                    refine AllReadyIn.cons rfl (fun K hK => ?_) ?_
                    ·go_simp
                     refine hK _ _ ?_; clear hK K
                     refine wpAnyIn_ready (rs := [7]) (by kernel_rfl) zy3 ?_
                     refine AllReadyIn.cons rfl (fun K hK => ?_) ?_
                     ·(refine step_append_runIn rfl (.tmp 45) (.tmp 51) 23 rfl (.slice A0 ys.length cp0) (.slice (some ⟨w12.heap.size, 0, none⟩) 1 1) (.slice A1 (ys.length + 1) cp1) zy1 zy1 hrun (hK _ _ ?_))
                      (gi_wp2_with (refine ⟨trivial, ?_⟩; gi_at_call 46; first | ((with_reducible refine (CallsIn.inRound l (callsIn_wide.2 (hda _ bT10))).mono ?_); rintro e w11 ⟨rfl, HB11, c11⟩) | ((with_reducible refine (CallsIn.inRound l (callsIn_wide.2 (hdb _ HB11.out))).mono ?_); rintro e w12 ⟨rfl, HB12, c12, c12a, hQw12, A1, cp1, w13, hrun, HO, HG, c13, f13⟩)))
                      refine wpAnyIn_ready (rs := [8]) (by kernel_rfl) zy3 ?_
                      refine AllReadyIn.cons rfl (fun K hK => ?_) ?_
                      ·go_simp
                       refine hK _ _ ?_; clear hK K
                       refine wpAnyIn_done (by kernel_rfl) ?_ _
                       (exact FIN.out _ _ _ _ HB12.out HO.out HG.out)
                      exact AllReadyIn.nil
                     exact AllReadyIn.nil
                    exact AllReadyIn.nil
                   exact AllReadyIn.nil
                  exact AllReadyIn.nil
                 exact AllReadyIn.nil
                refine AllReadyIn.cons rfl (fun K hK => ?_) ?_
                ·go_simp
                 (gi_wp2_with (refine ⟨trivial, ?_⟩; gi_at_call 46; first | ((with_reducible refine (CallsIn.inRound l (callsIn_wide.2 (hda _ bT10))).mono ?_); rintro e w11 ⟨rfl, HB11, c11⟩) | ((with_reducible refine (CallsIn.inRound l (callsIn_wide.2 (hdb _ HB11.out))).mono ?_); rintro e w12 ⟨rfl, HB12, c12, c12a, hQw12, A1, cp1, w13, hrun, HO, HG, c13, f13⟩)))
                 refine wpAnyIn_ready (rs := [0, 4]) (by kernel_rfl) zy3 ?_
                 refine AllReadyIn.cons rfl (fun K hK => ?_) ?_
                 ·go_simp
                  refine hK _ _ ?_; clear hK K
                  refine wpAnyIn_ready (rs := [4]) (by kernel_rfl) zy3 ?_
                  refine AllReadyIn.cons rfl (fun K hK => ?_) ?_
                  ·go_simp
                   (gi_wp2_with (refine ⟨trivial, ?_⟩; gi_at_call 46; first | ((with_reducible refine (CallsIn.inRound l (callsIn_wide.2 (hda _ bT10))).mono ?_); rintro e w11 ⟨rfl, HB11, c11⟩) | ((with_reducible refine (CallsIn.inRound l (callsIn_wide.2 (hdb _ HB11.out))).mono ?_); rintro e w12 ⟨rfl, HB12, c12, c12a, hQw12, A1, cp1, w13, hrun, HO, HG, c13, f13⟩)))
                   refine wpAnyIn_ready (rs := [5]) (by kernel_rfl) zy3 ?_
                   refine AllReadyIn.cons rfl (fun K hK => ?_) ?_
                   ·go_simp
                    refine hK _ _ ?_; clear hK K
                    refine wpAnyIn_ready (rs := [6]) (by kernel_rfl) zy3 ?_
                    refine AllReadyIn.cons rfl (fun K hK => ?_) ?_
                    ·go_simp
                     refine hK _ _ ?_; clear hK K
                     refine wpAnyIn_ready (rs := [7]) (by kernel_rfl) zy3 ?_
                     refine AllReadyIn.cons rfl (fun K hK => ?_) ?_
                     ·(refine step_append_runIn rfl (.tmp 45) (.tmp 51) 23 rfl (.slice A0 ys.length cp0) (.slice (some ⟨w12.heap.size, 0, none⟩) 1 1) (.slice A1 (ys.length + 1) cp1) zy1 zy1 hrun (hK _ _ ?_))
                      (gi_wp2_with (refine ⟨trivial, ?_⟩; gi_at_call 46; first | ((with_reducible refine (CallsIn.inRound l (callsIn_wide.2 (hda _ bT10))).mono ?_); rintro e w11 ⟨rfl, HB11, c11⟩) | ((with_reducible refine (CallsIn.inRound l (callsIn_wide.2 (hdb _ HB11.out))).mono ?_); rintro e w12 ⟨rfl, HB12, c12, c12a, hQw12, A1, cp1, w13, hrun, HO, HG, c13, f13⟩)))
                      refine wpAnyIn_ready (rs := [8]) (by kernel_rfl) zy3 ?_
                      refine AllReadyIn.cons rfl (fun K hK => ?_) ?_
                      ·go_simp
                       refine hK _ _ ?_; clear hK K
                       refine wpAnyIn_done (by kernel_rfl) ?_ _
                       (exact FIN.out _ _ _ _ HB12.out HO.out HG.out)
                      exact AllReadyIn.nil
                     exact AllReadyIn.nil
                    exact AllReadyIn.nil
                   exact AllReadyIn.nil
                  exact AllReadyIn.nil
                 refine AllReadyIn.cons rfl (fun K hK => ?_) ?_
                 ·go_simp
                  (gi_wp2_with (refine ⟨trivial, ?_⟩; gi_at_call 46; first | ((with_reducible refine (CallsIn.inRound l (callsIn_wide.2 (hda _ bT10))).mono ?_); rintro e w11 ⟨rfl, HB11, c11⟩) | ((with_reducible refine (CallsIn.inRound l (callsIn_wide.2 (hdb _ HB11.out))).mono ?_); rintro e w12 ⟨rfl, HB12, c12, c12a, hQw12, A1, cp1, w13, hrun, HO, HG, c13, f13⟩)))
                  refine wpAnyIn_ready (rs := [0, 5]) (by kernel_rfl) zy3 ?_
                  refine AllReadyIn.cons rfl (fun K hK => ?_) ?_
                  ·go_simp
                   refine hK _ _ ?_; clear hK K
                   refine wpAnyIn_ready (rs := [5]) (by kernel_rfl) zy3 ?_
                   refine AllReadyIn.cons rfl (fun K hK => ?_) ?_
                   ·go_simp
                    refine hK _ _ ?_; clear hK K
                    refine wpAnyIn_ready (rs := [6]) (by kernel_rfl) zy3 ?_
                    refine AllReadyIn.cons rfl (fun K hK => ?_) ?_
                    ·go_simp
                     refine hK _ _ ?_; clear hK K
                     refine wpAnyIn_ready (rs := [7]) (by kernel_rfl) zy3 ?_
                     refine AllReadyIn.cons rfl (fun K hK => ?_) ?_
                     ·(refine step_append_runIn rfl (.tmp 45) (.tmp 51) 23 rfl (.slice A0 ys.length cp0) (.slice (some ⟨w12.heap.size, 0, none⟩) 1 1) (.slice A1 (ys.length + 1) cp1) zy1 zy1 hrun (hK _ _ ?_))
                      (gi_wp2_with (refine ⟨trivial, ?_⟩; gi_at_call 46; first | ((with_reducible refine (CallsIn.inRound l (callsIn_wide.2 (hda _ bT10))).mono ?_); rintro e w11 ⟨rfl, HB11, c11⟩) | ((with_reducible refine (CallsIn.inRound l (callsIn_wide.2 (hdb _ HB11.out))).mono ?_); rintro e w12 ⟨rfl, HB12, c12, c12a, hQw12, A1, cp1, w13, hrun, HO, HG, c13, f13⟩)))
                      refine wpAnyIn_ready (rs := [8]) (by kernel_rfl) zy3 ?_
                      refine AllReadyIn.cons rfl (fun K hK => ?_) ?_
                      ·go_simp
                       refine hK _ _ ?_; clear hK K
                       refine wpAnyIn_done (by kernel_rfl) ?_ _
                       (exact FIN.out _ _ _ _ HB12.out HO.out HG.out)
                      exact AllReadyIn.nil
                     exact AllReadyIn.nil
                    exact AllReadyIn.nil
                   exact AllReadyIn.nil
                  refine AllReadyIn.cons rfl (fun K hK => ?_) ?_
                  ·go_simp
                   refine hK _ _ ?_; clear hK K
                   refine wpAnyIn_ready (rs := [0, 6]) (by kernel_rfl) zy3 ?_
                   refine AllReadyIn.cons rfl (fun K hK => ?_) ?_
                   ·go_simp
                    refine hK _ _ ?_; clear hK K
                    refine wpAnyIn_ready (rs := [6]) (by kernel_rfl) zy3 ?_
                    refine AllReadyIn.cons rfl (fun K hK => ?_) ?_
                    ·go_simp
                     refine hK _ _ ?_; clear hK K
                     refine wpAnyIn_ready (rs := [7]) (by kernel_rfl) zy3 ?_
                     refine AllReadyIn.cons rfl (fun K hK => ?_) ?_
                     ·(refine step_append_runIn rfl (.tmp 45) (.tmp 51) 23 rfl (.slice A0 ys.length cp0) (.slice (some ⟨w12.heap.size, 0, none⟩) 1 1) (.slice A1 (ys.length + 1) cp1) zy1 zy1 hrun (hK _ _ ?_))
                      (gi_wp2_with (refine ⟨trivial, ?_⟩; gi_at_call 46; first | ((with_reducible refine (CallsIn.inRound l (callsIn_wide.2 (hda _ bT10))).mono ?_); rintro e w11 ⟨rfl, HB11, c11⟩) | ((with_reducible refine (CallsIn.inRound l (callsIn_wide.2 (hdb _ HB11.out))).mono ?_); rintro e w12 ⟨rfl, HB12, c12, c12a, hQw12, A1, cp1, w13, hrun, HO, HG, c13, f13⟩)))
                      refine wpAnyIn_ready (rs := [8]) (by kernel_rfl) zy3 ?_
                      refine AllReadyIn.cons rfl (fun K hK => ?_) ?_
                      ·go_simp
                       refine hK _ _ ?_; clear hK K
                       refine wpAnyIn_done (by kernel_rfl) ?_ _
                       (exact FIN.out _ _ _ _ HB12.out HO.out HG.out)
                      exact AllReadyIn.nil
                     exact AllReadyIn.nil
                    exact AllReadyIn.nil
                   refine AllReadyIn.cons rfl (fun K hK => ?_) ?_
                   ·go_simp
                    refine hK _ _ ?_; clear hK K
                    refine wpAnyIn_ready (rs := [0]) (by kernel_rfl) zy3 ?_
                    refine AllReadyIn.cons rfl (fun K hK => ?_) ?_
                    ·go_simp
                     refine hK _ _ ?_; clear hK K
                     refine wpAnyIn_ready (rs := [7]) (by kernel_rfl) zy3 ?_
                     refine AllReadyIn.cons rfl (fun K hK => ?_) ?_
                     ·(refine step_append_runIn rfl (.tmp 45) (.tmp 51) 23 rfl (.slice A0 ys.length cp0) (.slice (some ⟨w12.heap.size, 0, none⟩) 1 1) (.slice A1 (ys.length + 1) cp1) zy1 zy1 hrun (hK _ _ ?_))
                      (gi_wp2_with (refine ⟨trivial, ?_⟩; gi_at_call 46; first | ((with_reducible refine (CallsIn.inRound l (callsIn_wide.2 (hda _ bT10))).mono ?_); rintro e w11 ⟨rfl, HB11, c11⟩) | ((with_reducible refine (CallsIn.inRound l (callsIn_wide.2 (hdb _ HB11.out))).mono ?_); rintro e w12 ⟨rfl, HB12, c12, c12a, hQw12, A1, cp1, w13, hrun, HO, HG, c13, f13⟩)))
                      refine wpAnyIn_ready (rs := [8]) (by kernel_rfl) zy3 ?_
                      refine AllReadyIn.cons rfl (fun K hK => ?_) ?_
                      ·go_simp
                       refine hK _ _ ?_; clear hK K
                       refine wpAnyIn_done (by kernel_rfl) ?_ _
                       (exact FIN.out _ _ _ _ HB12.out HO.out HG.out)
                      exact AllReadyIn.nil
                     exact AllReadyIn.nil
                    exact AllReadyIn.nil
                   exact AllReadyIn.nil
                  exact AllReadyIn.nil
                 exact AllReadyIn.nil
                exact AllReadyIn.nil
               exact AllReadyIn.nil
              exact AllReadyIn.nil
      case done2 =>
        intro D2 V hD2 hI2 hK2
        obtain ⟨⟨zs, u, g1, g2, g3, g4⟩, g5, g6⟩ := hI2
        refine ⟨.inl rfl, ?_⟩
        have hs06 := hb06.size
        have hD1 : V.heap[D]? = some (.deferred (some [])) := g5.other zy4 HK.out
        have hDlt : D < W.heap.size := (Array.getElem?_eq_some_iff.1 HK.out).1
        have hL9 := g5.other hne.2.2.1 H2.out
        refine leave_mark zy3 hK2 (leave_mark zy3 ((World.putObj_heap_other zy4).trans hD1) (leave_idle zy6 ?_))
        have hp : pathL s = some (ys, zs) := by rw [HPL2.out, g1]; rfl
        have hD3 : (V.putObj D2 (.deferred none)).heap[D]? = some (.deferred (some [])) := (World.putObj_heap_other zy4).trans hD1
        have up : ∀ {g : Nat} {cs : Array Value} {e : TypeId}, V.heap[g]? = some (.cells cs e (0, 0)) → ((V.putObj D2 (.deferred none)).putObj D (.deferred none)).heap[g]? = some (.cells cs e (0, 0)) := fun h => get_putD hD3 (get_putD hK2 h)
        refine ⟨rfl, but3_mark (but3_mark (but3_two hb04 H5.out g5) zy4) zy4, ?_⟩
        rw [hp]
        refine ⟨?_, v, u, up hL9, ?_, up g2, ?_⟩
        · have e1 := H5.out.other hne.1 (blk_below hE hb04)
          have e2 := g5.other hne.2.1 e1
          exact (up e2).trans hE.symm
        · exact own_low (ownsRow_same H3.out (fun g cs hg hx => up (g5.other zy4 hx))) zy4
        · exact own_low (ownsRow_same g3 (fun g cs hg hx => up hx)) zy4
      case panic2 =>
        rintro D2 ch V hD2 ⟨rfl, hn, hk, v2, hv⟩ hK2
        refine ⟨.inr ⟨_, rfl⟩, ?_⟩
        have hs06 := hb06.size
        have hD1 : V.heap[D]? = some (.deferred (some [])) := hk.other zy4 HK.out
        have hDlt : D < W.heap.size := (Array.getElem?_eq_some_iff.1 HK.out).1
        have hD3 : (V.putObj D2 (.deferred none)).heap[D]? = some (.deferred (some [])) := (World.putObj_heap_other zy4).trans hD1
        have up : ∀ {g : Nat} {cs : Array Value} {e : TypeId}, V.heap[g]? = some (.cells cs e (0, 0)) → ((V.putObj D2 (.deferred none)).putObj D (.deferred none)).heap[g]? = some (.cells cs e (0, 0)) := fun h => get_putD hD3 (get_putD hK2 h)
        have hE9 := up (hk.other hne.2.1 (H5.out.other hne.1 (blk_below hE hb04)))
        have hL9 := up (hk.other hne.2.2.1 H2.out)
        have hp : pathL s = none := by rw [HPL2.out, hn]; rfl
        refine leave_mark zy3 hK2 (leave_mark zy3 hD3 (leave_oops zy6 hE9 ?_))
        refine ⟨rfl, (but3_mark (but3_mark (but3_two hb04 H5.out hk) zy4) zy4).set (.inl rfl), ?_⟩
        rw [hp]
        refine ⟨?_, ⟨_, get_set hL9 (fun h => hne.1 h.symm)⟩, ⟨_, get_set (up hv) (fun h => hne.2.1 h.symm)⟩⟩
        have := blk_setT (o := 0) hE9 (.int .i64 291)
        simpa using this
    case panic =>
      rintro D ch W hD ⟨rfl, hn, hk, v, hv⟩ hK
      refine ⟨.inr ⟨_, rfl⟩, ?_⟩
      have hElt : E < w.heap.size := (Array.getElem?_eq_some_iff.1 hE).1
      have hQlt : Q < w.heap.size := (Array.getElem?_eq_some_iff.1 hQl).1
      have hEW := hk.other hne.1 (blk_below hE hb04)
      have hQW := hk.other (fun h => hne.2.2.1 h.symm) (blk_below hQl hb04)
      have hp : pathL s = none := by rw [HPL.out, hn]; rfl
      refine leave_mark zy3 hK (leave_oops zy6 ((World.putObj_heap_other zy4).trans hEW) ?_)
      refine ⟨rfl, (but3_mark (but3_own2 hb04 hk) zy4).set (.inl rfl), ?_⟩
      rw [hp]
      refine ⟨?_, ⟨_, get_set ((World.putObj_heap_other zy4).trans hv) (fun h => hne.1 h.symm)⟩, ⟨_, get_set ((World.putObj_heap_other zy4).trans hQW) (fun h => hne.2.1 h.symm)⟩⟩
      have := blk_setT (o := 0) (show (W.putObj D (.deferred none)).heap[E]? = _ from (World.putObj_heap_other zy4).trans hEW) (.int .i64 291)
      simpa using this
end Go.Proofs.YtddjhmelniphgaaGreatDoor.Print
