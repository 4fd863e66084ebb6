/- Contracts of strings.Builder's copyCheck, WriteByte, WriteString, over the given program's own text of them. -/
import Derived.Test.YtddjhmelniphgaaGreatDoorHSq
import Derived.Test.YtddjhmelniphgaaGreatDoorHShelf
import Derived.Test.YtddjhmelniphgaaGreatDoorProg
import Derived.WalkKit
import Derived.LoopTactic
import Derived.BigRegion
import Derived.Laws.Rows
import Derived.OwnWalk
import Derived.Lib.Hide
import Derived.Lib.OthersKept
import Derived.Shelf.Strings.BuilderK
namespace Go.Proofs.YtddjhmelniphgaaGreatDoor.Print
open Go Go.RowKit Go.Proofs.YtddjhmelniphgaaGreatDoorW.PrintWords
set_option linter.unusedVariables false
set_option linter.unusedSimpArgs false

/-- A builder in block b that holds the bytes l; its row lies from block R on. -/
def Bld (R b : Nat) (l : List UInt8) (W : World) : Prop :=
  ∃ p v, (p = .pointer none ∨ p = .pointer (some ⟨b, 0, none⟩)) ∧ W.heap[b]? = some (.cells #[p, v] 109 (0, 0)) ∧ W.ownsRowF R 5 1 v (Lib.byteCells l).length (Lib.byteCells l)
/-- What a writer of the builder in block b (its row from R on) leaves as it stood: all below R, and all that is no row of bytes. -/
structure BKept (R b : Nat) (W W' : World) : Prop where
  os : W'.os = W.os
  tape : W'.tape = W.tape
  output : W'.output = W.output
  size : W.heap.size ≤ W'.heap.size
  block : ∀ k, k < W.heap.size → k ≠ b → (k < R ∨ ∀ c fz, W.heap[k]? ≠ some (.cells c 5 fz)) → W'.heap[k]? = W.heap[k]?
theorem BKept.refl (R b : Nat) (W : World) : BKept R b W W := ⟨rfl, rfl, rfl, Nat.le_refl _, fun _ _ _ _ => rfl⟩
theorem BKept.trans {R b : Nat} {w1 w2 w3 : World} (h : BKept R b w1 w2) (k : BKept R b w2 w3) : BKept R b w1 w3 :=
  ⟨k.os.trans h.os, k.tape.trans h.tape, k.output.trans h.output, Nat.le_trans h.size k.size, fun i hi hb ho =>
    (k.block i (Nat.lt_of_lt_of_le hi h.size) hb (ho.imp id (fun hc => by rw [h.block i hi hb (.inr hc)]; exact hc))).trans (h.block i hi hb ho)⟩
theorem BKept.put {R b : Nat} {w1 w2 : World} (h : BKept R b w1 w2) (o : Nat) (v : Value) : BKept R b w1 (w2.setCell ⟨b, o, none⟩ v) :=
  ⟨h.os, h.tape, h.output, by simpa [World.setCell] using h.size, fun i hi hb ho => (Below.heap_setCell _ _ _ _ (fun e => hb (by simpa using e))).trans (h.block i hi hb ho)⟩
theorem BKept.alloc {R b : Nat} {w1 w2 : World} (h : BKept R b w1 w2) (o : Obj) : BKept R b w1 (w2.alloc o) :=
  ⟨h.os, h.tape, h.output, Nat.le_trans h.size (by simp), fun i hi hb ho => (Below.heap_alloc w2 o i (Nat.lt_of_lt_of_le hi h.size)).trans (h.block i hi hb ho)⟩
theorem BKept.grown {R b : Nat} {w1 w2 w3 : World} {row : Option Nat} (h : BKept R b w1 w2) (hg : w2.grownBy w3 row)
    (hrow : ∀ g, row = some g → R ≤ g ∧ ∃ c fz, w2.heap[g]? = some (.cells c 5 fz)) : BKept R b w1 w3 :=
  h.trans ⟨hg.os, hg.tape, hg.output, hg.size, fun i hi hb ho => hg.block i hi (fun e => by
    obtain ⟨h1, c, fz, h2⟩ := hrow i e.symm
    rcases ho with ho | ho
    · omega
    · exact ho c fz h2)⟩
theorem BKept.below {B R b : Nat} {w1 w2 : World} (h : BKept R b w1 w2) (hR : B ≤ R) (hb : B ≤ b) (hs : B ≤ w1.heap.size) : Below B w1 w2 :=
  ⟨h.os, h.tape, h.output, h.size, fun k hk => h.block k (by omega) (by omega) (.inl (by omega))⟩
theorem Bld.lt {R b : Nat} {l : List UInt8} {W : World} (h : Bld R b l W) : b < W.heap.size := by
  obtain ⟨p, v, _, h, _⟩ := h
  exact (Array.getElem?_eq_some_iff.1 h).1
/-- The builder in the shelf's words. -/
theorem Bld.lib {R b B : Nat} {l : List UInt8} {W : World} (h : Bld R b l W) (hR : B ≤ R) (hb : B ≤ b) : Lib.IsBuilderF 109 5 B b (Lib.byteCells l) W := by
  obtain ⟨p, v, hp, hk, hown⟩ := h
  have hown' : W.ownsRowF B 5 1 v (Lib.byteCells l).length (Lib.byteCells l) := by
    refine ⟨hown.1, ?_⟩
    rcases hown.2 with h | ⟨g, cap, cur, fz, h1, h2, h3⟩
    · exact .inl h
    · exact .inr ⟨g, cap, cur, fz, h1, Nat.le_trans hR h2, h3⟩
  have hne := Lib.ownBlock_neF hown hk (by decide)
  rcases hp with rfl | rfl
  · exact .inl ⟨hb, v, hk, hown', hne⟩
  · exact .inr ⟨hb, v, hk, hown', hne⟩
theorem bld_info : (Tryz.prog.info? 5).map (fun i => (i.zero, i.size, i.bytes)) = some (some (.int .u8 0), 1, 1) := by kernel_rfl
theorem bld_size : (Tryz.prog.info? 109).map (·.size) = some 2 := by kernel_rfl
theorem bld_lies : liesAt Tryz.prog Tryz.prog.depth 109 (2 / Tryz.prog.cellsOf 109) 0 109 1 = true := by kernel_rfl
set_option maxRecDepth 100000 in
set_option maxHeartbeats 1000000 in
theorem check_used (b : Nat) (w : World) (h0 : w.cell? ⟨b, 0, none⟩ = some (.pointer (some ⟨b, 0, none⟩))) :
    Calls Tryz.prog 106 #[.pointer (some ⟨b, 0, none⟩)] w fun e w' => e = .returned (.tuple #[]) ∧ w' = w := by
  obtain ⟨j, hj, _⟩ := Option.map_eq_some_iff.1 bld_size
  go_enter Tryz.func106, Tryz.ntmps106
  go_wp2
  rw [Lib.run_neq_ptr_same w _ Tryz.underlying107 hj]
  go_wp2
  go_end0
  exact ⟨rfl, rfl⟩
set_option maxRecDepth 100000 in
set_option maxHeartbeats 1000000 in
theorem check_fresh (b : Nat) (w : World) (h0 : w.cell? ⟨b, 0, none⟩ = some (.pointer none)) (hsh : w.shape? b = some (109, 2)) (hfz : w.frozen? ⟨b, 0, none⟩ = false) :
    Calls Tryz.prog 106 #[.pointer (some ⟨b, 0, none⟩)] w fun e w' => e = .returned (.tuple #[]) ∧ w' = w.setCell ⟨b, 0, none⟩ (.pointer (some ⟨b, 0, none⟩)) := by
  obtain ⟨j, hj, hjs⟩ := Option.map_eq_some_iff.1 bld_size
  go_enter Tryz.func106, Tryz.ntmps106
  go_wp2
  rw [Lib.run_to_unsafe w ⟨b, 0, none⟩ Tryz.underlying107 Tryz.underlying151 hj (by rw [hjs]; decide) hsh (Nat.zero_lt_succ 1)]
  simp only [Result.andThen]
  rw [Oper.upon_value]
  go_wp2
  rw [run_callFunc_extern Tryz.func125 (by kernel_rfl) (by kernel_rfl) (by kernel_rfl) (e := Extern.AbiNoEscape.same) (by kernel_rfl)]
  rw [Lib.run_noEscape]
  simp only [Result.andThen]
  rw [Oper.upon_value]
  go_wp2
  rw [Lib.run_from_unsafe w ⟨b, 0, none⟩ Tryz.underlying151 Tryz.underlying107 hj hsh bld_lies]
  simp only [Result.andThen]
  rw [Oper.upon_value]
  go_wp2
  go_end0
  exact ⟨rfl, rfl⟩
/-- The builder's block b, once it is known to be used. -/
def Used (R b : Nat) (bs : List Value) (W : World) : Prop := ∃ v, W.heap[b]? = some (.cells #[.pointer (some ⟨b, 0, none⟩), v] 109 (0, 0)) ∧ W.ownsRowF R 5 1 v bs.length bs
theorem check_any (R b : Nat) (l : List UInt8) (w : World) (h : Bld R b l w) :
    Calls Tryz.prog 106 #[.pointer (some ⟨b, 0, none⟩)] w fun e w' => e = .returned (.tuple #[]) ∧ Used R b (Lib.byteCells l) w' ∧ BKept R b w w' := by
  have hk := h.lib (B := min R b) (Nat.min_le_left _ _) (Nat.min_le_right _ _)
  obtain ⟨p, v, hp, hb, hown⟩ := h
  have hne := Lib.ownBlock_neF hown hb (by decide)
  rcases hp with rfl | rfl
  · refine (check_fresh b w (by simp [World.cell?, hb]) (by simp [World.shape?, hb]) (by simp [World.frozen?, hb])).mono ?_
    rintro e w' ⟨rfl, rfl⟩
    refine ⟨rfl, ⟨v, by simp [World.setCell, Array.getElem?_modify, hb], ?_⟩, (BKept.refl R b w).put 0 _⟩
    exact hown.kept (row := some b) ⟨rfl, rfl, rfl, by simp [World.setCell], fun k _ hk => Below.heap_setCell _ _ _ _ (fun e => hk (by simp [e]))⟩ (Or.inr hne)
  · refine (check_used b w (by simp [World.cell?, hb])).mono ?_
    rintro e w' ⟨rfl, rfl⟩
    exact ⟨rfl, ⟨v, hb, hown⟩, BKept.refl R b _⟩
/-- What a writer leaves: the bytes l, nothing else changed. -/
def BWrote (R b : Nat) (l : List UInt8) (W W' : World) : Prop := Bld R b l W' ∧ BKept R b W W'
theorem BWrote.bld {R b : Nat} {l : List UInt8} {W W' : World} (h : BWrote R b l W W') : Bld R b l W' := h.1
theorem BWrote.kept {R b : Nat} {l : List UInt8} {W W' : World} (h : BWrote R b l W W') : BKept R b W W' := h.2
theorem bld_put {R b : Nat} {w : World} {v v' : Value} {l : List UInt8} (hb : w.heap[b]? = some (.cells #[.pointer (some ⟨b, 0, none⟩), v] 109 (0, 0))) (hown : w.ownsRowF R 5 1 v' (Lib.byteCells l).length (Lib.byteCells l)) : Bld R b l (w.setCell ⟨b, 1, none⟩ v') := by
  have hne := Lib.ownBlock_neF hown hb (by decide)
  refine ⟨_, v', .inr rfl, by simp [World.setCell, Array.getElem?_modify, hb], ?_⟩
  exact hown.kept (row := some b) ⟨rfl, rfl, rfl, by simp [World.setCell], fun k _ hk => Below.heap_setCell _ _ _ _ (fun e => hk (by simp [e]))⟩ (Or.inr hne)
theorem bcells_append (a b : List UInt8) : Lib.byteCells (a ++ b) = Lib.byteCells a ++ Lib.byteCells b := List.map_append
theorem bcells_len (a : List UInt8) : (Lib.byteCells a).length = a.length := List.length_map _
set_option maxRecDepth 100000 in
set_option maxHeartbeats 2000000 in
theorem wbyte_any (R b : Nat) (l : List UInt8) (c : UInt8) (w : World) (h : Bld R b l w) (hlen : l.length + 1 ≤ 140737488355328) (hRw : R ≤ w.heap.size) :
    Calls Tryz.prog 74 #[.pointer (some ⟨b, 0, none⟩), .int .u8 c.toNat] w fun e w' => e = .returned .nilIface ∧ BWrote R b (l ++ [c]) w w' := by
  obtain ⟨i0, hi, hz0, hz1, hz2⟩ := info_parts bld_info
  have hck := check_any R b l w h
  have hll := bcells_len l
  generalize hbs : Lib.byteCells l = bs at *
  have HBS := Lib.hid hbs
  have HLL := Lib.hid hll
  clear hbs hll
  have HLEN := Lib.hid hlen
  clear hlen
  go_enter Tryz.func74, Tryz.ntmps74
  go_wp2_with (go_at_call 106; refine hck.mono ?_)
  rintro e w1 ⟨rfl, h1, hk1⟩
  obtain ⟨v, hbk, hown⟩ := h1
  have hne := Lib.ownBlock_neF hown hbk (by decide)
  have c0 : w1.cell? ⟨b, 0, none⟩ = some (.pointer (some ⟨b, 0, none⟩)) := by rw [Lib.cell_of_heap hbk]; rfl
  have c1 : w1.cell? ⟨b, 1, none⟩ = some v := by rw [Lib.cell_of_heap hbk]; rfl
  have hsz := hk1.size
  have hl1 : bs.length + 1 ≤ 140737488355328 := by rw [HLL.out]; exact HLEN.out
  go_wp2_with (at_builtin; refine wpList_append_ownF _ rfl _ _ 57 rfl R 5 i0 (.int .u8 0) 1 1 Tryz.underlying57 hi hz0 hz1 hz2 rfl (by decide) _ _ _ rfl (hown.alloc _) ⟨w1.heap.size, 0, none⟩ 1 1 [.int .u8 c.toNat] rfl rfl ?c1 ?c2 ?c3 ?c4 ?c5 ?_)
  case c1 =>
    intro j u hj
    match j, hj with
    | 0, hj => simp at hj; subst hj; simp [Addr.add]
  case c2 => intro u hu; simp at hu; subst hu; rfl
  case c3 => unfold maxLen; omega
  case c4 => omega
  case c5 => simp; omega
  intro v' w2 hown' hgrow _
  have hlt : b < w1.heap.size := (Array.getElem?_eq_some_iff.1 hbk).1
  have hb2 : w2.heap[b]? = some (.cells #[.pointer (some ⟨b, 0, none⟩), v] 109 (0, 0)) :=
    (hgrow.block b (by simp; omega) (fun e => hne e.symm)).trans ((Lib.alloc_old w1 _ b hlt).trans hbk)
  have d0 : w2.cell? ⟨b, 0, none⟩ = some (.pointer (some ⟨b, 0, none⟩)) := by rw [Lib.cell_of_heap hb2]; rfl
  have d1 : w2.cell? ⟨b, 1, none⟩ = some v := by rw [Lib.cell_of_heap hb2]; rfl
  have f1 : w2.frozen? ⟨b, 1, none⟩ = false := Lib.frozen_of_heap hb2 1
  obtain ⟨g, cap, rfl⟩ : ∃ g cap, v' = .slice (some ⟨g, 0, none⟩) (bs.length + 1) cap := by
    rcases hown'.2 with ⟨_, h0⟩ | ⟨g, cap, cur, fz, hv, _⟩
    · omega
    · exact ⟨g, cap, hv⟩
  go_wp2
  go_ret
  refine ⟨rfl, bld_put hb2 ?_, ((hk1.alloc _).grown hgrow (fun g hg => ⟨(hown.lt g hg).1, Lib.ownsRowF_kind (hown.alloc _) g hg⟩)).put 1 _⟩
  rw [bcells_append, HBS.out]
  show w2.ownsRowF R 5 1 _ (bs ++ [Value.int .u8 c.toNat]).length (bs ++ [Value.int .u8 c.toNat])
  simpa using hown'
set_option maxRecDepth 100000 in
set_option maxHeartbeats 2000000 in
theorem wstr_any (R b : Nat) (l : List UInt8) (s : ByteArray) (w : World) (h : Bld R b l w) (hlen : l.length + s.size ≤ 140737488355328) (hRw : R ≤ w.heap.size) :
    Calls Tryz.prog 75 #[.pointer (some ⟨b, 0, none⟩), .string s] w fun e w' => e = .returned (.tuple #[.int .i64 s.size, .nilIface]) ∧ BWrote R b (l ++ s.data.toList) w w' := by
  obtain ⟨i0, hi, hz0, hz1, hz2⟩ := info_parts bld_info
  have hck := check_any R b l w h
  have hll := bcells_len l
  generalize hbs : Lib.byteCells l = bs at *
  have HBS := Lib.hid hbs
  have HLL := Lib.hid hll
  clear hbs hll
  have HLEN := Lib.hid hlen
  clear hlen
  go_enter Tryz.func75, Tryz.ntmps75
  go_wp2_with (go_at_call 106; refine hck.mono ?_)
  rintro e w1 ⟨rfl, h1, hk1⟩
  obtain ⟨v, hbk, hown⟩ := h1
  have hne := Lib.ownBlock_neF hown hbk (by decide)
  have c0 : w1.cell? ⟨b, 0, none⟩ = some (.pointer (some ⟨b, 0, none⟩)) := by rw [Lib.cell_of_heap hbk]; rfl
  have c1 : w1.cell? ⟨b, 1, none⟩ = some v := by rw [Lib.cell_of_heap hbk]; rfl
  have hsz := hk1.size
  have hl1 : bs.length + s.size ≤ 140737488355328 := by rw [HLL.out]; exact HLEN.out
  go_wp2_with (at_builtin; go_loud (refine Lib.wpList_append_own_stringF _ rfl _ _ 57 9 rfl R 5 i0 Tryz.underlying57 Tryz.underlying9 hi hz0 hz1 hz2 _ _ _ rfl hown s rfl ?c3 ?c4 ?c5 ?_))
  case c3 => unfold maxLen; omega
  case c4 => omega
  case c5 => omega
  intro v' w2 hown' hgrow _
  have hlt : b < w1.heap.size := (Array.getElem?_eq_some_iff.1 hbk).1
  have hb2 : w2.heap[b]? = some (.cells #[.pointer (some ⟨b, 0, none⟩), v] 109 (0, 0)) :=
    (hgrow.block b hlt (fun e => hne e.symm)).trans hbk
  have d0 : w2.cell? ⟨b, 0, none⟩ = some (.pointer (some ⟨b, 0, none⟩)) := by rw [Lib.cell_of_heap hb2]; rfl
  have d1 : w2.cell? ⟨b, 1, none⟩ = some v := by rw [Lib.cell_of_heap hb2]; rfl
  have f1 : w2.frozen? ⟨b, 1, none⟩ = false := Lib.frozen_of_heap hb2 1
  obtain ⟨ao, n', cap, rfl⟩ : ∃ ao n' cap, v' = .slice ao n' cap := by
    rcases hown'.2 with ⟨hv, _⟩ | ⟨g, cap, cur, fz, hv, _⟩
    · exact ⟨_, _, _, hv⟩
    · exact ⟨_, _, _, hv⟩
  go_wp2
  go_ret2
  refine ⟨rfl, bld_put hb2 ?_, (hk1.grown hgrow (fun g hg => ⟨(hown.lt g hg).1, Lib.ownsRowF_kind hown g hg⟩)).put 1 _⟩
  rw [bcells_append, HBS.out, List.length_append, bcells_len, Array.length_toList]
  exact hown'
theorem bstring_any (R b B : Nat) (l : List UInt8) (w : World) (h : Bld R b l w) (hR : B ≤ R) (hb : B ≤ b) (hBw : B ≤ w.heap.size) :
    Calls Tryz.prog 76 #[.pointer (some ⟨b, 0, none⟩)] w fun e w' => e = .returned (.string ⟨l.toArray⟩) ∧ Below B w w' ∧ Lib.OthersKept 5 (some b) w w' :=
  (Tryz.Builder_String_any_k B b l w (h.lib hR hb) hBw).mono fun _ _ ⟨h1, _, h2, h3⟩ => ⟨h1, h2, h3⟩
theorem blen_any (R b : Nat) (l : List UInt8) (w : World) (h : Bld R b l w) :
    Calls Tryz.prog 78 #[.pointer (some ⟨b, 0, none⟩)] w fun e w' => e = .returned (.int .i64 l.length) ∧ w' = w := by
  have := Tryz.Builder_Len_f 0 b _ w (h.lib (Nat.zero_le _) (Nat.zero_le _))
  rw [bcells_len] at this
  exact this
/-- A fresh builder. -/
theorem bld_new (W : World) (R : Nat) : Bld R W.heap.size [] (W.alloc (.cells #[.pointer none, .slice none 0 0] 109)) :=
  ⟨_, _, .inl rfl, heap_alloc_new W _, World.ownsRowF_nil _ _ _ _⟩
/-- The builder, in a later world that keeps its block and its row. -/
theorem Bld.later {R b : Nat} {l : List UInt8} {W W' : World} (h : Bld R b l W) (hk : Below W.heap.size W W') : Bld R b l W' := by
  obtain ⟨p, v, hp, hb, hown⟩ := h
  refine ⟨p, v, hp, (hk.block b (Array.getElem?_eq_some_iff.1 hb).1).trans hb, hown.kept (row := none) ⟨hk.os, hk.tape, hk.output, hk.size, fun k h1 _ => hk.block k h1⟩ ?_⟩
  cases hv : v.ownBlock <;> simp
end Go.Proofs.YtddjhmelniphgaaGreatDoor.Print
