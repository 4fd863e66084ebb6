/- Contract of sha.block: one block's rounds. -/
import Derived.Test.YtkcjekboakoejaaHSRot
import Derived.Test.YtkcjekboakoejaaHSq
import Derived.Deep.QuietTactic
import Derived.BigQuiet
import Derived.StillTailTactics
import Derived.Deep.RegionHeld3
import Derived.BigRegion
import Derived.RowKit3
import Derived.IntWalk
import Derived.Laws.Rows
import Derived.RangeFuncNested
namespace Go.Proofs.Ytkcjekboakoejaa.Print
open Go Go.RowKit Go.Proofs.YtkcjekboakoejaaW.PrintWords
set_option linter.unusedVariables false
set_option linter.unusedSimpArgs false

/-- A sum of 32 bits. -/
def add32 (a b : Nat) : Nat := (a + b) % 4294967296
theorem add32_lt (a b : Nat) : add32 a b < 4294967296 := Nat.mod_lt _ (by decide)
/-- Four bytes, the highest first. -/
def wordN (b : List UInt8) (t : Nat) : Nat :=
  ((((b.getD (4 * t) 0).toNat * 16777216) ||| ((b.getD (4 * t + 1) 0).toNat * 65536)) ||| ((b.getD (4 * t + 2) 0).toNat * 256)) ||| (b.getD (4 * t + 3) 0).toNat
/-- The next word. -/
def nextW (b : List UInt8) (l : List Nat) : Nat :=
  if l.length < 16 then wordN b l.length else
    add32 (add32 (add32 (rotsN (l.getD (l.length - 2) 0) [17, 19] ^^^ l.getD (l.length - 2) 0 / 1024) (l.getD (l.length - 7) 0)) (rotsN (l.getD (l.length - 15) 0) [7, 18] ^^^ l.getD (l.length - 15) 0 / 8)) (l.getD (l.length - 16) 0)
def wordsN (b : List UInt8) : Nat → List Nat
  | 0 => []
  | t + 1 => wordsN b t ++ [nextW b (wordsN b t)]
theorem wordsN_len (b : List UInt8) : ∀ t, (wordsN b t).length = t
  | 0 => rfl
  | t + 1 => by simp [wordsN, wordsN_len b t]
theorem nextW_lt (b : List UInt8) (l : List Nat) : nextW b l < 4294967296 := by
  unfold nextW
  split
  · unfold wordN
    have h := fun i => (b.getD i 0).toNat_lt
    exact Nat.or_lt_two_pow (n := 32) (Nat.or_lt_two_pow (Nat.or_lt_two_pow (Nat.lt_of_lt_of_le (Nat.mul_lt_mul_of_pos_right (h _) (by decide)) (by decide)) (Nat.lt_of_lt_of_le (Nat.mul_lt_mul_of_pos_right (h _) (by decide)) (by decide))) (Nat.lt_of_lt_of_le (Nat.mul_lt_mul_of_pos_right (h _) (by decide)) (by decide))) (Nat.lt_of_lt_of_le (h _) (by decide))
  · exact add32_lt _ _
theorem wordsN_lt (b : List UInt8) (t j : Nat) : (wordsN b t).getD j 0 < 4294967296 := by
  induction t with
  | zero => simp [wordsN]
  | succ t ih =>
    simp only [wordsN]
    rw [List.getD_eq_getElem?_getD] at ih ⊢
    by_cases h : j < (wordsN b t).length
    · rw [List.getElem?_append_left h]; exact ih
    · rw [List.getElem?_append_right (by omega)]
      have h1 := nextW_lt b (wordsN b t)
      rcases (by omega : j - (wordsN b t).length = 0 ∨ 1 ≤ j - (wordsN b t).length) with e | e
      · rw [e]; simpa using h1
      · rw [List.getElem?_eq_none (by simpa using e)]; decide
/-- The eight numbers. -/
structure St where
  a : Nat
  b : Nat
  c : Nat
  d : Nat
  e : Nat
  f : Nat
  g : Nat
  h : Nat
def St.t1 (s : St) (k w : Nat) : Nat := add32 (add32 (add32 (add32 s.h (rotsN s.e [6, 11, 25])) (s.g ^^^ (s.e &&& (s.f ^^^ s.g)))) k) w
def St.t2 (s : St) : Nat := add32 (rotsN s.a [2, 13, 22]) ((s.a &&& s.b) ||| (s.c &&& (s.a ||| s.b)))
def St.next (s : St) (k w : Nat) : St := ⟨add32 (s.t1 k w) s.t2, s.a, s.b, s.c, add32 s.d (s.t1 k w), s.e, s.f, s.g⟩
def St.rounds (s : St) (ks ws : List Nat) : Nat → St
  | 0 => s
  | t + 1 => (St.rounds s ks ws t).next (ks.getD t 0) (ws.getD t 0)
def St.plus (s t : St) : St := ⟨add32 s.a t.a, add32 s.b t.b, add32 s.c t.c, add32 s.d t.d, add32 s.e t.e, add32 s.f t.f, add32 s.g t.g, add32 s.h t.h⟩
def St.ok (s : St) : Prop := s.a < 4294967296 ∧ s.b < 4294967296 ∧ s.c < 4294967296 ∧ s.d < 4294967296 ∧ s.e < 4294967296 ∧ s.f < 4294967296 ∧ s.g < 4294967296 ∧ s.h < 4294967296
def blockN (s : St) (ks : List Nat) (b : List UInt8) : St := (s.rounds ks (wordsN b 64) 64).plus s
def St.vals (s : St) : Array Value := #[.int .u32 s.a, .int .u32 s.b, .int .u32 s.c, .int .u32 s.d, .int .u32 s.e, .int .u32 s.f, .int .u32 s.g, .int .u32 s.h]
theorem and_lt {a b : Nat} (hb : b < 4294967296) : a &&& b < 4294967296 := Nat.and_lt_two_pow (n := 32) a hb
theorem or_lt {a b : Nat} (ha : a < 4294967296) (hb : b < 4294967296) : a ||| b < 4294967296 := Nat.or_lt_two_pow (n := 32) ha hb
theorem St.next_ok {s : St} (h : s.ok) (k w : Nat) : (s.next k w).ok := ⟨add32_lt _ _, h.1, h.2.1, h.2.2.1, add32_lt _ _, h.2.2.2.2.1, h.2.2.2.2.2.1, h.2.2.2.2.2.2.1⟩
theorem St.rounds_ok (s : St) (ks ws : List Nat) (h : s.ok) : ∀ t, (s.rounds ks ws t).ok
  | 0 => h
  | t + 1 => St.next_ok (St.rounds_ok s ks ws h t) _ _
/-- A row of 64 numbers, of which the first are told. -/
def rowV (l : List Nat) : Array Value := (l.map (fun x : Nat => Value.int .u32 x) ++ List.replicate (64 - l.length) (Value.int .u32 0)).toArray
/-- What the block of a variable holds. -/
def Has (w : World) (B : Nat) (c : Array Value) (t : TypeId) : Prop := w.heap[B]? = some (.cells c t (0, 0))

theorem idx_str {P : Program} {ty : TypeId} (ht : P.underlying ty = some .string) (s : ByteArray) (i : Int) (n : Nat) (hi : i = (n : Int)) (h : n < s.size) (W : World) :
    (Instr.index ty (.string s) (.int .i64 i)).run P W = .ok (.int .u8 ((s.data.toList.getD n 0).toNat : Int)) W := by
  subst hi
  rw [run_index_string W ty s .i64 (n : Int) ht, dif_pos ⟨by omega, by omega⟩]
  have e : s.data.toList.getD n 0 = s[n]'h := by
    rw [List.getD_eq_getElem?_getD, List.getElem?_eq_getElem (by rw [Array.length_toList]; exact h), Array.getElem_toList]
    rfl
  rw [e]
  simp
theorem rowV_at (l : List Nat) (h : l.length ≤ 64) (j : Nat) (hj : j < 64) : (rowV l)[j]? = some (.int .u32 ((l.getD j 0 : Nat) : Int)) := by
  unfold rowV
  rw [List.getElem?_toArray]
  by_cases h1 : j < l.length
  · rw [List.getElem?_append_left (by simpa using h1)]
    simp [List.getD_eq_getElem?_getD, h1]
  · rw [List.getElem?_append_right (by simpa using Nat.le_of_not_lt h1)]
    simp only [List.length_map]
    rw [List.getElem?_replicate, if_pos (by omega), List.getD_eq_getElem?_getD, List.getElem?_eq_none (by omega)]
    rfl
theorem Has.at {w : World} {B : Nat} {c : Array Value} {t : TypeId} (h : Has w B c t) {j : Nat} {v : Value} (hj : c[j]? = some v) : w.cell? ⟨B, j, none⟩ = some v ∧ w.frozen? ⟨B, j, none⟩ = false :=
  ⟨(blk_cell h j).trans hj, blk_frozen h j⟩
theorem rowV_set (l : List Nat) (t x : Nat) (hl : l.length = t) (ht : t < 64) : (rowV l).setIfInBounds t (.int .u32 (x : Int)) = rowV (l ++ [x]) := by
  apply Array.ext_getElem?
  intro j
  unfold rowV
  rw [Array.getElem?_setIfInBounds]
  simp only [List.size_toArray, List.length_append, List.length_map, List.length_replicate, List.getElem?_toArray, List.map_append, List.map_cons, List.map_nil, List.length_cons, List.length_nil]
  have e : l.length + (64 - l.length) = 64 := by omega
  by_cases h : t = j
  · subst h
    rw [if_pos rfl, if_pos (by omega), List.getElem?_append_left (by simp; omega), List.getElem?_append_right (by simp; omega)]
    simp [hl]
  · rw [if_neg h]
    by_cases h1 : j < t
    · rw [List.getElem?_append_left (by simp; omega), List.getElem?_append_left (by simp; omega), List.getElem?_append_left (by simp; omega)]
    · rw [List.getElem?_append_right (by simp; omega), List.getElem?_append_right (by simp; omega)]
      simp only [List.length_map, List.length_append, List.length_cons, List.length_nil, List.getElem?_replicate]
      by_cases h2 : j < 64
      · rw [if_pos (by omega), if_pos (by omega)]
      · rw [if_neg (by omega), if_neg (by omega)]
theorem word_or (d0 d1 d2 d3 : Nat) (h0 : d0 < 256) (h1 : d1 < 256) (h2 : d2 < 256) (h3 : d3 < 256) :
    bits .or .u32 (bits .or .u32 (bits .or .u32 ((d0 : Int) * 16777216) ((d1 : Int) * 65536)) ((d2 : Int) * 256)) (d3 : Int) = (((d0 * 16777216 ||| d1 * 65536) ||| d2 * 256) ||| d3 : Nat) := by
  have e0 : (d0 : Int) * 16777216 = ((d0 * 16777216 : Nat) : Int) := by rw [Int.natCast_mul]; rfl
  have e1 : (d1 : Int) * 65536 = ((d1 * 65536 : Nat) : Int) := by rw [Int.natCast_mul]; rfl
  have e2 : (d2 : Int) * 256 = ((d2 * 256 : Nat) : Int) := by rw [Int.natCast_mul]; rfl
  have l0 : d0 * 16777216 < 2 ^ 32 := Nat.lt_of_lt_of_le (Nat.mul_lt_mul_of_pos_right h0 (by decide)) (by decide)
  have l1 : d1 * 65536 < 2 ^ 32 := Nat.lt_of_lt_of_le (Nat.mul_lt_mul_of_pos_right h1 (by decide)) (by decide)
  have l2 : d2 * 256 < 2 ^ 32 := Nat.lt_of_lt_of_le (Nat.mul_lt_mul_of_pos_right h2 (by decide)) (by decide)
  rw [e0, e1, e2, u32_or_nat _ _ l0 l1, u32_or_nat _ _ (Nat.or_lt_two_pow l0 l1) l2, u32_or_nat _ _ (Nat.or_lt_two_pow (Nat.or_lt_two_pow l0 l1) l2) (by omega)]
theorem Has.drew {w : World} {B : Nat} {c : Array Value} {t : TypeId} (h : Has w B c t) : Has w.drew B c t := h
theorem Has.set {w : World} {B i : Nat} {c : Array Value} {t : TypeId} (h : Has w B c t) (v : Value) : Has (w.setCell ⟨B, i, none⟩ v) B (c.setIfInBounds i v) t := heap_setCell_same w B i c t v h
theorem Has.other {w : World} {B B' i : Nat} {c : Array Value} {t : TypeId} (h : Has w B c t) (hn : B ≠ B') (v : Value) : Has (w.setCell ⟨B', i, none⟩ v) B c t := (heap_setCell_other w _ B v hn).trans h
/-- What a cell holds. -/
def valAt (w : World) (a : Addr) : Value := (w.cell? a).getD undef
theorem valAt_of {w : World} {a : Addr} (h : (w.cell? a).isSome = true) : w.cell? a = some (valAt w a) := by
  unfold valAt
  cases hc : w.cell? a with
  | none => rw [hc] at h; cases h
  | some v => rfl
theorem isSome_set {W : World} {a : Addr} {v : Value} (h : (W.cell? a).isSome = true) : ((W.setCell a v).cell? a).isSome = true := by rw [World.cell?_setCell_same' _ _ _ h]; rfl
theorem wrap_add (a b : Nat) : ((a : Int) + (b : Int)) % 4294967296 = ((add32 a b : Nat) : Int) := by unfold add32; omega
theorem step_val (X Y P Q r1 r2 : Nat) (hX : X < 4294967296) (hY : Y < 4294967296) (h1 : r1 < 4294967296) (h2 : r2 < 4294967296) :
    (((bits .xor .u32 (r1 : Int) ((Y : Int) / 1024) + (P : Int)) % 4294967296 + bits .xor .u32 (r2 : Int) ((X : Int) / 8)) % 4294967296 + (Q : Int)) % 4294967296 = ((add32 (add32 (add32 (r1 ^^^ Y / 1024) P) (r2 ^^^ X / 8)) Q : Nat) : Int) := by
  have e1 : (Y : Int) / 1024 = ((Y / 1024 : Nat) : Int) := by omega
  have e2 : (X : Int) / 8 = ((X / 8 : Nat) : Int) := by omega
  rw [e1, e2, u32_xor_nat _ _ h1 (by omega), u32_xor_nat _ _ h2 (by omega), wrap_add, wrap_add, wrap_add]
theorem alloc3 (w : World) (o1 o2 o3 : Obj) : (((w.alloc o1).alloc o2).alloc o3).heap[w.heap.size]? = some o1 ∧ (((w.alloc o1).alloc o2).alloc o3).heap[w.heap.size + 1]? = some o2 ∧ (((w.alloc o1).alloc o2).alloc o3).heap[w.heap.size + 1 + 1]? = some o3 ∧
    (((w.alloc o1).alloc o2).alloc o3).heap.size = w.heap.size + 1 + 1 + 1 ∧ Below w.heap.size w (((w.alloc o1).alloc o2).alloc o3) := by
  refine ⟨?_, ?_, ?_, by simp, (((Below.refl _ w).alloc (Nat.le_refl _) _).alloc (by simp) _).alloc (by simp; omega) _⟩
  · exact (Below.heap_alloc _ _ _ (by simp only [World.size_alloc]; omega)).trans ((Below.heap_alloc _ _ _ (by simp only [World.size_alloc]; omega)).trans (World.alloc_heap_new w o1))
  · exact (Below.heap_alloc _ _ _ (by simp only [World.size_alloc]; omega)).trans (by have := World.alloc_heap_new (w.alloc o1) o2; simpa only [World.size_alloc] using this)
  · have := World.alloc_heap_new ((w.alloc o1).alloc o2) o3
    simpa only [World.size_alloc] using this
def zero8 : Array Value := #[.int .u32 0, .int .u32 0, .int .u32 0, .int .u32 0, .int .u32 0, .int .u32 0, .int .u32 0, .int .u32 0]
/-- What holds ahead of round t of the first loop. -/
def Row1 (s : St) (b : ByteArray) (w : World) (t : Nat) (wr : World) : Prop :=
  Has wr w.heap.size s.vals 75 ∧ Has wr (w.heap.size + 1) zero8 75 ∧ Has wr (w.heap.size + 1 + 1) (rowV (wordsN b.data.toList t)) 73 ∧ w.heap.size + 1 + 1 < wr.heap.size ∧ Below w.heap.size w wr

theorem Row1.put {s : St} {b : ByteArray} {w wr : World} {t : Nat} (h : Row1 s b w t wr) (ht : t < 64) : Row1 s b w (t + 1) (wr.setCell ⟨w.heap.size + 1 + 1, t, none⟩ (.int .u32 ((nextW b.data.toList (wordsN b.data.toList t) : Nat) : Int))).drew := by
  obtain ⟨h1, h2, h3, h4, h5⟩ := h
  refine ⟨(h1.other (by omega) _).drew, (h2.other (by omega) _).drew, ?_, by simpa using h4, (h5.setCell (p := ⟨w.heap.size + 1 + 1, t, none⟩) (by simp; omega) _).drew⟩
  have := (h3.set (i := t) (.int .u32 ((nextW b.data.toList (wordsN b.data.toList t) : Nat) : Int))).drew
  rw [rowV_set _ t _ (wordsN_len _ _) ht] at this
  exact this
theorem Row1.draws {s : St} {b : ByteArray} {w wr : World} {t : Nat} (h : Row1 s b w t wr) : Row1 s b w t wr.drew := ⟨h.1, h.2.1, h.2.2.1, h.2.2.2.1, h.2.2.2.2.drew⟩
theorem Row1.more {s : St} {b : ByteArray} {w wr : World} {t : Nat} (h : Row1 s b w t wr) {o : Obj} : Row1 s b w t (wr.alloc o) := by
  obtain ⟨h1, h2, h3, h4, h5⟩ := h
  exact ⟨(Below.heap_alloc _ _ _ (by omega)).trans h1, (Below.heap_alloc _ _ _ (by omega)).trans h2, (Below.heap_alloc _ _ _ (by omega)).trans h3, by simp only [World.size_alloc]; omega, h5.alloc (by omega) _⟩
theorem Row1.put0 {s : St} {b : ByteArray} {w wr : World} {t : Nat} (h : Row1 s b w t wr) (ht : t < 64) : Row1 s b w (t + 1) (wr.setCell ⟨w.heap.size + 1 + 1, t, none⟩ (.int .u32 ((nextW b.data.toList (wordsN b.data.toList t) : Nat) : Int))) := by
  obtain ⟨h1, h2, h3, h4, h5⟩ := h
  refine ⟨(h1.other (by omega) _), (h2.other (by omega) _), ?_, by simpa using h4, (h5.setCell (p := ⟨w.heap.size + 1 + 1, t, none⟩) (by simp; omega) _)⟩
  have := (h3.set (i := t) (.int .u32 ((nextW b.data.toList (wordsN b.data.toList t) : Nat) : Int)))
  rw [rowV_set _ t _ (wordsN_len _ _) ht] at this
  exact this
/-- What holds ahead of round t of the second loop. -/
def Row2 (s : St) (ks : List Nat) (b : ByteArray) (w : World) (V t : Nat) (W : World) : Prop :=
  Has W w.heap.size s.vals 75 ∧ Has W (w.heap.size + 1) zero8 75 ∧ Has W (w.heap.size + 1 + 1) (rowV (wordsN b.data.toList 64)) 73 ∧ Has W V (s.rounds ks (wordsN b.data.toList 64) t).vals 75 ∧ V < W.heap.size ∧ w.heap.size + 1 + 1 < V ∧ Below w.heap.size w W
theorem Row2.start {s : St} {ks : List Nat} {b : ByteArray} {w wr : World} (h : Row1 s b w 64 wr) : Row2 s ks b w wr.heap.size 0 (wr.alloc (.cells s.vals 75)) := by
  obtain ⟨h1, h2, h3, h4, h5⟩ := h
  exact ⟨(Below.heap_alloc _ _ _ (by omega)).trans h1, (Below.heap_alloc _ _ _ (by omega)).trans h2, (Below.heap_alloc _ _ _ (by omega)).trans h3, World.alloc_heap_new _ _, by simp only [World.size_alloc]; omega, h4, h5.alloc (by omega) _⟩
theorem set8 {W : World} {V : Nat} {T : TypeId} {c0 c1 c2 c3 c4 c5 c6 c7 : Value} (h : Has W V #[c0, c1, c2, c3, c4, c5, c6, c7] T) (v0 v1 v2 v3 v4 v5 v6 v7 : Value) : Has ((((((((W.setCell ⟨V, 0, none⟩ v0).setCell ⟨V, 1, none⟩ v1).setCell ⟨V, 2, none⟩ v2).setCell ⟨V, 3, none⟩ v3).setCell ⟨V, 4, none⟩ v4).setCell ⟨V, 5, none⟩ v5).setCell ⟨V, 6, none⟩ v6).setCell ⟨V, 7, none⟩ v7) V #[v0, v1, v2, v3, v4, v5, v6, v7] T := by
  have := ((((((((h.set (i := 0) v0).set (i := 1) v1).set (i := 2) v2).set (i := 3) v3).set (i := 4) v4).set (i := 5) v5).set (i := 6) v6).set (i := 7) v7)
  simpa using this
theorem other8 {W : World} {B V : Nat} {T : TypeId} {c : Array Value} (h : Has W B c T) (hn : B ≠ V) (v0 v1 v2 v3 v4 v5 v6 v7 : Value) : Has ((((((((W.setCell ⟨V, 0, none⟩ v0).setCell ⟨V, 1, none⟩ v1).setCell ⟨V, 2, none⟩ v2).setCell ⟨V, 3, none⟩ v3).setCell ⟨V, 4, none⟩ v4).setCell ⟨V, 5, none⟩ v5).setCell ⟨V, 6, none⟩ v6).setCell ⟨V, 7, none⟩ v7) B c T :=
  (((((((h.other hn v0).other hn v1).other hn v2).other hn v3).other hn v4).other hn v5).other hn v6).other hn v7
theorem below8 {w W : World} {n V : Nat} (h : Below n w W) (hn : n ≤ V) (v0 v1 v2 v3 v4 v5 v6 v7 : Value) : Below n w ((((((((W.setCell ⟨V, 0, none⟩ v0).setCell ⟨V, 1, none⟩ v1).setCell ⟨V, 2, none⟩ v2).setCell ⟨V, 3, none⟩ v3).setCell ⟨V, 4, none⟩ v4).setCell ⟨V, 5, none⟩ v5).setCell ⟨V, 6, none⟩ v6).setCell ⟨V, 7, none⟩ v7) :=
  (((((((h.setCell (p := ⟨V, 0, none⟩) hn v0).setCell (p := ⟨V, 1, none⟩) hn v1).setCell (p := ⟨V, 2, none⟩) hn v2).setCell (p := ⟨V, 3, none⟩) hn v3).setCell (p := ⟨V, 4, none⟩) hn v4).setCell (p := ⟨V, 5, none⟩) hn v5).setCell (p := ⟨V, 6, none⟩) hn v6).setCell (p := ⟨V, 7, none⟩) hn v7
theorem Row2.put {s : St} {ks : List Nat} {b : ByteArray} {w W : World} {V t : Nat} (h : Row2 s ks b w V t W) {r : St} (hr : s.rounds ks (wordsN b.data.toList 64) (t + 1) = r) :
    Row2 s ks b w V (t + 1) ((((((((W.setCell ⟨V, 0, none⟩ (.int .u32 r.a)).setCell ⟨V, 1, none⟩ (.int .u32 r.b)).setCell ⟨V, 2, none⟩ (.int .u32 r.c)).setCell ⟨V, 3, none⟩ (.int .u32 r.d)).setCell ⟨V, 4, none⟩ (.int .u32 r.e)).setCell ⟨V, 5, none⟩ (.int .u32 r.f)).setCell ⟨V, 6, none⟩ (.int .u32 r.g)).setCell ⟨V, 7, none⟩ (.int .u32 r.h)) := by
  obtain ⟨h1, h2, h3, h4, h5, h6, h7⟩ := h
  refine ⟨other8 h1 (by omega) _ _ _ _ _ _ _ _, other8 h2 (by omega) _ _ _ _ _ _ _ _, other8 h3 (by omega) _ _ _ _ _ _ _ _, ?_, by simpa [World.setCell] using h5, h6, below8 h7 (by omega) _ _ _ _ _ _ _ _⟩
  rw [hr]
  unfold St.vals at h4
  exact set8 h4 _ _ _ _ _ _ _ _
theorem Row2.more {s : St} {ks : List Nat} {b : ByteArray} {w W : World} {V t : Nat} (h : Row2 s ks b w V t W) (o : Obj) : Row2 s ks b w V t (W.alloc o) := by
  obtain ⟨h1, h2, h3, h4, h5, h6, h7⟩ := h
  exact ⟨(Below.heap_alloc _ _ _ (by omega)).trans h1, (Below.heap_alloc _ _ _ (by omega)).trans h2, (Below.heap_alloc _ _ _ (by omega)).trans h3, (Below.heap_alloc _ _ _ (by omega)).trans h4, by simp only [World.size_alloc]; omega, h6, h7.alloc (by omega) _⟩
theorem Row2.draws {s : St} {ks : List Nat} {b : ByteArray} {w W : World} {V t : Nat} (h : Row2 s ks b w V t W) : Row2 s ks b w V t W.drew := ⟨h.1, h.2.1, h.2.2.1, h.2.2.2.1, h.2.2.2.2.1, h.2.2.2.2.2.1, h.2.2.2.2.2.2.drew⟩
theorem bits_ch (e f g : Nat) (he : e < 4294967296) (hf : f < 4294967296) (hg : g < 4294967296) : bits .xor .u32 (g : Int) (bits .and .u32 (e : Int) (bits .xor .u32 (f : Int) (g : Int))) = ((g ^^^ (e &&& (f ^^^ g)) : Nat) : Int) := by
  rw [u32_xor_nat f g hf hg, u32_and_nat e _ he (xor_lt hf hg), u32_xor_nat g _ hg (and_lt (xor_lt hf hg))]
theorem bits_maj (a b c : Nat) (ha : a < 4294967296) (hb : b < 4294967296) (hc : c < 4294967296) : bits .or .u32 (bits .and .u32 (a : Int) (b : Int)) (bits .and .u32 (c : Int) (bits .or .u32 (a : Int) (b : Int))) = (((a &&& b) ||| (c &&& (a ||| b)) : Nat) : Int) := by
  rw [u32_or_nat a b ha hb, u32_and_nat a b ha hb, u32_and_nat c _ hc (or_lt ha hb), u32_or_nat _ _ (and_lt hb) (and_lt (or_lt ha hb))]
theorem sum_a (h R A k x R2 B : Nat) : ((h : Int) + R + A + k + x + (R2 + B)) % 4294967296 = ((add32 (add32 (add32 (add32 (add32 h R) A) k) x) (add32 R2 B) : Nat) : Int) := by unfold add32; omega
theorem sum_e (d h R A k x : Nat) : ((d : Int) + ((h : Int) + R + A + k + x)) % 4294967296 = ((add32 d (add32 (add32 (add32 (add32 h R) A) k) x) : Nat) : Int) := by unfold add32; omega
/-- The sums, as far as they are made. -/
def mix8 (r s : St) (t : Nat) : Array Value :=
  #[.int .u32 ((if 0 < t then add32 r.a s.a else r.a : Nat) : Int), .int .u32 ((if 1 < t then add32 r.b s.b else r.b : Nat) : Int), .int .u32 ((if 2 < t then add32 r.c s.c else r.c : Nat) : Int), .int .u32 ((if 3 < t then add32 r.d s.d else r.d : Nat) : Int),
    .int .u32 ((if 4 < t then add32 r.e s.e else r.e : Nat) : Int), .int .u32 ((if 5 < t then add32 r.f s.f else r.f : Nat) : Int), .int .u32 ((if 6 < t then add32 r.g s.g else r.g : Nat) : Int), .int .u32 ((if 7 < t then add32 r.h s.h else r.h : Nat) : Int)]
def Row3 (s r : St) (w : World) (V t : Nat) (W : World) : Prop :=
  Has W w.heap.size s.vals 75 ∧ Has W (w.heap.size + 1) zero8 75 ∧ Has W V (mix8 r s t) 75 ∧ V < W.heap.size ∧ w.heap.size + 1 + 1 < V ∧ Below w.heap.size w W
theorem Row3.start {s : St} {ks : List Nat} {b : ByteArray} {w W : World} {V t : Nat} (h : Row2 s ks b w V t W) : Row3 s (s.rounds ks (wordsN b.data.toList 64) t) w V 0 W := ⟨h.1, h.2.1, h.2.2.2.1, h.2.2.2.2.1, h.2.2.2.2.2.1, h.2.2.2.2.2.2⟩
theorem Row3.put {s r : St} {w W : World} {V t : Nat} (h : Row3 s r w V t W) (i : Nat) (v : Value) (hv : (mix8 r s t).setIfInBounds i v = mix8 r s (t + 1)) : Row3 s r w V (t + 1) (W.setCell ⟨V, i, none⟩ v).drew := by
  obtain ⟨h1, h2, h3, h4, h5, h6⟩ := h
  refine ⟨(h1.other (by omega) v).drew, (h2.other (by omega) v).drew, ?_, by simpa [World.setCell] using h4, h5, (h6.setCell (p := ⟨V, i, none⟩) (by simp; omega) v).drew⟩
  rw [← hv]
  exact (h3.set v).drew
set_option maxRecDepth 1000000 in
set_option maxHeartbeats 8000000 in
theorem block_any (s : St) (ks : List Nat) (b : ByteArray) (Bk : Nat) (w : World) (hb : b.size = 64) (hs : s.ok) (hBk : Bk < w.heap.size) (hk : ∀ j, j < 64 → w.cell? ⟨Bk, j, none⟩ = some (.int .u32 ((ks.getD j 0 : Nat) : Int))) (hkl : ∀ j, ks.getD j 0 < 4294967296) :
    Calls Try.prog 51 #[.agg s.vals, .pointer (some ⟨Bk, 0, none⟩), .string b] w fun e w' => e = .returned (.agg (blockN s ks b.data.toList).vals) ∧ Below w.heap.size w w' := by
  go_enter Try.func51, Try.ntmps51
  go_wp2
  obtain ⟨a1, a2, a3, a4, a5⟩ := alloc3 w (.cells s.vals 75) (.cells zero8 75) (.cells (rowV []) 73)
  have hR := Aside0.mk (show Row1 s b w 0 (((w.alloc (.cells s.vals 75)).alloc (.cells zero8 75)).alloc (.cells (rowV []) 73)) from ⟨a1, a2, a3, by omega, a5⟩)
  clear a1 a2 a3 a4 a5
  obtain ⟨w3, hw3⟩ : ∃ w3, w3 = ((w.alloc (.cells s.vals 75)).alloc (.cells zero8 75)).alloc (.cells (rowV []) 73) := ⟨_, rfl⟩
  rw [← hw3] at hR
  rw [show ((w.alloc (.cells s.vals 75)).alloc (.cells #[.int .u32 0, .int .u32 0, .int .u32 0, .int .u32 0, .int .u32 0, .int .u32 0, .int .u32 0, .int .u32 0] 75)).alloc (.cells #[.int .u32 0, .int .u32 0, .int .u32 0, .int .u32 0, .int .u32 0, .int .u32 0, .int .u32 0, .int .u32 0, .int .u32 0, .int .u32 0, .int .u32 0, .int .u32 0, .int .u32 0, .int .u32 0, .int .u32 0, .int .u32 0, .int .u32 0, .int .u32 0, .int .u32 0, .int .u32 0, .int .u32 0, .int .u32 0, .int .u32 0, .int .u32 0, .int .u32 0, .int .u32 0, .int .u32 0, .int .u32 0, .int .u32 0, .int .u32 0, .int .u32 0, .int .u32 0, .int .u32 0, .int .u32 0, .int .u32 0, .int .u32 0, .int .u32 0, .int .u32 0, .int .u32 0, .int .u32 0, .int .u32 0, .int .u32 0, .int .u32 0, .int .u32 0, .int .u32 0, .int .u32 0, .int .u32 0, .int .u32 0, .int .u32 0, .int .u32 0, .int .u32 0, .int .u32 0, .int .u32 0, .int .u32 0, .int .u32 0, .int .u32 0, .int .u32 0, .int .u32 0, .int .u32 0, .int .u32 0, .int .u32 0, .int .u32 0, .int .u32 0, .int .u32 0] 73) = w3 from hw3.symm]
  clear hw3
  go_loopw [17] (fun i wr => ∃ t : Nat, t ≤ 64 ∧ i = .int .i64 t ∧ Aside0 (Row1 s b w t wr)) (fun i _ => 64 - (intOf i).toNat)
  case atStart => exact ⟨0, Nat.zero_le _, rfl, hR⟩
  case round =>
    obtain ⟨t, ht, rfl, HR⟩ := hrel
    by_cases h64 : t < 64
    · by_cases h16 : t < 16
      · have hlen := wordsN_len b.data.toList t
        obtain ⟨c1, f1⟩ := HR.out.2.2.1.at (rowV_at _ (by omega) t h64)
        have g1 : (wordsN b.data.toList t).getD t 0 = 0 := by rw [List.getD_eq_getElem?_getD, List.getElem?_eq_none (by omega)]; rfl
        rw [g1] at c1
        clear hlen g1
        have i0 : (0 : Int) ≤ (t : Int) := by omega
        have i1 : (t : Int) < 64 := by omega
        have x0 := idx_str Try.underlying9 b (4 * (t : Int)) (4 * t) (by omega) (by omega)
        have x1 := idx_str Try.underlying9 b (4 * (t : Int) + 1) (4 * t + 1) (by omega) (by omega)
        have x2 := idx_str Try.underlying9 b (4 * (t : Int) + 2) (4 * t + 2) (by omega) (by omega)
        have x3 := idx_str Try.underlying9 b (4 * (t : Int) + 3) (4 * t + 3) (by omega) (by omega)
        have hnx : nextW b.data.toList (wordsN b.data.toList t) = wordN b.data.toList t := by unfold nextW; rw [wordsN_len, if_pos h16]
        unfold wordN at hnx
        have d0 := (b.data.toList.getD (4 * t) 0).toNat_lt
        have d1 := (b.data.toList.getD (4 * t + 1) 0).toNat_lt
        have d2 := (b.data.toList.getD (4 * t + 2) 0).toNat_lt
        have d3 := (b.data.toList.getD (4 * t + 3) 0).toNat_lt
        generalize (b.data.toList.getD (4 * t) 0).toNat = v0 at *
        generalize (b.data.toList.getD (4 * t + 1) 0).toNat = v1 at *
        generalize (b.data.toList.getD (4 * t + 2) 0).toNat = v2 at *
        generalize (b.data.toList.getD (4 * t + 3) 0).toNat = v3 at *
        have HNX := Aside0.mk hnx
        clear hnx
        have y0 : (v0 : Int) < 256 := by omega
        have y1 : (v1 : Int) < 256 := by omega
        have y2 : (v2 : Int) < 256 := by omega
        have y3 : (v3 : Int) < 256 := by omega
        have HB64 := Aside0.mk hb
        clear hb
        go_wp2
        go_region
        go_wp2
        refine ⟨⟨t + 1, by omega, by go_num, Aside0.mk ?_⟩, by simp [intOf]; omega⟩
        rw [word_or v0 v1 v2 v3 d0 d1 d2 d3, ← HNX.out]
        exact HR.out.put h64
      · have hlen := wordsN_len b.data.toList t
        obtain ⟨cx, fx⟩ := HR.out.2.2.1.at (rowV_at _ (by omega) (t - 15) (by omega))
        obtain ⟨cy, fy⟩ := HR.out.2.2.1.at (rowV_at _ (by omega) (t - 2) (by omega))
        obtain ⟨cp, fp⟩ := HR.out.2.2.1.at (rowV_at _ (by omega) (t - 7) (by omega))
        obtain ⟨cq, fq⟩ := HR.out.2.2.1.at (rowV_at _ (by omega) (t - 16) (by omega))
        obtain ⟨c0, f0⟩ := HR.out.2.2.1.at (rowV_at _ (by omega) t (by omega))
        have hnx : nextW b.data.toList (wordsN b.data.toList t) = add32 (add32 (add32 (rotsN ((wordsN b.data.toList t).getD (t - 2) 0) [17, 19] ^^^ (wordsN b.data.toList t).getD (t - 2) 0 / 1024) ((wordsN b.data.toList t).getD (t - 7) 0)) (rotsN ((wordsN b.data.toList t).getD (t - 15) 0) [7, 18] ^^^ (wordsN b.data.toList t).getD (t - 15) 0 / 8)) ((wordsN b.data.toList t).getD (t - 16) 0) := by
          unfold nextW
          rw [hlen, if_neg h16]
        have bx := wordsN_lt b.data.toList t (t - 15)
        have by_ := wordsN_lt b.data.toList t (t - 2)
        have bp := wordsN_lt b.data.toList t (t - 7)
        have bq := wordsN_lt b.data.toList t (t - 16)
        generalize (wordsN b.data.toList t).getD (t - 15) 0 = X at *
        generalize (wordsN b.data.toList t).getD (t - 2) 0 = Y at *
        generalize (wordsN b.data.toList t).getD (t - 7) 0 = P at *
        generalize (wordsN b.data.toList t).getD (t - 16) 0 = Q at *
        generalize (wordsN b.data.toList t).getD t 0 = Z at *
        have HNX := Aside0.mk hnx
        have hlt := HR.out.2.2.2.1
        have hrY := fun N W h => rots_any Y by_ N 2 [17, 19] rfl (by decide) (by decide) W h
        have hrX := fun N W h => rots_any X bx N 2 [7, 18] rfl (by decide) (by decide) W h
        have HRY := Lib.hid hrY
        have HRX := Lib.hid hrX
        clear hnx hlen hrY hrX hb
        have i0 : (0 : Int) ≤ (t : Int) - 16 := by omega
        have i1 : (t : Int) < 64 := by omega
        have m1 : IntKind.i64.wrap ((t : Int) - 7) = (t : Int) - 7 := IntWalk.i64_in _ (by omega)
        have m2 : (0 : Int) ≤ (t : Int) - 7 := by omega
        have m3 : (t : Int) - 7 < 64 := by omega
        have m4 : ((t : Int) - 7).toNat = t - 7 := by omega
        have m5 : IntKind.i64.wrap ((t : Int) - 16) = (t : Int) - 16 := IntWalk.i64_in _ (by omega)
        have m8 : (7 : Int) ≤ (t : Int) := by omega
        have m9 : (16 : Int) ≤ (t : Int) := by omega
        have m6 : (t : Int) - 16 < 64 := by omega
        have m7 : ((t : Int) - 16).toNat = t - 16 := by omega
        have ne1 : w.heap.size + 1 + 1 ≠ wr.heap.size := by omega
        have ne2 : w.heap.size + 1 + 1 ≠ wr.heap.size + 1 := by omega
        have M := Lib.hid (And.intro m1 (And.intro m4 (And.intro m5 m7)))
        clear m1 m4 m5 m7
        go_wp2
        go_region
        go_wp2
        obtain ⟨m1, m4, m5, m7⟩ := M.out
        have n7 : t ≠ t - 7 := by omega
        have n16 : t ≠ t - 16 := by omega
        go_region_held3 (fun w' => w'.cell? ⟨w.heap.size + 1 + 1, t - 7, none⟩ = some (.int .u32 (P : Int)) ∧ w'.cell? ⟨w.heap.size + 1 + 1, t - 16, none⟩ = some (.int .u32 (Q : Int)) ∧ w'.cell? ⟨w.heap.size + 1 + 1, t, none⟩ = some (valAt w' ⟨w.heap.size + 1 + 1, t, none⟩) ∧ w'.frozen? ⟨w.heap.size + 1 + 1, t, none⟩ = false)
          (exact ⟨by simp [*, World.cell?_alloc_some, World.cell?_setCell_other], by simp [*, World.cell?_alloc_some, World.cell?_setCell_other], valAt_of (by first | (simp [*, World.cell?_alloc_some]; done) | exact isSome_set (by simp [*, World.cell?_alloc_some])), by simp [*, frozen?_alloc_cells]⟩)
          (first | (go_at_call 68; (with_reducible refine (HRY.out _ _ (by intro j hj; rcases (by omega : j = 0 ∨ j = 1) with rfl | rfl <;> simp)).mono ?_); rintro e w' ⟨rfl, rfl⟩) | (go_at_call 68; (with_reducible refine (HRX.out _ _ (by intro j hj; rcases (by omega : j = 0 ∨ j = 1) with rfl | rfl <;> simp)).mono ?_); rintro e w' ⟨rfl, rfl⟩))
        all_goals
          go_wp2
          refine ⟨⟨t + 1, by omega, by go_num, Aside0.mk ?_⟩, by simp [intOf]; omega⟩
          rw [step_val X Y P Q _ _ bx by_ (rotsN_lt Y by_ _) (rotsN_lt X bx _), ← HNX.out]
          exact Row1.draws (Row1.draws (Row1.put0 (HR.out.more.more) h64))
    · obtain rfl : t = 64 := by omega
      rw [show ((64 : Nat) : Int) = 64 from rfl]
      have hst := HR.out.1
      have hlt := HR.out.2.2.2.1
      unfold St.vals at hst
      obtain ⟨p0, p1, p2, p3, p4, p5, p6, p7⟩ := qc8 hst
      obtain ⟨z0, z1, z2, z3, z4, z5, z6, z7⟩ := qf8 hst
      have HST := Aside0.mk hst
      clear hst
      have HS := Aside0.mk hs
      have HK := Aside0.mk hk
      have HKL := Aside0.mk hkl
      clear hs hk hkl
      go_wp2
      obtain ⟨V, hV⟩ : ∃ V, V = wr.heap.size := ⟨_, rfl⟩
      have hR2 := Aside0.mk (Row2.start (ks := ks) HR.out)
      rw [← hV] at hR2 ⊢
      obtain ⟨w4, hw4⟩ : ∃ w4, w4 = wr.alloc (.cells s.vals 75) := ⟨_, rfl⟩
      rw [← hw4] at hR2
      unfold St.vals at hw4
      rw [← hw4]
      clear hw4 HR HST p0 p1 p2 p3 p4 p5 p6 p7 z0 z1 z2 z3 z4 z5 z6 z7 hV
      obtain ⟨wo, rfl⟩ : ∃ wo : World, wo = wr := ⟨_, rfl⟩
      go_loopw [90] (fun i W => ∃ t : Nat, t ≤ 64 ∧ i = .int .i64 t ∧ Aside0 (Row2 s ks b w V t W)) (fun i _ => 64 - (intOf i).toNat)
      case atStart => exact ⟨0, Nat.zero_le _, rfl, hR2⟩
      case round =>
        obtain ⟨t, ht, rfl, HR⟩ := hrel
        by_cases h64' : t < 64
        · have hok := St.rounds_ok s ks (wordsN b.data.toList 64) HS.out t
          have hv := HR.out.2.2.2.1
          have hrd : s.rounds ks (wordsN b.data.toList 64) (t + 1) = (s.rounds ks (wordsN b.data.toList 64) t).next (ks.getD t 0) ((wordsN b.data.toList 64).getD t 0) := rfl
          have hcw := (HR.out.2.2.1.at (rowV_at _ (by rw [wordsN_len]; omega) t h64')).1
          have hck := (HR.out.2.2.2.2.2.2.cell (p := ⟨Bk, t, none⟩) hBk).trans (HK.out t h64')
          have bk := HKL.out t
          have bw := wordsN_lt b.data.toList 64 t
          generalize s.rounds ks (wordsN b.data.toList 64) t = r at *
          generalize ks.getD t 0 = k at *
          generalize (wordsN b.data.toList 64).getD t 0 = x at *
          obtain ⟨ra, rb, rc, rd, re, rf, rg, rh⟩ := r
          obtain ⟨ba, bb, bc, bd, be, bf, bg, bh⟩ := hok
          simp only at ba bb bc bd be bf bg bh
          unfold St.vals at hv
          simp only at hv
          obtain ⟨p0, p1, p2, p3, p4, p5, p6, p7⟩ := qc8 hv
          obtain ⟨z0, z1, z2, z3, z4, z5, z6, z7⟩ := qf8 hv
          have HRD := Aside0.mk hrd
          have hlt2 := HR.out.2.2.2.2.1
          have hlt3 := HR.out.2.2.2.2.2.1
          have HRE := Lib.hid (fun N W h => rots_any re be N 3 [6, 11, 25] rfl (by decide) (by decide) W h)
          have HRA := Lib.hid (fun N W h => rots_any ra ba N 3 [2, 13, 22] rfl (by decide) (by decide) W h)
          have i0 : (0 : Int) ≤ (t : Int) := by omega
          have i1 : (t : Int) < 64 := by omega
          clear hv hrd
          go_wp2
          go_region_held3 (fun W' => W'.cell? ⟨V, 4, none⟩ = some (.int .u32 (re : Int)) ∧ W'.cell? ⟨V, 5, none⟩ = some (.int .u32 (rf : Int)) ∧ W'.cell? ⟨V, 6, none⟩ = some (.int .u32 (rg : Int)) ∧ W'.cell? ⟨V, 7, none⟩ = some (.int .u32 (rh : Int)) ∧ W'.cell? ⟨Bk, t, none⟩ = some (.int .u32 (k : Int)) ∧ W'.cell? ⟨w.heap.size + 1 + 1, t, none⟩ = some (.int .u32 (x : Int)))
            (exact ⟨by simp [*, World.cell?_alloc_some], by simp [*, World.cell?_alloc_some], by simp [*, World.cell?_alloc_some], by simp [*, World.cell?_alloc_some], by simp [*, World.cell?_alloc_some], by simp [*, World.cell?_alloc_some]⟩)
            (first | (go_at_call 68; (with_reducible refine (HRE.out _ _ (by intro j hj; rcases (by omega : j = 0 ∨ j = 1 ∨ j = 2) with rfl | rfl | rfl <;> simp)).mono ?_); rintro e w' ⟨rfl, rfl⟩))
          go_wp2
          go_region_held3 (fun W' => W'.cell? ⟨V, 0, none⟩ = some (.int .u32 (ra : Int)) ∧ W'.cell? ⟨V, 1, none⟩ = some (.int .u32 (rb : Int)) ∧ W'.cell? ⟨V, 2, none⟩ = some (.int .u32 (rc : Int)))
            (exact ⟨by simp [*, World.cell?_alloc_some], by simp [*, World.cell?_alloc_some], by simp [*, World.cell?_alloc_some]⟩)
            (first | (go_at_call 68; (with_reducible refine (HRA.out _ _ (by intro j hj; rcases (by omega : j = 0 ∨ j = 1 ∨ j = 2) with rfl | rfl | rfl <;> simp)).mono ?_); rintro e w' ⟨rfl, rfl⟩))
          go_wp2
          go_roundw
          case rel =>
            refine ⟨t + 1, by omega, by go_num, Aside0.mk ?_⟩
            rw [bits_ch re rf rg be bf bg, bits_maj ra rb rc ba bb bc, sum_a, sum_e]
            exact Row2.draws (Row2.draws (Row2.more (Row2.more (Row2.put HR.out HRD.out) _) _))
          case measure => simp [intOf]; omega
        · obtain rfl : t = 64 := by omega
          rw [show ((64 : Nat) : Int) = 64 from rfl]
          have hok := St.rounds_ok s ks (wordsN b.data.toList 64) HS.out 64
          have hR3 := Aside0.mk (Row3.start HR.out)
          have hbk : blockN s ks b.data.toList = (s.rounds ks (wordsN b.data.toList 64) 64).plus s := rfl
          have HBK := Aside0.mk hbk
          clear hbk HR
          obtain ⟨wp, rfl⟩ : ∃ wp : World, wp = wr := ⟨_, rfl⟩
          generalize s.rounds ks (wordsN b.data.toList 64) 64 = r at *
          have HOK := Aside0.mk hok
          clear hok
          go_wp2
          go_loopw [164] (fun i W => ∃ t : Nat, t ≤ 8 ∧ i = .int .i64 t ∧ Aside0 (Row3 s r w V t W)) (fun i _ => 8 - (intOf i).toNat)
          case atStart => exact ⟨0, Nat.zero_le _, rfl, hR3⟩
          case round =>
            obtain ⟨t, ht, rfl, HR⟩ := hrel
            by_cases h8 : t < 8
            · have hx := HR.out.1
              have hv := HR.out.2.2.1
              have HNE := Aside0.mk (show w.heap.size ≠ V by have := HR.out.2.2.2.2.1; omega)
              unfold St.vals at hx
              rcases (by omega : t = 0 ∨ t = 1 ∨ t = 2 ∨ t = 3 ∨ t = 4 ∨ t = 5 ∨ t = 6 ∨ t = 7) with rfl | rfl | rfl | rfl | rfl | rfl | rfl | rfl
              all_goals
                simp only [mix8] at hv
                simp only [Nat.not_lt_zero, Nat.reduceLT, if_true, if_false] at hv
                obtain ⟨p0, p1, p2, p3, p4, p5, p6, p7⟩ := qc8 hx
                obtain ⟨q0, q1, q2, q3, q4, q5, q6, q7⟩ := qc8 hv
                obtain ⟨z0, z1, z2, z3, z4, z5, z6, z7⟩ := qf8 hv
                have HV := Aside0.mk hv
                clear hx hv
                go_wp2
                go_region
                go_wp2
                go_roundw
                case rel =>
                  first | (refine ⟨1, by decide, rfl, Aside0.mk ?_⟩; rw [wrap_add]; exact Row3.put HR.out 0 _ (by simp [mix8])) | (refine ⟨2, by decide, rfl, Aside0.mk ?_⟩; rw [wrap_add]; exact Row3.put HR.out 1 _ (by simp [mix8])) | (refine ⟨3, by decide, rfl, Aside0.mk ?_⟩; rw [wrap_add]; exact Row3.put HR.out 2 _ (by simp [mix8])) | (refine ⟨4, by decide, rfl, Aside0.mk ?_⟩; rw [wrap_add]; exact Row3.put HR.out 3 _ (by simp [mix8])) | (refine ⟨5, by decide, rfl, Aside0.mk ?_⟩; rw [wrap_add]; exact Row3.put HR.out 4 _ (by simp [mix8])) | (refine ⟨6, by decide, rfl, Aside0.mk ?_⟩; rw [wrap_add]; exact Row3.put HR.out 5 _ (by simp [mix8])) | (refine ⟨7, by decide, rfl, Aside0.mk ?_⟩; rw [wrap_add]; exact Row3.put HR.out 6 _ (by simp [mix8])) | (refine ⟨8, by decide, rfl, Aside0.mk ?_⟩; rw [wrap_add]; exact Row3.put HR.out 7 _ (by simp [mix8]))
                case measure => simp [intOf]
            · obtain rfl : t = 8 := by omega
              rw [show ((8 : Nat) : Int) = 8 from rfl]
              have hv := HR.out.2.2.1
              have hz := HR.out.2.1
              have hlt4 := HR.out.2.2.2.2.1
              simp only [mix8] at hv
              simp only [Nat.reduceLT, if_true] at hv
              unfold zero8 at hz
              obtain ⟨q0, q1, q2, q3, q4, q5, q6, q7⟩ := qc8 hv
              obtain ⟨x0, x1, x2, x3, x4, x5, x6, x7⟩ := qc8 hz
              obtain ⟨y0, y1, y2, y3, y4, y5, y6, y7⟩ := qf8 hz
              have HZ := Aside0.mk hz
              clear hv hz
              go_wp2
              rw [HBK.out]
              refine bodyPost_ret (v := .agg (r.plus s).vals) ?_ rfl ?_
              · have hq := set8 (V := w.heap.size + 1) HZ.out (.int .u32 ((add32 r.a s.a : Nat) : Int)) (.int .u32 ((add32 r.b s.b : Nat) : Int)) (.int .u32 ((add32 r.c s.c : Nat) : Int)) (.int .u32 ((add32 r.d s.d : Nat) : Int)) (.int .u32 ((add32 r.e s.e : Nat) : Int)) (.int .u32 ((add32 r.f s.f : Nat) : Int)) (.int .u32 ((add32 r.g s.g : Nat) : Int)) (.int .u32 ((add32 r.h s.h : Nat) : Int))
                obtain ⟨u0, u1, u2, u3, u4, u5, u6, u7⟩ := qc8 hq
                simp [results, Try.results51, go_sem, u0, u1, u2, u3, u4, u5, u6, u7, St.plus, St.vals]
              · exact ⟨rfl, below8 HR.out.2.2.2.2.2 (by omega) _ _ _ _ _ _ _ _⟩
end Go.Proofs.Ytkcjekboakoejaa.Print
