/- Contract of sha.Sum. -/
import Derived.Test.YtkcjekboakoejaaHSTabs
import Derived.Laws.IdiomStrings
namespace Go.Proofs.Ytkcjekboakoejaa.Print
open Go Go.RowKit Go.Proofs.YtkcjekboakoejaaW.PrintWords
set_option linter.unusedVariables false
set_option linter.unusedSimpArgs false

/-- The padding ahead of the length: one byte 128 and zeros. -/
def padR (n : Nat) : ByteArray := ⟨(Lib.repeatL [0] ((119 - n % 64) % 64)).toArray⟩
/-- The message with k bytes of its length (in bits). -/
def padK (a : ByteArray) : Nat → ByteArray
  | 0 => a ++ ⟨#[128]⟩ ++ padR a.size
  | k + 1 => padK a k ++ ⟨#[UInt8.ofNat (a.size * 8 / 2 ^ (56 - 8 * k))]⟩
theorem St.plus_ok (s t : St) : (s.plus t).ok := ⟨add32_lt _ _, add32_lt _ _, add32_lt _ _, add32_lt _ _, add32_lt _ _, add32_lt _ _, add32_lt _ _, add32_lt _ _⟩
def wordAt (s : St) : Nat → Nat
  | 0 => s.a
  | 1 => s.b
  | 2 => s.c
  | 3 => s.d
  | 4 => s.e
  | 5 => s.f
  | 6 => s.g
  | _ => s.h
theorem idx_row8 (s : St) (j : Nat) (hj : j < 8) (W : World) : (Instr.index 75 (.agg #[.int .u32 s.a, .int .u32 s.b, .int .u32 s.c, .int .u32 s.d, .int .u32 s.e, .int .u32 s.f, .int .u32 s.g, .int .u32 s.h]) (.int .i64 (j : Int))).run Try.prog W = .ok (.int .u32 (wordAt s j : Nat)) W := by
  rcases (by omega : j = 0 ∨ j = 1 ∨ j = 2 ∨ j = 3 ∨ j = 4 ∨ j = 5 ∨ j = 6 ∨ j = 7) with rfl | rfl | rfl | rfl | rfl | rfl | rfl | rfl <;>
    simp [Instr.index, asIntOf, run_underlying Try.underlying75, wordAt, go_sem]
theorem bytes_of_row {w : World} {base : Nat} {v : Value} {l : List UInt8} (h : w.ownsRow base 5 1 v l.length (l.map (fun x : UInt8 => Value.int .u8 x.toNat))) (hl : l ≠ []) :
    ∃ g cap, v = .slice (some ⟨g, 0, none⟩) l.length cap ∧ (convert 59 9 (.slice (some ⟨g, 0, none⟩) l.length cap)).run Try.prog w = .ok (.string ⟨l.toArray⟩) w := by
  have h0 := h
  rcases h.2 with ⟨hv, hn⟩ | ⟨g, cap, cur, hv, hb, hg, hnc, _, _, ht⟩
  · exact absurd (List.eq_nil_of_length_eq_zero hn) hl
  · refine ⟨g, cap, hv, run_convert_bytes_back w 59 9 5 ⟨g, 0, none⟩ cap l Try.underlying59 Try.underlying5 Try.underlying9 (fun j hj => ?_)⟩
    exact h0.cells (g := g) (by rw [hv]; rfl) j (.int .u8 (l[j].toNat : Int)) (by simp [hj])
def outL (s : St) : Nat → List UInt8
  | 0 => []
  | j + 1 => outL s j ++ [UInt8.ofNat (wordAt s j / 16777216), UInt8.ofNat (wordAt s j / 65536), UInt8.ofNat (wordAt s j / 256), UInt8.ofNat (wordAt s j)]
def szOf : Value → Nat
  | .string b => b.size
  | _ => 0
def runN (ks : List Nat) : Nat → St → ByteArray → St
  | 0, s, _ => s
  | m + 1, s, p => runN ks m (blockN s ks (p.extract 0 64).data.toList) (p.extract 64 p.size)
def ksN : List Nat := (collect 310).map cubeN
def h0N : List Nat := (collect 18).map squareN
def st0 : St := ⟨h0N.getD 0 0, h0N.getD 1 0, h0N.getD 2 0, h0N.getD 3 0, h0N.getD 4 0, h0N.getD 5 0, h0N.getD 6 0, h0N.getD 7 0⟩
/-- The digest. -/
def sumN (a : ByteArray) : ByteArray := ⟨(outL (runN ksN ((padK a 8).size / 64) st0 (padK a 8)) 8).toArray⟩
theorem has_setCells {B : Nat} {T : TypeId} : ∀ (vs : List Value) (o : Nat) (w : World) (c : Array Value), Has w B c T → o + vs.length ≤ c.size →
    ∃ c', Has (w.setCells B o vs) B c' T ∧ c'.size = c.size ∧ (∀ j, j < o → c'[j]? = c[j]?) ∧ ∀ j, j < vs.length → c'[o + j]? = vs[j]?
  | [], o, w, c, h, _ => ⟨c, h, rfl, fun _ _ => rfl, fun j hj => absurd hj (by simp)⟩
  | v :: r, o, w, c, h, hl => by
    have hl' : o + (r.length + 1) ≤ c.size := hl
    obtain ⟨c', h1, h2, h3, h4⟩ := has_setCells r (o + 1) (w.setCell ⟨B, o, none⟩ v) _ (h.set v) (by rw [Array.size_setIfInBounds]; omega)
    refine ⟨c', h1, by rw [h2, Array.size_setIfInBounds], fun j hj => ?_, fun j hj => ?_⟩
    · rw [h3 j (by omega), Array.getElem?_setIfInBounds_ne (by omega)]
    · cases j with
      | zero => rw [Nat.add_zero, h3 o (by omega), Array.getElem?_setIfInBounds_self_of_lt (by omega)]; rfl
      | succ j =>
        have := h4 j (by simpa using hj)
        rw [show o + (j + 1) = o + 1 + j by omega, this]
        simp
theorem Has.all {w : World} {B : Nat} {c vs : Array Value} {T : TypeId} (h : Has w B c T) (hs : vs.size = c.size) : Has (w.setCells B 0 vs.toList) B vs T := by
  obtain ⟨c', h1, h2, _, h4⟩ := has_setCells vs.toList 0 w c h (by simp; omega)
  have : c' = vs := by
    apply Array.ext_getElem?
    intro j
    by_cases hj : j < vs.size
    · have := h4 j (by simpa using hj)
      rw [Nat.zero_add] at this
      rw [this]; simp
    · rw [Array.getElem?_eq_none (by omega), Array.getElem?_eq_none (by omega)]
  subst this; exact h1
theorem below_setCells {n B : Nat} {w : World} : ∀ (vs : List Value) (o : Nat) (W : World), Below n w W → n ≤ B → Below n w (W.setCells B o vs)
  | [], _, _, h, _ => h
  | v :: r, o, W, h, hn => below_setCells r (o + 1) _ (h.setCell (p := ⟨B, o, none⟩) hn v) hn
theorem heap_setCells_other {B k : Nat} (hk : k ≠ B) : ∀ (vs : List Value) (o : Nat) (W : World), (W.setCells B o vs).heap[k]? = W.heap[k]?
  | [], _, _ => rfl
  | v :: r, o, W => (heap_setCells_other hk r (o + 1) _).trans (heap_setCell_other W _ k v hk)
theorem size_setCells {B : Nat} : ∀ (vs : List Value) (o : Nat) (W : World), (W.setCells B o vs).heap.size = W.heap.size
  | [], _, _ => rfl
  | v :: r, o, W => (size_setCells r (o + 1) _).trans (by simp)

theorem cubeN_lt (p : Nat) : cubeN p < 4294967296 := Nat.mod_lt _ (by decide)
theorem squareN_lt (p : Nat) : squareN p < 4294967296 := Nat.mod_lt _ (by decide)
theorem h0_len : h0N.length = 8 := by unfold h0N; rw [List.length_map]; decide +kernel
theorem ks_len : ksN.length = 64 := by unfold ksN; rw [List.length_map]; decide +kernel
theorem h0_vals : rowN 8 h0N = st0.vals := by
  have h := h0_len
  unfold st0 St.vals rowN
  match h0N, h with
  | [a, b, c, d, e, f, g, i], _ => rfl
theorem ks_lt (j : Nat) : ksN.getD j 0 < 4294967296 := by
  rw [List.getD_eq_getElem?_getD]
  by_cases hj : j < ksN.length
  · rw [List.getElem?_eq_getElem hj]
    show ksN[j] < _
    have := List.getElem_mem hj
    unfold ksN at this
    obtain ⟨p, _, e⟩ := List.mem_map.1 this
    unfold ksN
    rw [← e]; exact cubeN_lt p
  · rw [List.getElem?_eq_none (by omega)]; decide
theorem h0_lt (j : Nat) : h0N.getD j 0 < 4294967296 := by
  rw [List.getD_eq_getElem?_getD]
  by_cases hj : j < h0N.length
  · rw [List.getElem?_eq_getElem hj]
    show h0N[j] < _
    have := List.getElem_mem hj
    unfold h0N at this
    obtain ⟨p, _, e⟩ := List.mem_map.1 this
    unfold h0N
    rw [← e]; exact squareN_lt p
  · rw [List.getElem?_eq_none (by omega)]; decide
theorem st0_ok : st0.ok := ⟨h0_lt 0, h0_lt 1, h0_lt 2, h0_lt 3, h0_lt 4, h0_lt 5, h0_lt 6, h0_lt 7⟩

/-- Sum's world: the boxes of the constants (K) and of the state (V). -/
def SumW (w : World) (K V : Nat) (s : St) (W : World) : Prop :=
  Has W K (rowN 64 ksN) 73 ∧ Has W V s.vals 75 ∧ Below w.heap.size w W ∧ w.heap.size ≤ K ∧ w.heap.size ≤ V ∧ K ≠ V ∧ K < W.heap.size ∧ V < W.heap.size ∧ s.ok
theorem SumW.more {w W : World} {K V : Nat} {s : St} (h : SumW w K V s W) (o : Obj) : SumW w K V s (W.alloc o) :=
  ⟨(Below.heap_alloc W o K h.2.2.2.2.2.2.1).trans h.1, (Below.heap_alloc W o V h.2.2.2.2.2.2.2.1).trans h.2.1, h.2.2.1.alloc h.2.2.1.size o, h.2.2.2.1, h.2.2.2.2.1, h.2.2.2.2.2.1,
    by have := h.2.2.2.2.2.2.1; simp; omega, by have := h.2.2.2.2.2.2.2.1; simp; omega, h.2.2.2.2.2.2.2.2⟩
theorem SumW.draws {w W : World} {K V : Nat} {s : St} (h : SumW w K V s W) : SumW w K V s W.drew := ⟨h.1, h.2.1, h.2.2.1.drew, h.2.2.2⟩
theorem SumW.later {w W W' : World} {K V : Nat} {s : St} (h : SumW w K V s W) (hb : Below W.heap.size W W') : SumW w K V s W' :=
  ⟨(hb.block K h.2.2.2.2.2.2.1).trans h.1, (hb.block V h.2.2.2.2.2.2.2.1).trans h.2.1, h.2.2.1.trans (hb.mono h.2.2.1.size), h.2.2.2.1, h.2.2.2.2.1, h.2.2.2.2.2.1,
    Nat.lt_of_lt_of_le h.2.2.2.2.2.2.1 hb.size, Nat.lt_of_lt_of_le h.2.2.2.2.2.2.2.1 hb.size, h.2.2.2.2.2.2.2.2⟩
theorem SumW.put {w W : World} {K V : Nat} {s r : St} (h : SumW w K V s W) (hr : r.ok) : SumW w K V r ((((((((W.setCell ⟨V, 0, none⟩ (.int .u32 r.a)).setCell ⟨V, 1, none⟩ (.int .u32 r.b)).setCell ⟨V, 2, none⟩ (.int .u32 r.c)).setCell ⟨V, 3, none⟩ (.int .u32 r.d)).setCell ⟨V, 4, none⟩ (.int .u32 r.e)).setCell ⟨V, 5, none⟩ (.int .u32 r.f)).setCell ⟨V, 6, none⟩ (.int .u32 r.g)).setCell ⟨V, 7, none⟩ (.int .u32 r.h)) :=
  ⟨other8 h.1 h.2.2.2.2.2.1 _ _ _ _ _ _ _ _, set8 h.2.1 _ _ _ _ _ _ _ _, below8 h.2.2.1 h.2.2.2.2.1 _ _ _ _ _ _ _ _, h.2.2.2.1, h.2.2.2.2.1, h.2.2.2.2.2.1, by have := h.2.2.2.2.2.2.1; simpa using this, by have := h.2.2.2.2.2.2.2.1; simpa using this, hr⟩
theorem sumW0 (w W : World) (hB : Below w.heap.size w W) (c1 c2 : Array Value) (h1 : c1.size = 64) (h2 : c2.size = 8) :
    SumW w W.heap.size (W.heap.size + 1) st0 ((((W.alloc (.cells c1 73)).alloc (.cells c2 75)).setCells W.heap.size 0 (rowN 64 ksN).toList).setCells (W.heap.size + 1) 0 (rowN 8 h0N).toList) := by
  have a2 : ((W.alloc (.cells c1 73)).alloc (.cells c2 75)).heap[W.heap.size + 1]? = some (.cells c2 75 (0, 0)) := heap_alloc2_new W _ _
  have a1 : ((W.alloc (.cells c1 73)).alloc (.cells c2 75)).heap[W.heap.size]? = some (.cells c1 73 (0, 0)) := heap_alloc2_old W _ _
  have hk : (rowN 64 ksN).size = 64 := rowN_size 64 _ (by rw [ks_len]; exact Nat.le_refl _)
  have hh : (rowN 8 h0N).size = 8 := rowN_size 8 _ (by rw [h0_len]; exact Nat.le_refl _)
  have b1 := Has.all (vs := rowN 64 ksN) a1 (by rw [hk, h1])
  have b2 := (heap_setCells_other (B := W.heap.size) (k := W.heap.size + 1) (by omega) (rowN 64 ksN).toList 0 _).trans a2
  have d2 := Has.all (vs := rowN 8 h0N) b2 (by rw [hh, h2])
  have d1 := (heap_setCells_other (B := W.heap.size + 1) (k := W.heap.size) (by omega) (rowN 8 h0N).toList 0 _).trans b1
  rw [h0_vals] at d2 ⊢
  have hz := hB.size
  refine ⟨by rw [h0_vals] at d1; exact d1, d2, below_setCells _ _ _ (below_setCells _ _ _ ((hB.alloc hz _).alloc (by simp; omega) _) hz) (by omega), hz, by omega, by omega, ?_, ?_, st0_ok⟩
  · rw [size_setCells, size_setCells]; simp <;> omega
  · rw [size_setCells, size_setCells]; simp <;> omega

theorem conv1 (x : Int) (W : World) : (convert 59 9 (.slice (some ⟨W.heap.size, 0, none⟩) 1 1)).run Try.prog (W.alloc (.cells #[.int .u8 x] 5)) = .ok (.string ⟨#[UInt8.ofNat x.toNat]⟩) (W.alloc (.cells #[.int .u8 x] 5)) := by
  refine run_convert_bytes_arg _ 59 5 Try.underlying59 Try.underlying5 W.heap.size 0 1 1 [x] rfl (fun i hi => ?_) 9 Try.underlying9
  obtain rfl : i = 0 := by omega
  exact (Has.at (show Has (W.alloc (.cells #[.int .u8 x] 5)) W.heap.size #[.int .u8 x] 5 from heap_alloc_new W _) rfl).1
theorem ofNat_mod (n : Nat) : UInt8.ofNat (n % 256) = UInt8.ofNat n := by
  apply UInt8.toNat_inj.1
  simp
theorem repeatL_len (l : List UInt8) : ∀ c, (Lib.repeatL l c).length = c * l.length
  | 0 => by simp [Lib.repeatL]
  | c + 1 => by
    have := repeatL_len l c
    simp only [Lib.repeatL, List.length_append, this]
    rw [Nat.add_mul]; omega
theorem padR_eq (n : Nat) : (padR n).size = (119 - n % 64) % 64 := by
  unfold padR
  show (Lib.repeatL [0] ((119 - n % 64) % 64)).toArray.size = _
  rw [List.size_toArray, repeatL_len]
  simp only [List.length_singleton, Nat.mul_one]
theorem padR_size (n : Nat) : (padR n).size ≤ 63 := by
  unfold padR
  show (Lib.repeatL [0] ((119 - n % 64) % 64)).toArray.size ≤ 63
  rw [List.size_toArray, repeatL_len]
  simp only [List.length_singleton, Nat.mul_one]
  omega
theorem padK_size (a : ByteArray) : ∀ k, (padK a k).size = a.size + 1 + (padR a.size).size + k
  | 0 => by show (a ++ ⟨#[128]⟩ ++ padR a.size).size = _; rw [ByteArray.size_append, ByteArray.size_append]; rfl
  | k + 1 => by
    show (padK a k ++ ⟨#[UInt8.ofNat (a.size * 8 / 2 ^ (56 - 8 * k))]⟩).size = _
    rw [ByteArray.size_append, padK_size a k]; rfl
theorem repeat_any (n : Nat) (W : World) : Calls Try.prog 50 #[.string ⟨#[0]⟩, .int .i64 ((119 - (n : Int) % 64) % 64)] W fun e w' => e = .returned (.string (padR n)) ∧ Below W.heap.size W w' := by
  obtain ⟨c, hc⟩ : ∃ c, c = (119 - n % 64) % 64 := ⟨_, rfl⟩
  have hi : ((119 - (n : Int) % 64) % 64) = (c : Int) := by omega
  have hp : padR n = ⟨(Lib.repeatL [0] c).toArray⟩ := by unfold padR; rw [← hc]
  have hl : c ≤ 63 := by omega
  rw [hi, hp]
  clear hi hp hc
  obtain ⟨s, hs⟩ : ∃ s : ByteArray, s = ⟨#[0]⟩ := ⟨_, rfl⟩
  have h1 : s.size = 1 := by rw [hs]; rfl
  have h3 : s.data.toList = [0] := by rw [hs]
  have h2 := Try.strings_Repeat s c W (by omega) (by rw [h1, Nat.one_mul]; omega)
  rw [h3] at h2
  rw [← hs]
  exact h2
theorem there_of {w : World} {B n : Nat} {c : Array Value} {T : TypeId} (h : w.heap[B]? = some (.cells c T (0, 0))) (hs : n = c.size) : w.there B 0 n := by
  subst hs
  exact Has.there h
theorem sum_info : (Try.prog.info? 5).map (fun i => (i.zero, i.size, i.bytes)) = some (some (.int .u8 0), 1, 1) := by kernel_rfl
set_option maxRecDepth 1000000 in
set_option maxHeartbeats 4000000 in
theorem sum_any (a : ByteArray) (ha : a.size ≤ 140737488355000) (w : World) : Calls Try.prog 34 #[.string a] w fun e w' => e = .returned (.string (sumN a)) ∧ Below w.heap.size w w' := by
  have hrep : ∀ (b : ByteArray) (n : Int) W, b = ⟨#[0]⟩ → n = ((119 - (a.size : Int) % 64) % 64) → Calls Try.prog 50 #[.string b, .int .i64 n] W fun e w' => e = .returned (.string (padR a.size)) ∧ Below W.heap.size W w' := fun b n W hb hn => by rw [hb, hn]; exact repeat_any a.size W
  have l1 : ¬ 9223372036854775807 < a.size + 1 := by omega
  have l2 : ¬ 9223372036854775807 < a.size + 1 + (padR a.size).size := by have := padR_size a.size; omega
  have HA := Aside0.mk ha
  clear ha
  obtain ⟨i0, hi, hz0, hz1, hz2⟩ := info_parts sum_info
  have hcs : ∀ W, Calls Try.prog 48 #[] W fun e w' => e = .returned (.agg (rowN 64 ksN)) ∧ Below W.heap.size W w' := constants_any
  have hbg : ∀ W, Calls Try.prog 49 #[] W fun e w' => e = .returned (.agg (rowN 8 h0N)) ∧ Below W.heap.size W w' := begin_any
  have H64 := Aside0.mk (rowN_size 64 ksN (by rw [ks_len]; exact Nat.le_refl _))
  have H8 := Aside0.mk (rowN_size 8 h0N (by rw [h0_len]; exact Nat.le_refl _))
  have O64 := Aside0.mk (rowN_one 64 ksN)
  have O8 := Aside0.mk (rowN_one 8 h0N)
  obtain ⟨R64, hR64⟩ : ∃ R, R = rowN 64 ksN := ⟨_, rfl⟩
  obtain ⟨R8, hR8⟩ : ∃ R, R = rowN 8 h0N := ⟨_, rfl⟩
  have E64 := Aside0.mk hR64
  have E8 := Aside0.mk hR8
  rw [← hR64] at hcs H64 O64
  rw [← hR8] at hbg H8 O8
  clear hR64 hR8
  have HREP := Lib.hid hrep
  clear hrep
  have i64 : (Try.prog.info? 73).map (·.size) = some R64.size := by rw [H64.out]; kernel_rfl
  have i8 : (Try.prog.info? 75).map (·.size) = some R8.size := by rw [H8.out]; kernel_rfl
  have I64 := Aside0.mk i64
  have I8 := Aside0.mk i8
  clear i64 i8
  go_enter Try.func34, Try.ntmps34
  go_wp2_with (first | (go_at_call 48; refine (hcs _).mono ?_; rintro e w1 ⟨rfl, hb1⟩; have HB1 := Aside0.mk hb1; clear hb1) | (go_at_call 49; refine (hbg _).mono ?_; rintro e w2 ⟨rfl, hb2⟩; have HB2 := Aside0.mk hb2; clear hb2) | (refine wpList_store_mid rfl 73 (.tmp 3) (.tmp 10) rfl w2.heap.size 0 R64 rfl rfl (there_of (heap_alloc2_old w2 _ _) H64.out) I64.out O64.out ?_) | (refine wpList_store_mid rfl 75 (.tmp 4) (.tmp 11) rfl (w2.heap.size + 1) 0 R8 rfl rfl (there_of ((heap_setCells_other (by omega) _ _ _).trans (heap_alloc2_new w2 _ _)) H8.out) I8.out O8.out ?_; obtain ⟨W4, hW4⟩ : ∃ W4, W4 = ((((w2.alloc (.cells #[.int .u32 0, .int .u32 0, .int .u32 0, .int .u32 0, .int .u32 0, .int .u32 0, .int .u32 0, .int .u32 0, .int .u32 0, .int .u32 0, .int .u32 0, .int .u32 0, .int .u32 0, .int .u32 0, .int .u32 0, .int .u32 0, .int .u32 0, .int .u32 0, .int .u32 0, .int .u32 0, .int .u32 0, .int .u32 0, .int .u32 0, .int .u32 0, .int .u32 0, .int .u32 0, .int .u32 0, .int .u32 0, .int .u32 0, .int .u32 0, .int .u32 0, .int .u32 0, .int .u32 0, .int .u32 0, .int .u32 0, .int .u32 0, .int .u32 0, .int .u32 0, .int .u32 0, .int .u32 0, .int .u32 0, .int .u32 0, .int .u32 0, .int .u32 0, .int .u32 0, .int .u32 0, .int .u32 0, .int .u32 0, .int .u32 0, .int .u32 0, .int .u32 0, .int .u32 0, .int .u32 0, .int .u32 0, .int .u32 0, .int .u32 0, .int .u32 0, .int .u32 0, .int .u32 0, .int .u32 0, .int .u32 0, .int .u32 0, .int .u32 0, .int .u32 0] 73)).alloc (.cells #[.int .u32 0, .int .u32 0, .int .u32 0, .int .u32 0, .int .u32 0, .int .u32 0, .int .u32 0, .int .u32 0] 75)).setCells w2.heap.size 0 R64.toList).setCells (w2.heap.size + 1) 0 R8.toList) := ⟨_, rfl⟩; have HS := Aside0.mk (show SumW w w2.heap.size (w2.heap.size + 1) st0 W4 by rw [hW4, E64.out, E8.out]; exact sumW0 w w2 (HB1.out.trans (HB2.out.mono HB1.out.size)) _ _ rfl rfl); rw [← hW4]; clear hW4) | (go_at_call 50; refine (HREP.out _ _ _ (by rfl) (by omega)).mono ?_; rintro e w5 ⟨rfl, hb5⟩; have HS5 := Aside0.mk (HS.out.later hb5); clear hb5 HS))
  have h0 : a ++ ⟨#[128]⟩ ++ padR a.size = padK a 0 := rfl
  rw [h0]
  have HK2 := Aside0.mk (show w.heap.size ≤ w2.heap.size from HS5.out.2.2.2.1)
  obtain ⟨K, hK⟩ : ∃ K, K = w2.heap.size := ⟨_, rfl⟩
  obtain ⟨V, hV⟩ : ∃ V, V = w2.heap.size + 1 := ⟨_, rfl⟩
  rw [← hV, ← hK] at HS5 ⊢
  clear hK hV h0 HK2 HB1 HB2 HREP hcs hbg I64 I8 H64 H8 O64 O8
  go_loopw [5, 6] (fun p i W => ∃ k : Nat, k ≤ 8 ∧ p = .string (padK a k) ∧ i = .int .i64 (56 - 8 * (k : Int)) ∧ Aside0 (SumW w K V st0 W)) (fun _ i _ => (64 + intOf i).toNat)
  case atStart => exact ⟨0, Nat.zero_le _, rfl, rfl, HS5⟩
  case round =>
    obtain ⟨k, hk, rfl, rfl, HR⟩ := hrel
    by_cases hk8 : k < 8
    · have hst : padK a (k + 1) = padK a k ++ ⟨#[UInt8.ofNat (a.size * 8 / 2 ^ (56 - 8 * k))]⟩ := rfl
      have HNX := Aside0.mk (show padK a (k + 1) = padK a (k + 1) from rfl)
      obtain ⟨q', hq'⟩ : ∃ q', q' = padK a (k + 1) := ⟨_, rfl⟩
      rw [← hq'] at hst
      have HQ := Aside0.mk hq'
      clear hq' HNX
      have l3 : ¬ 9223372036854775807 < (padK a k).size + 1 := by have := padR_size a.size; have := padK_size a k; have := HA.out; omega
      generalize padK a k = q at *
      have HST := Aside0.mk hst
      clear hst
      have hcv := fun x => conv1 x wr
      have hw : IntKind.u64.wrap ((a.size : Int) * 8) = (a.size : Int) * 8 := by rw [IntKind.wrap_u64]; have := HA.out; omega
      obtain ⟨k', hkk⟩ : ∃ k', k' = k := ⟨_, rfl⟩
      have HKK := Aside0.mk hkk
      clear hkk
      rcases (by omega : k = 0 ∨ k = 1 ∨ k = 2 ∨ k = 3 ∨ k = 4 ∨ k = 5 ∨ k = 6 ∨ k = 7) with rfl | rfl | rfl | rfl | rfl | rfl | rfl | rfl
      all_goals
        go_wp2
        refine ⟨⟨k' + 1, by have := HKK.out; omega, ?_, by rw [HKK.out]; rfl, Aside0.mk (HR.out.more _)⟩, by simp [intOf]⟩
        rw [HKK.out, ← HQ.out, HST.out, ofNat_mod]
        try simp
    · obtain rfl : k = 8 := by omega
      have hsz := padK_size a 8
      have hpe := padR_eq a.size
      obtain ⟨m, hm⟩ : ∃ m, (padK a 8).size = 64 * m := ⟨(padK a 8).size / 64, by omega⟩
      rw [show (56 - 8 * ((8 : Nat) : Int)) = -8 from rfl]
      have HSUM := Aside0.mk (show sumN a = ⟨(outL (runN ksN m st0 (padK a 8)) 8).toArray⟩ by unfold sumN; rw [hm, Nat.mul_div_cancel_left _ (by decide)])
      generalize padK a 8 = p0 at *
      clear hsz hpe
      have HM := Aside0.mk hm
      clear hm
      have HR0 := Aside0.mk HR.out
      clear HR
      obtain ⟨wo, rfl⟩ : ∃ wo : World, wo = wr := ⟨_, rfl⟩
      obtain ⟨FIN, hF⟩ : ∃ FIN, FIN = runN ksN m st0 p0 := ⟨_, rfl⟩
      have HF := Aside0.mk hF
      clear hF
      go_wp2
      go_loopw [5] (fun v W => ∃ (j : Nat) (p : ByteArray) (s : St), v = .string p ∧ Aside0 (p.size = 64 * j ∧ runN ksN j s p = FIN ∧ SumW w K V s W)) (fun v _ => szOf v)
      case atStart => exact ⟨m, p0, st0, rfl, Aside0.mk ⟨HM.out, HF.out.symm, HR0.out⟩⟩
      case round =>
        obtain ⟨j, p, s, rfl, HR⟩ := hrel
        cases j with
        | zero =>
          obtain rfl : p = ⟨#[]⟩ := by
            have h := HR.out.1
            obtain ⟨d⟩ := p
            have : d.size = 0 := h
            rw [Array.eq_empty_of_size_eq_zero this]
          obtain rfl : s = FIN := HR.out.2.1
          have HS := Aside0.mk HR.out.2.2
          clear HR
          have hv := HS.out.2.1
          unfold St.vals at hv
          obtain ⟨p0, p1, p2, p3, p4, p5, p6, p7⟩ := qc8 hv
          clear hv
          go_wp2
          go_loopw [7, 45] (fun v i W => ∃ j : Nat, j ≤ 8 ∧ i = .int .i64 j ∧ Aside0 (W.ownsRow w.heap.size 5 1 v (4 * j) ((outL s j).map (fun x : UInt8 => Value.int .u8 x.toNat)) ∧ Below w.heap.size w W)) (fun _ i _ => 8 - (intOf i).toNat)
          case atStart => exact ⟨0, Nat.zero_le _, rfl, Aside0.mk ⟨World.ownsRow_nil _ _ _ _, HS.out.2.2.1⟩⟩
          case round =>
            obtain ⟨j, hj, rfl, HR⟩ := hrel
            by_cases hj8 : j < 8
            · have hown := HR.out.1
              have HB := Aside0.mk HR.out.2
              have hst : outL s (j + 1) = outL s j ++ [UInt8.ofNat (wordAt s j / 16777216), UInt8.ofNat (wordAt s j / 65536), UInt8.ofNat (wordAt s j / 256), UInt8.ofNat (wordAt s j)] := rfl
              have HST := Aside0.mk hst
              have hix := fun W => idx_row8 s j hj8 W
              have hxl : wordAt s j < 4294967296 := by
                have h := HS.out.2.2.2.2.2.2.2.2
                obtain ⟨h0, h1, h2, h3, h4, h5, h6, h7⟩ := h
                rcases (by omega : j = 0 ∨ j = 1 ∨ j = 2 ∨ j = 3 ∨ j = 4 ∨ j = 5 ∨ j = 6 ∨ j = 7) with rfl | rfl | rfl | rfl | rfl | rfl | rfl | rfl <;> assumption
              generalize wordAt s j = x at *
              generalize outL s j = ol at *
              have HXL := Aside0.mk hxl
              have i1 : (j : Int) < 8 := by omega
              clear hst hxl HR p0 p1 p2 p3 p4 p5 p6 p7
              have hwr : w.heap.size ≤ wr.heap.size := HB.out.size
              have hal := hown.alloc (.cells #[.int .u8 ((x : Int) / 16777216 % 256), .int .u8 ((x : Int) / 65536 % 256), .int .u8 ((x : Int) / 256 % 256), .int .u8 ((x : Int) % 256)] 5)
              go_wp2_with (at_builtin; refine wpList_append_own _ rfl _ _ 59 rfl w.heap.size 5 i0 (.int .u8 0) 1 1 Try.underlying59 hi hz0 hz1 hz2 rfl (by decide) _ _ _ rfl hal ⟨wr.heap.size, 0, none⟩ 4 4 [.int .u8 ((x : Int) / 16777216 % 256), .int .u8 ((x : Int) / 65536 % 256), .int .u8 ((x : Int) / 256 % 256), .int .u8 ((x : Int) % 256)] rfl rfl ?c1 ?c2 ?c3 ?c4 ?c5 ?_)
              case c1 =>
                intro k u hk
                match k, hk with
                | 0, hk => simp at hk; subst hk; simp [Addr.add]
                | 1, hk => simp at hk; subst hk; simp [Addr.add]
                | 2, hk => simp at hk; subst hk; simp [Addr.add]
                | 3, hk => simp at hk; subst hk; simp [Addr.add]
              case c2 => intro u hu; simp at hu; rcases hu with rfl | rfl | rfl | rfl <;> rfl
              case c3 => unfold maxLen; omega
              case c4 => omega
              case c5 => simp; omega
              intro v' w2 hown' hgrow _
              go_wp2
              go_roundw
              case rel =>
                refine ⟨j + 1, by omega, by go_num, Aside0.mk ⟨?_, (HB.out.alloc hwr _).grown hgrow (by simp; omega) (fun k hk => (hown.lt k hk).1)⟩⟩
                rw [HST.out, List.map_append]
                have e8 : ∀ y : Nat, ((UInt8.ofNat y).toNat : Int) = (y : Int) % 256 := fun y => by simp
                have em : ([UInt8.ofNat (x / 16777216), UInt8.ofNat (x / 65536), UInt8.ofNat (x / 256), UInt8.ofNat x].map (fun x : UInt8 => Value.int .u8 x.toNat)) = [.int .u8 ((x : Int) / 16777216 % 256), .int .u8 ((x : Int) / 65536 % 256), .int .u8 ((x : Int) / 256 % 256), .int .u8 ((x : Int) % 256)] := by
                  simp only [List.map_cons, List.map_nil, e8, Int.natCast_ediv]; rfl
                rw [em]
                exact hown'
              case measure => simp [intOf]; omega
            · obtain rfl : j = 8 := by omega
              rw [show ((8 : Nat) : Int) = 8 from rfl]
              have hrow := HR.out.1
              have hbel := Aside0.mk HR.out.2
              obtain ⟨g, cap, hv7, hcv⟩ := bytes_of_row (l := outL s 8) hrow (by simp [outL])
              have hl32 : (outL s 8).length = 32 := rfl
              rw [hl32] at hv7 hcv
              subst hv7
              have HS2 := Aside0.mk (show sumN a = ⟨(outL s 8).toArray⟩ by rw [HSUM.out, ← HF.out])
              clear HSUM
              generalize outL s 8 = ol at *
              clear HR hrow
              go_wp2
              go_ret
              exact ⟨by rw [HS2.out]; rfl, hbel.out⟩
        | succ j =>
          have hsz := HR.out.1
          have hn1 : ¬ p = ⟨#[]⟩ := fun e => by rw [e] at hsz; have : (0 : Nat) = 64 * (j + 1) := hsz; omega
          have hn2 : p.toList.isEmpty = false := by rw [← decide_eq_emptyBytes]; exact decide_eq_false hn1
          have hrun : runN ksN j (blockN s ksN (p.extract 0 64).data.toList) (p.extract 64 p.size) = FIN := HR.out.2.1
          have HS := Aside0.mk HR.out.2.2
          have hle : 64 ≤ p.size := by omega
          obtain ⟨r, hr⟩ : ∃ r, r = blockN s ksN (p.extract 0 64).data.toList := ⟨_, rfl⟩
          rw [← hr] at hrun
          have hrok : r.ok := by rw [hr]; exact St.plus_ok _ _
          have hblk : ∀ W (b : ByteArray), W.heap = wr.heap → W.os = wr.os → W.tape = wr.tape → W.output = wr.output → b = p.extract 0 64 → Calls Try.prog 51 #[.agg #[.int .u32 s.a, .int .u32 s.b, .int .u32 s.c, .int .u32 s.d, .int .u32 s.e, .int .u32 s.f, .int .u32 s.g, .int .u32 s.h], .pointer (some ⟨K, 0, none⟩), .string b] W fun e w' =>
              e = .returned (.agg #[.int .u32 r.a, .int .u32 r.b, .int .u32 r.c, .int .u32 r.d, .int .u32 r.e, .int .u32 r.f, .int .u32 r.g, .int .u32 r.h]) ∧ Has w' V s.vals 75 ∧ Aside0 (SumW w K V s w') := by
            intro W b e1 e2 e3 e4 hb
            have hW : SumW w K V s W := by
              have h := HS.out
              unfold SumW Has at *
              rw [e1]
              exact ⟨h.1, h.2.1, ⟨by rw [e2]; exact h.2.2.1.os, by rw [e3]; exact h.2.2.1.tape, by rw [e4]; exact h.2.2.1.output, by rw [e1]; exact h.2.2.1.size, by rw [e1]; exact h.2.2.1.block⟩, h.2.2.2⟩
            have hk := fun j hj => (hW.1.at (rowN_at 64 ksN (by rw [ks_len]; exact Nat.le_refl _) j hj)).1
            have hbs : b.size = 64 := by rw [hb, ByteArray.size_extract]; omega
            refine (block_any s ksN b K W hbs hW.2.2.2.2.2.2.2.2 hW.2.2.2.2.2.2.1 hk ks_lt).mono ?_
            rintro e w' ⟨rfl, hbel⟩
            rw [hb, ← hr]
            exact ⟨rfl, (hW.later hbel).2.1, Aside0.mk (hW.later hbel)⟩
          have HBLK := Lib.hid hblk
          have HRUN := Aside0.mk hrun
          have HOK := Aside0.mk hrok
          have HSZ := Aside0.mk hsz
          have hv := HS.out.2.1
          unfold St.vals at hv
          obtain ⟨p0, p1, p2, p3, p4, p5, p6, p7⟩ := qc8 hv
          have i1 : (64 : Int) ≤ (p.size : Int) := by omega
          clear hv hblk hr hrun hrok hsz hn1 HR HR0
          go_wp2
          go_region_with (first | (go_at_call 51; refine (HBLK.out _ _ (by rfl) (by rfl) (by rfl) (by rfl) (by rfl)).mono ?_; rintro e w' ⟨rfl, hh, HS'⟩; unfold St.vals at hh; obtain ⟨s0, s1, s2, s3, s4, s5, s6, s7⟩ := qc8 hh; obtain ⟨f0, f1, f2, f3, f4, f5, f6, f7⟩ := qf8 hh))
          all_goals
            go_wp2
            refine ⟨⟨j, p.extract 64 p.size, r, rfl, Aside0.mk ⟨by rw [ByteArray.size_extract]; have := HSZ.out; omega, HRUN.out, ?_⟩⟩, ?_⟩
            · first
                | exact HS'.out.put HOK.out
                | exact (HS'.out.put HOK.out).draws
            · simp only [szOf, ByteArray.size_extract]
              have := HSZ.out
              omega
end Go.Proofs.Ytkcjekboakoejaa.Print
