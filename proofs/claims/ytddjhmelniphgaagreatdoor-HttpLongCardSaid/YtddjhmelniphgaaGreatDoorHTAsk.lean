/- The contracts of http.Ask, http.reasons, http.Write. -/
import Derived.Test.YtddjhmelniphgaaGreatDoorHAn
import Derived.Test.YtddjhmelniphgaaGreatDoorHLb
import Derived.Test.YtddjhmelniphgaaGreatDoorHTWrite
import Derived.Test.YtddjhmelniphgaaGreatDoorHSq
import Derived.Test.YtddjhmelniphgaaGreatDoorPrint0
import Derived.WideMake
import Derived.Maps.OwnIn
import Derived.Maps.OwnSet
namespace Go.Proofs.YtddjhmelniphgaaGreatDoor.Print
open Go Go.RowKit Go.Maps Go.ChangeMaps Go.Proofs.YtddjhmelniphgaaGreatDoorW.PrintWords Go.Proofs.YtddjhmelniphgaaGreatDoorW.PrintLast
set_option linter.unusedVariables false
set_option linter.unusedSimpArgs false
/-! ### http.reasons -/
def reasonRows : List (Int × ByteArray) := [(200, ⟨#[79, 75]⟩), (307, ⟨#[84, 101, 109, 112, 111, 114, 97, 114, 121, 32, 82, 101, 100, 105, 114, 101, 99, 116]⟩), (400, ⟨#[66, 97, 100, 32, 82, 101, 113, 117, 101, 115, 116]⟩), (404, ⟨#[78, 111, 116, 32, 70, 111, 117, 110, 100]⟩), (405, ⟨#[77, 101, 116, 104, 111, 100, 32, 78, 111, 116, 32, 65, 108, 108, 111, 119, 101, 100]⟩), (409, ⟨#[67, 111, 110, 102, 108, 105, 99, 116]⟩), (413, ⟨#[67, 111, 110, 116, 101, 110, 116, 32, 84, 111, 111, 32, 76, 97, 114, 103, 101]⟩), (422, ⟨#[85, 110, 112, 114, 111, 99, 101, 115, 115, 97, 98, 108, 101, 32, 67, 111, 110, 116, 101, 110, 116]⟩), (500, ⟨#[73, 110, 116, 101, 114, 110, 97, 108, 32, 83, 101, 114, 118, 101, 114, 32, 69, 114, 114, 111, 114]⟩), (503, ⟨#[83, 101, 114, 118, 105, 99, 101, 32, 85, 110, 97, 118, 97, 105, 108, 97, 98, 108, 101]⟩)]
/-- The first rows as entries. -/
def entsFrom : Nat → List (Int × ByteArray) → List MapEntry
  | _, [] => []
  | i, (k, s) :: r => { key := .int .i64 k, val := .string s, born := i } :: entsFrom (i + 1) r
def ents (n : Nat) : Array MapEntry := (entsFrom 0 (reasonRows.take n)).toArray
/-- The text of a code's reason. -/
def reasonT (x : Int) : ByteArray := ((reasonRows.find? fun p => p.1 == x).map (·.2)).getD ByteArray.empty
theorem below_setBlock {n : Nat} {w W : World} (h : Below n w W) {b : Nat} (hb : n ≤ b) (o : Obj) : Below n w (setBlock W b o) :=
  ⟨h.os, h.tape, h.output, by simpa [setBlock] using h.size, fun k hk => by
    refine Eq.trans ?_ (h.block k hk)
    simp only [setBlock]
    exact Array.getElem?_setIfInBounds_ne zy4⟩
theorem upd_int (W : World) (b n : Nat) (k : Int) (s : ByteArray) (hb : W.heap[b]? = some (.map (ents n) n)) (hf : Instr.findNow (.int .i64) (.int .i64 k) (ents n).toList 0 = some none) (w : World) (hbl : Below b w W) (he : (ents n).push { key := .int .i64 k, val := .string s, born := n } = ents (n + 1)) :
    ∃ W', (Instr.mapUpdate 95 (.map (some b)) (.int .i64 k) (.string s)).run Tryz.prog W = .ok () W' ∧ W'.heap[b]? = some (.map (ents (n + 1)) (n + 1)) ∧ Below b w W' := by
  have hc : (Instr.checkKey false 10000 3 (.int .i64 k)).run Tryz.prog W = .ok () W := MapKept.run_checkKey (k := .int .i64 k) Tryz.underlying3 (by simp [MapKept.IsKey]) false 9999
  refine ⟨setBlock W b (.map (ents (n + 1)) (n + 1)), ?_, heap_setBlock_same hb _, below_setBlock hbl (Nat.le_refl _) _⟩
  simp [Instr.mapUpdate, run_underlying Tryz.underlying95, MapKept.run_getObj_map hb, hc, MapKept.run_findKey Tryz.underlying3 hf, MapKept.run_setObj_map _ hb, Result.andThen, setBlock, he]
set_option maxRecDepth 100000 in
set_option maxHeartbeats 4000000 in
theorem reasons_any (w : World) : Calls Tryz.prog 55 #[] w fun e w' => e = .returned (.map (some w.heap.size)) ∧ Below w.heap.size w w' ∧ w'.heap[w.heap.size]? = some (.map (ents 10) 10) := by
  have h0 : (w.alloc (.map #[] 0)).heap[w.heap.size]? = some (.map (ents 0) 0) := by show (w.heap.push _)[w.heap.size]? = _; simp; rfl
  have b0 : Below w.heap.size w (w.alloc (.map #[] 0)) := below_alloc (Below.refl _ _) _
  obtain ⟨W1, r1, h1, b1⟩ := upd_int _ _ 0 200 _ h0 rfl w b0 rfl
  obtain ⟨W2, r2, h2, b2⟩ := upd_int _ _ 1 307 _ h1 rfl w b1 rfl
  obtain ⟨W3, r3, h3, b3⟩ := upd_int _ _ 2 400 _ h2 rfl w b2 rfl
  obtain ⟨W4, r4, h4, b4⟩ := upd_int _ _ 3 404 _ h3 rfl w b3 rfl
  obtain ⟨W5, r5, h5, b5⟩ := upd_int _ _ 4 405 _ h4 rfl w b4 rfl
  obtain ⟨W6, r6, h6, b6⟩ := upd_int _ _ 5 409 _ h5 rfl w b5 rfl
  obtain ⟨W7, r7, h7, b7⟩ := upd_int _ _ 6 413 _ h6 rfl w b6 rfl
  obtain ⟨W8, r8, h8, b8⟩ := upd_int _ _ 7 422 _ h7 rfl w b7 rfl
  obtain ⟨W9, r9, h9, b9⟩ := upd_int _ _ 8 500 _ h8 rfl w b8 rfl
  obtain ⟨W10, r10, h10, b10⟩ := upd_int _ _ 9 503 _ h9 rfl w b9 rfl
  have HB := Aside0.mk (And.intro b10 h10)
  clear h0 b0 h1 b1 h2 b2 h3 b3 h4 b4 h5 b5 h6 b6 h7 b7 h8 b8 h9 b9 h10 b10
  have hmm := @run_makeMap Tryz.prog
  go_enter Tryz.func55, Tryz.ntmps55
  go_wp2
  go_ret
  exact ⟨rfl, HB.out⟩
theorem find_ents (x : Int) : ∀ (rows : List (Int × ByteArray)) (i j : Nat), ∃ r, Instr.findNow (.int .i64) (.int .i64 x) (entsFrom i rows) j = some r ∧ r.map (·.2) = (rows.find? fun p => p.1 == x).map fun p => Value.string p.2
  | [], i, j => ⟨none, rfl, rfl⟩
  | (k, s) :: rest, i, j => by
    obtain ⟨r, h1, h2⟩ := find_ents x rest (i + 1) (j + 1)
    by_cases h : k = x
    · subst h
      exact ⟨some (j, .string s), by simp [entsFrom, Instr.findNow, Instr.sameNow], by simp⟩
    · have h' : ¬ x = k := fun e => h e.symm
      refine ⟨r, ?_, ?_⟩
      · have hxk : (x == k) = false := by simpa using h'
        rw [← h1]
        simp [entsFrom, Instr.findNow, Instr.sameNow, hxk]
      · rw [h2, List.find?_cons_of_neg (by simpa using h)]
theorem look_reason (W : World) (b : Nat) (x : Int) (hb : W.heap[b]? = some (.map (ents 10) 10)) : (Instr.lookup 95 (.map (some b)) (.int .i64 x) false).run Tryz.prog W = .ok (.string (reasonT x)) W := by
  have hc : ∀ e, (Instr.checkKey e 10000 3 (.int .i64 x)).run Tryz.prog W = .ok () W := fun e => MapKept.run_checkKey (k := .int .i64 x) Tryz.underlying3 (by simp [MapKept.IsKey]) e 9999
  have hz : (zeroValue 9).run Tryz.prog W = .ok (.string ByteArray.empty) W := by
    have h0 : Tryz.t9.zero = some (.string ByteArray.empty) := by kernel_rfl
    simp [zeroValue, h0, go_sem]
  obtain ⟨r, h1, h2⟩ := find_ents x reasonRows 0 0
  have hT : ((r.map (·.2)).getD (.string ByteArray.empty)) = .string (reasonT x) := by
    rw [h2, reasonT]
    cases reasonRows.find? fun p => p.1 == x <;> rfl
  have hl : (ents 10).toList = entsFrom 0 reasonRows := rfl
  rw [← hl] at h1
  cases r with
  | none =>
    simp only [Option.map_none, Option.getD_none] at hT
    simp [Instr.lookup, run_underlying Tryz.underlying95, MapKept.run_getObj_map hb, hc, MapKept.run_findKey Tryz.underlying3 h1, Result.andThen, hz, ← hT]
    try rfl
  | some q =>
    simp only [Option.map_some, Option.getD_some] at hT
    simp [Instr.lookup, run_underlying Tryz.underlying95, MapKept.run_getObj_map hb, hc, MapKept.run_findKey Tryz.underlying3 h1, Result.andThen, hT]
    try rfl
/-! ### http.Ask -/
def http_Ask.f (a0_0 : ByteArray) (a0_1 : ByteArray) (l0_2 : List (S59)) (a0_3 : ByteArray) : Option (ByteArray × Int) :=
  if a0_0.size ≤ 500000 ∧ a0_1.size ≤ 500000 ∧ (hdsL l0_2).length ≤ 1048576 ∧ a0_3.size ≤ 1048576 ∧ l0_2.length ≤ 1048576 then
    some (if (tokenB a0_0 && targetB a0_1) = true then writeN (a0_0 ++ ⟨#[32]⟩ ++ a0_1 ++ ⟨#[32, 72, 84, 84, 80, 47, 49, 46, 49]⟩) l0_2 a0_3 else (ByteArray.empty, 2)) else none
set_option maxRecDepth 100000 in
set_option maxHeartbeats 4000000 in
theorem http_Ask.calls (a0_0 : ByteArray) (a0_1 : ByteArray) (A0_2 : Option Addr) (c0_2 : Nat) (l0_2 : List (S59)) (a0_3 : ByteArray) (r1 : ByteArray) (r2 : Int) (w : World) (hr0_2 : Kd.C k59 w A0_2 l0_2.length l0_2) (hc0_2 : l0_2.length ≤ c0_2) (h : http_Ask.f a0_0 a0_1 l0_2 a0_3 = some (r1, r2)) (HL : Laid0 w) :
    Calls Tryz.prog 20 #[.agg #[.string a0_0, .string a0_1, .slice A0_2 l0_2.length c0_2, .string a0_3]] w fun e w' => e = .returned (.tuple #[.string r1, .int .i64 r2]) ∧ Below w.heap.size w w' := by
  unfold http_Ask.f at h
  split at h
  case isFalse => cases h
  case isTrue hs =>
  obtain ⟨s1, s2, s3, s4, s5⟩ := hs
  have HF := Aside0.mk (Option.some.inj h)
  have hwr := fun W (hb : Below w.heap.size w W) => write_any (a0_0 ++ ⟨#[32]⟩ ++ a0_1 ++ ⟨#[32, 72, 84, 84, 80, 47, 49, 46, 49]⟩) A0_2 c0_2 l0_2 a0_3 W (Kd.C_below hr0_2 hb) hc0_2 (by have e1 : (⟨#[32]⟩ : ByteArray).size = 1 := rfl; have e2 : (⟨#[32, 72, 84, 84, 80, 47, 49, 46, 49]⟩ : ByteArray).size = 9 := rfl; rw [ByteArray.size_append, ByteArray.size_append, ByteArray.size_append, e1, e2]; omega) s3 s4 s5 (HL.later hb)
  have HWR := Aside0.mk hwr
  have htk := fun W => token_any a0_0 W
  have htg := fun W => target_any a0_1 W
  have k1 : ¬ 9223372036854775807 < a0_0.size + 1 := by omega
  have k2 : ¬ 9223372036854775807 < a0_0.size + 1 + a0_1.size := by omega
  have k3 : ¬ 9223372036854775807 < a0_0.size + 1 + a0_1.size + 9 := by omega
  have hb0 := below_alloc (Below.refl w.heap.size w) (.cells #[.string a0_0, .string a0_1, .slice A0_2 l0_2.length c0_2, .string a0_3] 25)
  have HB0 := Aside0.mk hb0
  have kN := blk_new w (.cells #[.string a0_0, .string a0_1, .slice A0_2 l0_2.length c0_2, .string a0_3] 25)
  obtain ⟨W1, hW1⟩ : ∃ W1, W1 = w.alloc (.cells #[.string a0_0, .string a0_1, .slice A0_2 l0_2.length c0_2, .string a0_3] 25) := ⟨_, rfl⟩
  rw [← hW1] at kN hb0
  have HK := Aside0.mk kN
  have HB1 := Aside0.mk hb0
  clear h hwr hr0_2 HL s1 s2 s3 s4 s5 hb0 HB0 kN
  subst hW1
  generalize l0_2.length = n at *
  generalize tokenB a0_0 = tk at *
  generalize targetB a0_1 = tg at *
  go_enter Tryz.func20, Tryz.ntmps20
  cases tk with
  | false =>
    go_wp2_with (go_at_call 31; ((with_reducible refine (htk _).mono ?_)); rintro e w2 ⟨rfl, hb2⟩; have H2 := Aside0.mk hb2; clear hb2)
    go_ret2
    have hf := HF.out
    simp at hf
    obtain ⟨rfl, rfl⟩ := hf
    exact ⟨rfl, HB1.out.trans (H2.out.mono HB1.out.size)⟩
  | true =>
    cases tg with
    | false =>
      go_wp2_with (first | (go_at_call 31; ((with_reducible refine (htk _).mono ?_)); rintro e w2 ⟨rfl, hb2⟩; have H2 := Aside0.mk hb2; have q0 := blk_cell (blk_below HK.out hb2) 0; have q1 := blk_cell (blk_below HK.out hb2) 1; have q2 := blk_cell (blk_below HK.out hb2) 2; have q3 := blk_cell (blk_below HK.out hb2) 3; clear hb2) | (go_at_call 32; ((with_reducible refine (htg _).mono ?_)); rintro e w3 ⟨rfl, hb3⟩; have H3 := Aside0.mk hb3; clear hb3))
      go_ret2
      have hf := HF.out
      simp at hf
      obtain ⟨rfl, rfl⟩ := hf
      exact ⟨rfl, (HB1.out.trans (H2.out.mono HB1.out.size)).trans (H3.out.mono (Nat.le_trans HB1.out.size H2.out.size))⟩
    | true =>
      have HBX := Aside0.mk (fun (w2 w3 : World) (h2 : Below (w.alloc (.cells #[.string a0_0, .string a0_1, .slice A0_2 n c0_2, .string a0_3] 25)).heap.size (w.alloc (.cells #[.string a0_0, .string a0_1, .slice A0_2 n c0_2, .string a0_3] 25)) w2) (h3 : Below w2.heap.size w2 w3) => (HB1.out.trans (h2.mono HB1.out.size)).trans (h3.mono (Nat.le_trans HB1.out.size h2.size)))
      go_wp2_with (first | (go_at_call 31; ((with_reducible refine (htk _).mono ?_)); rintro e w2 ⟨rfl, hb2⟩; have H2 := Aside0.mk hb2; have HK2 := Aside0.mk (blk_below HK.out hb2); have q0 := blk_cell HK2.out 0; have q1 := blk_cell HK2.out 1; have q2 := blk_cell HK2.out 2; have q3 := blk_cell HK2.out 3; clear hb2) | (go_at_call 32; ((with_reducible refine (htg _).mono ?_)); rintro e w3 ⟨rfl, hb3⟩; have H3 := Aside0.mk hb3; have HK3 := Aside0.mk (blk_below HK2.out hb3); have p0 := blk_cell HK3.out 0; have p1 := blk_cell HK3.out 1; have p2 := blk_cell HK3.out 2; have p3 := blk_cell HK3.out 3; clear hb3) | (go_at_call 51; go_loud ((with_reducible refine (HWR.out _ (HBX.out _ _ H2.out H3.out)).mono ?_); rintro e w4 ⟨rfl, hb4⟩; have H4 := Aside0.mk hb4; clear hb4)))
      go_ret2
      have hf := HF.out
      simp at hf
      rw [hf]
      exact ⟨rfl, (HBX.out _ _ H2.out H3.out).trans (H4.out.mono (HBX.out _ _ H2.out H3.out).size)⟩
/-! ### http.Write -/
theorem reasonT_size (x : Int) : (reasonT x).size ≤ 21 := by
  have h : ∀ p ∈ reasonRows, p.2.size ≤ 21 := by decide
  unfold reasonT
  cases hf : reasonRows.find? fun p => p.1 == x with
  | none => exact Nat.zero_le _
  | some p => exact h p (List.mem_of_find?_eq_some hf)
def lineT (x : Int) : ByteArray := ⟨#[72, 84, 84, 80, 47, 49, 46, 49, 32]⟩ ++ itoaN x ++ ⟨#[32]⟩ ++ reasonT x
def http_Write.f (a0_0 : Int) (l0_1 : List (S59)) (a0_2 : ByteArray) : Option (ByteArray × Int) :=
  if (hdsL l0_1).length ≤ 1048576 ∧ a0_2.size ≤ 1048576 ∧ l0_1.length ≤ 1048576 then
    some (if 100 ≤ a0_0 ∧ a0_0 ≤ 599 then writeN (lineT a0_0) l0_1 a0_2 else (ByteArray.empty, 2)) else none
set_option maxRecDepth 100000 in
set_option maxHeartbeats 4000000 in
theorem http_Write.calls (a0_0 : Int) (A0_1 : Option Addr) (c0_1 : Nat) (l0_1 : List (S59)) (a0_2 : ByteArray) (r1 : ByteArray) (r2 : Int) (w : World) (hr0_1 : Kd.C k59 w A0_1 l0_1.length l0_1) (hc0_1 : l0_1.length ≤ c0_1) (h : http_Write.f a0_0 l0_1 a0_2 = some (r1, r2)) (HL : Laid0 w) :
    Calls Tryz.prog 22 #[.agg #[.int .i64 a0_0, .slice A0_1 l0_1.length c0_1, .string a0_2]] w fun e w' => e = .returned (.tuple #[.string r1, .int .i64 r2]) ∧ Below w.heap.size w w' := by
  unfold http_Write.f at h
  split at h
  case isFalse => cases h
  case isTrue hs =>
  obtain ⟨s3, s4, s5⟩ := hs
  have HF := Aside0.mk (Option.some.inj h)
  by_cases hlo : a0_0 < 100
  · clear h
    go_enter Tryz.func22, Tryz.ntmps22
    go_wp2
    go_ret2
    have hf := HF.out
    rw [if_neg zy4] at hf
    injection hf with h1 h2
    subst h1 h2
    exact ⟨rfl, below_alloc (Below.refl _ _) _⟩
  · by_cases hhi : 599 < a0_0
    · clear h
      go_enter Tryz.func22, Tryz.ntmps22
      go_wp2
      go_ret2
      have hf := HF.out
      rw [if_neg zy4] at hf
      injection hf with h1 h2
      subst h1 h2
      exact ⟨rfl, below_alloc (Below.refl _ _) _⟩
    · have hil := Lib.itoa_length_le a0_0 zy4 zy4
      have hils : (itoaN a0_0).size = (Lib.itoa a0_0).length := rfl
      rw [← hils] at hil
      have hrs := reasonT_size a0_0
      have hls : (lineT a0_0).size ≤ 100 := by
        have e1 : (⟨#[72, 84, 84, 80, 47, 49, 46, 49, 32]⟩ : ByteArray).size = 9 := rfl
        have e2 : (⟨#[32]⟩ : ByteArray).size = 1 := rfl
        unfold lineT
        rw [ByteArray.size_append, ByteArray.size_append, ByteArray.size_append, e1, e2]; omega
      have hb0 := below_alloc (Below.refl w.heap.size w) (.cells #[.int .i64 a0_0, .slice A0_1 l0_1.length c0_1, .string a0_2] 32)
      have hwr := fun W (hb : Below w.heap.size w W) => write_any (lineT a0_0) A0_1 c0_1 l0_1 a0_2 W (Kd.C_below hr0_1 hb) hc0_1 zy4 s3 s4 s5 (HL.later hb)
      have hit := fun W (hb : Below w.heap.size w W) => itoa_any a0_0 zy4 zy4 W (HL.later hb)
      have e7 : lineT a0_0 = ⟨#[72, 84, 84, 80, 47, 49, 46, 49, 32]⟩ ++ itoaN a0_0 ++ ⟨#[32]⟩ ++ reasonT a0_0 := rfl
      have k1 : ¬ 9223372036854775807 < 9 + (itoaN a0_0).size := by omega
      have k2 : ¬ 9223372036854775807 < 9 + (itoaN a0_0).size + 1 := by omega
      have k3 : ¬ 9223372036854775807 < 9 + (itoaN a0_0).size + 1 + (reasonT a0_0).size := by omega
      have hf := Option.some.inj h
      rw [if_pos zy4] at hf
      have HF2 := Aside0.mk hf
      have hlk := fun W b => look_reason W b a0_0
      have kN := blk_new w (.cells #[.int .i64 a0_0, .slice A0_1 l0_1.length c0_1, .string a0_2] 32)
      have BK := Aside0.mk kN
      have BB := Aside0.mk hb0
      have HWR0 := Aside0.mk hwr
      have HIT0 := Aside0.mk hit
      have HLK := Aside0.mk hlk
      have HE7 := Aside0.mk e7
      clear h hf HF hwr hit hlk kN hb0 e7 hls hrs hils hil s3 s4 s5 HL hr0_1
      generalize l0_1.length = n at *
      go_enter Tryz.func22, Tryz.ntmps22
      go_wp2
      generalize w.alloc (.cells #[.int .i64 a0_0, .slice A0_1 n c0_1, .string a0_2] 32) = wu at BK BB ⊢
      have hgz : w.heap.size < wu.heap.size := blk_lt BK.out
      generalize hgu : w.heap.size = gu at BK ⊢
      have HGU := Aside0.mk hgu
      rw [hgu] at hgz
      clear hgu
      have d0 : wu.cell? ⟨gu, 0, none⟩ = some (.int .i64 a0_0) := blk_cell BK.out 0
      have d1 : wu.cell? ⟨gu, 1, none⟩ = some (.slice A0_1 n c0_1) := blk_cell BK.out 1
      have d2 : wu.cell? ⟨gu, 2, none⟩ = some (.string a0_2) := blk_cell BK.out 2
      have HSS := Aside0.mk (fun W (hb : Below wu.heap.size wu W) => show W.cell? ⟨gu, 0, none⟩ = some (.int .i64 a0_0) ∧ W.cell? ⟨gu, 1, none⟩ = some (.slice A0_1 n c0_1) ∧ W.cell? ⟨gu, 2, none⟩ = some (.string a0_2) from ⟨(hb.cell (p := ⟨gu, 0, none⟩) hgz).trans d0, (hb.cell (p := ⟨gu, 1, none⟩) hgz).trans d1, (hb.cell (p := ⟨gu, 2, none⟩) hgz).trans d2⟩)
      have HIT := Aside0.mk (fun W (hb : Below wu.heap.size wu W) => HIT0.out W (BB.out.trans (hb.mono BB.out.size)))
      have HWR := Aside0.mk (fun W (hb : Below wu.heap.size wu W) => HWR0.out W (BB.out.trans (hb.mono BB.out.size)))
      clear d0 d1 d2 hgz HIT0 HWR0
      have HB := Aside0.mk (Below.refl wu.heap.size wu)
      refine start_ (n := 19) (S := fun W => W.cell? ⟨gu, 0, none⟩ = some (.int .i64 a0_0) ∧ W.cell? ⟨gu, 1, none⟩ = some (.slice A0_1 n c0_1) ∧ W.cell? ⟨gu, 2, none⟩ = some (.string a0_2)) (ds := []) (lb 19 0) (by kernel_rfl) rfl rfl (HSS.out _ zy0) (fun hHeld => ?_)
      replace HB := Aside0.mk (below_drew1 HB.out)
      generalize wu.drew = wud at HB hHeld ⊢
      refine pure_ (i := 0) (N := some 12) (v := ?_) (a' := ?_) (lb 19 1) rfl rfl (by kernel_rfl) (fun _ _ _ h => h) (Or.inl ⟨by rfl, ?_⟩) ?_ ?_
      rotate_left
      · intro w'
        go_simp
        with_reducible rfl
      rotate_left
      · simp only [Act.put, zS, zT, zU, zV, zW]
        rfl
      refine pure_ (i := 6) (N := some 18) (v := ?_) (a' := ?_) (lb 19 65) rfl rfl (by kernel_rfl) (fun _ _ _ h => h) (Or.inl ⟨by rfl, ?_⟩) ?_ ?_
      rotate_left
      · intro w'
        go_simp
        with_reducible rfl
      rotate_left
      · simp only [Act.put, zS, zT, zU, zV, zW]
        rfl
      refine pure_ (i := 10) (N := some 22) (v := ?_) (a' := ?_) (lb 19 1089) rfl rfl (by kernel_rfl) (fun _ _ _ h => h) (Or.inl ⟨by rfl, ?_⟩) ?_ ?_
      rotate_left
      · intro w'
        go_simp
        with_reducible rfl
      rotate_left
      · simp only [Act.put, zS, zT, zU, zV, zW]
        rfl
      refine pure_ (i := 12) (N := some 24) (v := ?_) (a' := ?_) (lb 19 5185) rfl rfl (by kernel_rfl) (fun _ _ _ h => h) (Or.inl ⟨by rfl, ?_⟩) ?_ ?_
      rotate_left
      · intro w'
        go_simp
        with_reducible rfl
      rotate_left
      · simp only [Act.put, zS, zT, zU, zV, zW]
        rfl
      refine take_ (i := 1) (N := some 13) (v := ?_) (a' := ?_) (lb 19 5187) rfl rfl (by kernel_rfl) (fun _ _ _ h => h) (Or.inl ⟨by rfl, ?_⟩) hHeld ?_ ?_
      rotate_left
      · intro w' hS_
        (try dsimp only at hS_)
        obtain ⟨s0, s1, s2⟩ := hS_
        go_simp
        with_reducible rfl
      rotate_left
      · simp only [Act.put, zS, zT, zU, zV, zW]
        rfl
      refine take_ (i := 7) (N := some 19) (v := ?_) (a' := ?_) (lb 19 5315) rfl rfl (by kernel_rfl) (fun _ _ _ h => h) (Or.inl ⟨by rfl, ?_⟩) hHeld ?_ ?_
      rotate_left
      · intro w' hS_
        (try dsimp only at hS_)
        obtain ⟨s0, s1, s2⟩ := hS_
        go_simp
        with_reducible rfl
      rotate_left
      · simp only [Act.put, zS, zT, zU, zV, zW]
        rfl
      refine take_ (i := 11) (N := some 23) (v := ?_) (a' := ?_) (lb 19 7363) rfl rfl (by kernel_rfl) (fun _ _ _ h => h) (Or.inl ⟨by rfl, ?_⟩) hHeld ?_ ?_
      rotate_left
      · intro w' hS_
        (try dsimp only at hS_)
        obtain ⟨s0, s1, s2⟩ := hS_
        go_simp
        with_reducible rfl
      rotate_left
      · simp only [Act.put, zS, zT, zU, zV, zW]
        rfl
      refine take_ (i := 13) (N := some 25) (v := ?_) (a' := ?_) (lb 19 15555) rfl rfl (by kernel_rfl) (fun _ _ _ h => h) (Or.inl ⟨by rfl, ?_⟩) hHeld ?_ ?_
      rotate_left
      · intro w' hS_
        (try dsimp only at hS_)
        obtain ⟨s0, s1, s2⟩ := hS_
        go_simp
        with_reducible rfl
      rotate_left
      · simp only [Act.put, zS, zT, zU, zV, zW]
        rfl
      refine one_ (i := 2) (N := some 14) (lb 19 15559) rfl rfl (by kernel_rfl) zy6 (fun K hK => ?_)
      refine goes_ Tryz.func54 (by kernel_rfl) rfl #[.int .i64 a0_0] (by rfl) rfl rfl zy5 ?_
      refine (HIT.out _ zy0).mono ?_
      rintro e wa ⟨rfl, hb⟩
      refine ⟨_, rfl, ?_⟩
      replace HB := Aside0.mk (below_step HB.out hb)
      clear hb
      refine hK.out _ _ (HSS.out _ zy0) (fun hHeld => ?_)
      clear hK K
      refine norm_ (a' := ?_) ?_ ?_
      rotate_left
      · show Act.put _ (some 14) _ = _
        simp only [Act.put, zS, zT, zU, zV, zW]
        rfl
      refine pure_ (i := 3) (N := some 15) (v := ?_) (a' := ?_) (lb 19 15567) rfl rfl (by kernel_rfl) (fun _ _ _ h => h) (Or.inl ⟨by rfl, ?_⟩) ?_ ?_
      rotate_left
      · intro w'
        go_simp
        with_reducible rfl
      rotate_left
      · simp only [Act.put, zS, zT, zU, zV, zW]
        rfl
      refine pure_ (i := 4) (N := some 16) (v := ?_) (a' := ?_) (lb 19 15583) rfl rfl (by kernel_rfl) (fun _ _ _ h => h) (Or.inl ⟨by rfl, ?_⟩) ?_ ?_
      rotate_left
      · intro w'
        go_simp
        with_reducible rfl
      rotate_left
      · simp only [Act.put, zS, zT, zU, zV, zW]
        rfl
      refine one_ (i := 5) (N := some 17) (lb 19 15615) rfl rfl (by kernel_rfl) zy6 (fun K hK => ?_)
      refine goes_ Tryz.func55 (by kernel_rfl) rfl #[] (by rfl) rfl rfl zy5 ?_
      refine (reasons_any _).mono ?_
      rintro e wb ⟨rfl, hb, hx⟩
      refine ⟨_, rfl, ?_⟩
      replace HB := Aside0.mk (below_step HB.out hb)
      clear hb
      have HX := Aside0.mk hx
      clear hx
      refine hK.out _ _ (HSS.out _ zy0) (fun hHeld => ?_)
      clear hK K
      refine norm_ (a' := ?_) ?_ ?_
      rotate_left
      · show Act.put _ (some 17) _ = _
        simp only [Act.put, zS, zT, zU, zV, zW]
        rfl
      refine one_ (i := 8) (N := some 20) (lb 19 15871) rfl rfl (by kernel_rfl) zy6 (fun K hK => ?_)
      refine value_ (by rfl) rfl (by have h_ := HLK.out _ _ HX.out; unfold execOp; simp [Act.eval, h_, Result.andThen]; first | done | exact ⟨rfl, rfl⟩) ?_
      refine hK.out _ _ (HSS.out _ zy0) (fun hHeld => ?_)
      clear hK K
      refine norm_ (a' := ?_) ?_ ?_
      rotate_left
      · show Act.put _ (some 20) _ = _
        simp only [Act.put, zS, zT, zU, zV, zW]
        rfl
      refine pure_ (i := 9) (N := some 21) (v := ?_) (a' := ?_) (lb 19 16383) rfl rfl (by kernel_rfl) (fun _ _ _ h => h) (Or.inl ⟨by rfl, ?_⟩) ?_ ?_
      rotate_left
      · intro w'
        go_simp
        with_reducible rfl
      rotate_left
      · simp only [Act.put, zS, zT, zU, zV, zW]
        rfl
      refine one_ (i := 14) (N := some 26) (lb 19 32767) rfl rfl (by kernel_rfl) zy6 (fun K hK => ?_)
      refine goes_ Tryz.func51 (by kernel_rfl) rfl #[.string (lineT a0_0), .slice A0_1 n c0_1, .string a0_2] (by rfl) rfl rfl zy5 ?_
      refine (HWR.out _ zy0).mono ?_
      rintro e wc ⟨rfl, hb⟩
      refine ⟨_, rfl, ?_⟩
      replace HB := Aside0.mk (below_step HB.out hb)
      clear hb
      refine hK.out _ _ (HSS.out _ zy0) (fun hHeld => ?_)
      clear hK K
      refine norm_ (a' := ?_) ?_ ?_
      rotate_left
      · show Act.put _ (some 26) _ = _
        simp only [Act.put, zS, zT, zU, zV, zW]
        rfl
      refine pure_ (i := 15) (N := some 27) (v := ?_) (a' := ?_) (lb 19 65535) rfl rfl (by kernel_rfl) (fun _ _ _ h => h) (Or.inl ⟨by rfl, ?_⟩) ?_ ?_
      rotate_left
      · intro w'
        go_simp
        with_reducible rfl
      rotate_left
      · simp only [Act.put, zS, zT, zU, zV, zW]
        rfl
      refine pure_ (i := 16) (N := some 28) (v := ?_) (a' := ?_) (lb 19 131071) rfl rfl (by kernel_rfl) (fun _ _ _ h => h) (Or.inl ⟨by rfl, ?_⟩) ?_ ?_
      rotate_left
      · intro w'
        go_simp
        with_reducible rfl
      rotate_left
      · simp only [Act.put, zS, zT, zU, zV, zW]
        rfl
      refine pure_ (i := 17) (N := some 2) (v := ?_) (a' := ?_) (lb 19 262143) rfl rfl (by kernel_rfl) (fun _ _ _ h => h) (Or.inl ⟨by rfl, ?_⟩) ?_ ?_
      rotate_left
      · intro w'
        go_simp
        with_reducible rfl
      rotate_left
      · simp only [Act.put, zS, zT, zU, zV, zW]
        rfl
      refine pure_ (i := 18) (N := some 3) (v := ?_) (a' := ?_) (lb 19 524287) rfl rfl (by kernel_rfl) (fun _ _ _ h => h) (Or.inl ⟨by rfl, ?_⟩) ?_ ?_
      rotate_left
      · intro w'
        go_simp
        with_reducible rfl
      rotate_left
      · simp only [Act.put, zS, zT, zU, zV, zW]
        rfl
      refine done_ (by kernel_rfl) ?_
      go_wp2
      go_ret2
      rw [← HGU.out]
      rw [HF2.out]
      exact ⟨rfl, BB.out.trans (HB.out.mono BB.out.size)⟩
end Go.Proofs.YtddjhmelniphgaaGreatDoor.Print
