/- Plain law: the reference's block is the program's. -/
import Derived.Test.YtkcjekboakoejaaPrint2
import Derived.Test.YtkcjekboakoejaaHSSum
namespace Go.Proofs.Ytkcjekboakoejaa.Print
open Go Go.RowKit Go.Proofs.YtkcjekboakoejaaW.PrintWords Go.Proofs.YtkcjekboakoejaaW.PrintLast Go.Proofs.YtkcjekboakoejaaW.PrintMore
set_option linter.unusedVariables false
set_option linter.unusedSimpArgs false

def natI (l : List Nat) : List Int := l.map (fun x : Nat => (x : Int))
theorem natI_len (l : List Nat) : (natI l).length = l.length := List.length_map _
theorem natI_app (a b : List Nat) : natI (a ++ b) = natI a ++ natI b := List.map_append
theorem rd_natI (l : List Nat) (i : Nat) : rd (natI l) (i : Int) = ((l.getD i 0 : Nat) : Int) := by
  unfold rd natI
  rw [Int.toNat_natCast, List.getD_eq_getElem?_getD, List.getElem?_map, List.getD_eq_getElem?_getD]
  cases l[i]? <;> simp
def St.ints (s : St) : List Int := [s.a, s.b, s.c, s.d, s.e, s.f, s.g, s.h]
theorem turn_rot (x m : Nat) (hx : x < 4294967296) (h1 : 1 ≤ m) (h2 : m ≤ 31) : codicilref03_turn.f (x : Int) (m : Int) = some (rotN x m : Int) := by
  unfold codicilref03_turn.f
  have e : IntKind.u64.wrap (32 - (m : Int)) = ((32 - m : Nat) : Int) := by rw [IntKind.wrap_u64]; omega
  rw [if_pos (by omega), e, if_pos (by omega)]
  congr 1
  unfold shr shl
  rw [IntKind.wrap_u32]
  have m1 : min ((m : Int)).toNat IntKind.u32.bits = m := by show min ((m : Int)).toNat 32 = m; omega
  have m2 : min (((32 - m : Nat) : Int)).toNat IntKind.u32.bits = 32 - m := by show min (((32 - m : Nat) : Int)).toNat 32 = 32 - m; omega
  rw [m1, m2]
  have e1 : (x : Int) / 2 ^ m = ((x / 2 ^ m : Nat) : Int) := by simp
  have e2 : (x : Int) * 2 ^ (32 - m) % 4294967296 = ((x * 2 ^ (32 - m) % 4294967296 : Nat) : Int) := by simp
  rw [e1, e2, u32_or_nat _ _ (Nat.lt_of_le_of_lt (Nat.div_le_self _ _) hx) (Nat.mod_lt _ (by decide))]
  unfold rotN
  rw [Nat.or_comm]
theorem rots2 (x a b : Nat) (hx : x < 4294967296) : bits .xor .u32 (rotN x a : Int) (rotN x b : Int) = ((rotsN x [a, b] : Nat) : Int) := by
  rw [u32_xor_nat _ _ (rotN_lt x a hx) (rotN_lt x b hx)]
  simp [rotsN]
theorem rots3 (x a b c : Nat) (hx : x < 4294967296) : bits .xor .u32 (bits .xor .u32 (rotN x a : Int) (rotN x b : Int)) (rotN x c : Int) = ((rotsN x [a, b, c] : Nat) : Int) := by
  rw [u32_xor_nat _ _ (rotN_lt x a hx) (rotN_lt x b hx), u32_xor_nat _ _ (xor_lt (rotN_lt x a hx) (rotN_lt x b hx)) (rotN_lt x c hx)]
  simp [rotsN]
theorem nat_ch (e f g : Nat) (hg : g < 2 ^ 32) : (e &&& f) ^^^ ((4294967295 ^^^ e) &&& g) = g ^^^ (e &&& (f ^^^ g)) := by
  apply Nat.eq_of_testBit_eq
  intro i
  simp only [Nat.testBit_xor, Nat.testBit_and]
  by_cases hi : i < 32
  · have : (4294967295 : Nat).testBit i = true := by rw [show (4294967295 : Nat) = 2 ^ 32 - 1 from rfl, Nat.testBit_two_pow_sub_one]; simpa using hi
    rw [this]
    cases e.testBit i <;> cases f.testBit i <;> cases g.testBit i <;> rfl
  · have : g.testBit i = false := Nat.testBit_lt_two_pow (Nat.lt_of_lt_of_le hg (Nat.pow_le_pow_right (by decide) (by omega)))
    rw [this]
    cases e.testBit i <;> cases f.testBit i <;> cases (4294967295 : Nat).testBit i <;> rfl
theorem nat_maj (a b c : Nat) : ((a &&& b) ^^^ (a &&& c)) ^^^ (b &&& c) = (a &&& b) ||| (c &&& (a ||| b)) := by
  apply Nat.eq_of_testBit_eq
  intro i
  simp only [Nat.testBit_xor, Nat.testBit_and, Nat.testBit_or]
  cases a.testBit i <;> cases b.testBit i <;> cases c.testBit i <;> rfl
theorem int_ch (e f g : Nat) (he : e < 4294967296) (hf : f < 4294967296) (hg : g < 4294967296) :
    bits .xor .u32 (bits .and .u32 (e : Int) (f : Int)) (bits .and .u32 (bits .xor .u32 IntKind.u32.max (e : Int)) (g : Int)) = ((g ^^^ (e &&& (f ^^^ g)) : Nat) : Int) := by
  have hm : IntKind.u32.max = ((4294967295 : Nat) : Int) := by decide
  rw [hm, u32_xor_nat 4294967295 e (by decide) he, u32_and_nat e f he hf, u32_and_nat _ g (xor_lt (by decide) he) hg, u32_xor_nat _ _ (and_lt hf) (and_lt hg), nat_ch e f g hg]
theorem int_maj (a b c : Nat) (ha : a < 4294967296) (hb : b < 4294967296) (hc : c < 4294967296) :
    bits .xor .u32 (bits .xor .u32 (bits .and .u32 (a : Int) (b : Int)) (bits .and .u32 (a : Int) (c : Int))) (bits .and .u32 (b : Int) (c : Int)) = (((a &&& b) ||| (c &&& (a ||| b)) : Nat) : Int) := by
  rw [u32_and_nat a b ha hb, u32_and_nat a c ha hc, u32_and_nat b c hb hc, u32_xor_nat _ _ (and_lt hb) (and_lt hc), u32_xor_nat _ _ (xor_lt (and_lt hb) (and_lt hc)) (and_lt hc), nat_maj]
theorem l2_all (k : Nat) (h0 h1 h2 h3 h4 h5 h6 h7 v0 v1 v2 v3 v4 v5 v6 v7 : Int) : codicilref03_block.l2 (k + 9) [h0, h1, h2, h3, h4, h5, h6, h7] [v0, v1, v2, v3, v4, v5, v6, v7] 0 =
    some [(v0 + h0) % 4294967296, (v1 + h1) % 4294967296, (v2 + h2) % 4294967296, (v3 + h3) % 4294967296, (v4 + h4) % 4294967296, (v5 + h5) % 4294967296, (v6 + h6) % 4294967296, (v7 + h7) % 4294967296] := by
  simp [codicilref03_block.l2, rd, wrap64]
theorem wnext (t : Nat) (h : t ≤ 100) : wrap64 ((t : Int) + 1) = ((t + 1 : Nat) : Int) := by unfold wrap64; omega
theorem l1_end (k : Nat) (h0 ks ws v : List Int) : codicilref03_block.l1 (k + 1) h0 ks ws v 64 = codicilref03_block.l2 k h0 v 0 := by
  simp only [codicilref03_block.l1]
  rw [if_neg (by decide)]
theorem l0_end (k : Nat) (h0 ks : List Int) (s : ByteArray) (x : List Int) (hh : h0.length < 35184372088832) : codicilref03_block.l0 (k + 1) h0 ks s x 64 = codicilref03_block.l1 k h0 ks x h0 0 := by
  simp only [codicilref03_block.l0]
  rw [if_neg (by decide)]
  simp only [Option.bind_some, List.nil_append, List.length_nil, Nat.zero_add]
  rw [if_pos hh]
set_option maxHeartbeats 1000000 in
theorem l1_step (k : Nat) (hs ks ws : List Nat) (h0 : List Int) (s : St) (t : Nat) (ht : t < 64) (hk : ks.length = 64) (hw : ws.length = 64) (hok : s.ok) (hkl : ∀ j, ks.getD j 0 < 4294967296) (hwl : ∀ j, ws.getD j 0 < 4294967296) :
    codicilref03_block.l1 (k + 1) h0 (natI ks) (natI ws) s.ints (t : Int) = codicilref03_block.l1 k h0 (natI ks) (natI ws) (s.next (ks.getD t 0) (ws.getD t 0)).ints ((t + 1 : Nat) : Int) := by
  have e3 : wrap64 ((t : Int) + 1) = ((t + 1 : Nat) : Int) := wnext t (by omega)
  have p1 : (t : Int) < 64 := Int.ofNat_lt.2 ht
  have p2 : (0 : Int) ≤ (t : Int) := Int.natCast_nonneg _
  obtain ⟨a, b, c, d, e, f, g, h⟩ := s
  obtain ⟨ha, hb, hc, hd, he, hf, hg, hh⟩ := hok
  simp only at ha hb hc hd he hf hg hh
  have r0 : rd (St.ints ⟨a, b, c, d, e, f, g, h⟩) 0 = (a : Int) := rfl
  have r1 : rd (St.ints ⟨a, b, c, d, e, f, g, h⟩) 1 = (b : Int) := rfl
  have r2 : rd (St.ints ⟨a, b, c, d, e, f, g, h⟩) 2 = (c : Int) := rfl
  have r3 : rd (St.ints ⟨a, b, c, d, e, f, g, h⟩) 3 = (d : Int) := rfl
  have r4 : rd (St.ints ⟨a, b, c, d, e, f, g, h⟩) 4 = (e : Int) := rfl
  have r5 : rd (St.ints ⟨a, b, c, d, e, f, g, h⟩) 5 = (f : Int) := rfl
  have r6 : rd (St.ints ⟨a, b, c, d, e, f, g, h⟩) 6 = (g : Int) := rfl
  have r7 : rd (St.ints ⟨a, b, c, d, e, f, g, h⟩) 7 = (h : Int) := rfl
  have hl : (St.ints ⟨a, b, c, d, e, f, g, h⟩).length = 8 := rfl
  have T6 : codicilref03_turn.f (e : Int) 6 = some (rotN e 6 : Int) := turn_rot e 6 he (by decide) (by decide)
  have T11 : codicilref03_turn.f (e : Int) 11 = some (rotN e 11 : Int) := turn_rot e 11 he (by decide) (by decide)
  have T25 : codicilref03_turn.f (e : Int) 25 = some (rotN e 25 : Int) := turn_rot e 25 he (by decide) (by decide)
  have T2 : codicilref03_turn.f (a : Int) 2 = some (rotN a 2 : Int) := turn_rot a 2 ha (by decide) (by decide)
  have T13 : codicilref03_turn.f (a : Int) 13 = some (rotN a 13 : Int) := turn_rot a 13 ha (by decide) (by decide)
  have T22 : codicilref03_turn.f (a : Int) 22 = some (rotN a 22 : Int) := turn_rot a 22 ha (by decide) (by decide)
  have c48 : ((8 : Nat) : Int) = 8 := rfl
  have c64 : ((64 : Nat) : Int) = 64 := rfl
  simp only [codicilref03_block.l1, r0, r1, r2, r3, r4, r5, r6, r7, hl, natI_len, hk, hw, rd_natI, T6, T11, T25, T2, T13, T22, Option.bind_some, c48, c64, Int.reduceLT, p1, p2, ite_true, e3]
  rw [rots3 e 6 11 25 he, int_ch e f g he hf hg, rots3 a 2 13 22 ha, int_maj a b c ha hb hc]
  simp only [wrap_add]
  rfl
theorem l1_all (k : Nat) (ks ws : List Nat) (s0 s : St) (d : Nat) (hk : ks.length = 64) (hw : ws.length = 64) (hs0 : s0.ok) (hkl : ∀ j, ks.getD j 0 < 4294967296) (hwl : ∀ j, ws.getD j 0 < 4294967296) : ∀ (t : Nat), t + d = 64 → s = s0.rounds ks ws t →
    codicilref03_block.l1 (k + 10 + d) s0.ints (natI ks) (natI ws) s.ints (t : Int) = some ((s0.rounds ks ws 64).plus s0).ints := by
  induction d generalizing s with
  | zero =>
    intro t ht hs
    obtain rfl : t = 64 := by omega
    subst hs
    rw [Nat.add_zero]
    refine (l1_end (k + 9) s0.ints (natI ks) (natI ws) _).trans ?_
    have := l2_all k s0.a s0.b s0.c s0.d s0.e s0.f s0.g s0.h (s0.rounds ks ws 64).a (s0.rounds ks ws 64).b (s0.rounds ks ws 64).c (s0.rounds ks ws 64).d (s0.rounds ks ws 64).e (s0.rounds ks ws 64).f (s0.rounds ks ws 64).g (s0.rounds ks ws 64).h
    simp only [wrap_add] at this
    exact this
  | succ d ih =>
    intro t ht hs
    have hok : s.ok := by rw [hs]; exact St.rounds_ok _ _ _ hs0 _
    have e1 : k + 10 + (d + 1) = (k + 10 + d) + 1 := by omega
    rw [e1, l1_step (k + 10 + d) [] ks ws s0.ints s t (by omega) hk hw hok hkl hwl]
    exact ih _ (t + 1) (by omega) (by rw [hs]; rfl)
theorem wi (n : Nat) (h : n ≤ 100000) : wrap64 (n : Int) = (n : Int) := by unfold wrap64; omega
theorem shl_byte (n m : Nat) (h : n * m < 4294967296) (hn : n < 4294967296) : ((n : Int) % 4294967296 * (m : Int)) % 4294967296 = ((n * m : Nat) : Int) := by
  have h1 : (n : Int) % 4294967296 = (n : Int) := Int.emod_eq_of_lt (Int.natCast_nonneg _) (Int.ofNat_lt.2 hn)
  rw [h1, ← Int.natCast_mul]
  exact Int.emod_eq_of_lt (Int.natCast_nonneg _) (Int.ofNat_lt.2 h)
theorem word_bits (b0 b1 b2 b3 : UInt8) : Go.bits .or .u32 (Go.bits .or .u32 (Go.bits .or .u32 ((((b0.toNat : Int) % 4294967296) * 16777216) % 4294967296) ((((b1.toNat : Int) % 4294967296) * 65536) % 4294967296)) ((((b2.toNat : Int) % 4294967296) * 256) % 4294967296)) ((b3.toNat : Int) % 4294967296) =
    ((((b0.toNat * 16777216 ||| b1.toNat * 65536) ||| b2.toNat * 256) ||| b3.toNat : Nat) : Int) := by
  have h0 := b0.toNat_lt
  have h1 := b1.toNat_lt
  have h2 := b2.toNat_lt
  have h3 := b3.toNat_lt
  have g0 : ∀ b : UInt8, b.toNat < 4294967296 := fun b => Nat.lt_trans b.toNat_lt (by decide)
  have l0 : b0.toNat * 16777216 < 4294967296 := Nat.lt_of_lt_of_le (Nat.mul_lt_mul_of_pos_right h0 (by decide)) (by decide)
  have l1 : b1.toNat * 65536 < 4294967296 := Nat.lt_of_lt_of_le (Nat.mul_lt_mul_of_pos_right h1 (by decide)) (by decide)
  have l2 : b2.toNat * 256 < 4294967296 := Nat.lt_of_lt_of_le (Nat.mul_lt_mul_of_pos_right h2 (by decide)) (by decide)
  have e0 : (((b0.toNat : Int) % 4294967296) * 16777216) % 4294967296 = ((b0.toNat * 16777216 : Nat) : Int) := shl_byte b0.toNat 16777216 l0 (g0 b0)
  have e1 : (((b1.toNat : Int) % 4294967296) * 65536) % 4294967296 = ((b1.toNat * 65536 : Nat) : Int) := shl_byte b1.toNat 65536 l1 (g0 b1)
  have e2 : (((b2.toNat : Int) % 4294967296) * 256) % 4294967296 = ((b2.toNat * 256 : Nat) : Int) := shl_byte b2.toNat 256 l2 (g0 b2)
  have e4 : (b3.toNat : Int) % 4294967296 = ((b3.toNat : Nat) : Int) := Int.emod_eq_of_lt (Int.natCast_nonneg _) (Int.ofNat_lt.2 (g0 b3))
  rw [e0, e1, e2, e4, u32_or_nat _ _ l0 l1, u32_or_nat _ _ (or_lt l0 l1) l2, u32_or_nat _ _ (or_lt (or_lt l0 l1) l2) (g0 b3)]
theorem bt_at' (s : ByteArray) (n : Nat) (h : n < s.size) : bt s (n : Int) = ((s.data.toList.getD n 0).toNat : Int) := by
  unfold bt
  rw [dif_pos (by omega)]
  simp only [Int.toNat_natCast]
  rw [List.getD_eq_getElem?_getD, List.getElem?_eq_getElem (by simpa using h)]
  rfl
theorem words_lt (b : List UInt8) : ∀ t j, (wordsN b t).getD j 0 < 4294967296
  | 0, j => by show ([] : List Nat).getD j 0 < _; simp
  | t + 1, j => by
    show (wordsN b t ++ [nextW b (wordsN b t)]).getD j 0 < _
    rw [List.getD_eq_getElem?_getD]
    by_cases h : j < t
    · rw [List.getElem?_append_left (by rw [wordsN_len]; exact h), ← List.getD_eq_getElem?_getD]
      exact words_lt b t j
    · rw [List.getElem?_append_right (by rw [wordsN_len]; omega), wordsN_len]
      by_cases h2 : j - t = 0
      · rw [h2]; exact nextW_lt _ _
      · rw [List.getElem?_eq_none (by simp; omega)]; decide
theorem l0_step (k : Nat) (h0 ks : List Int) (s : ByteArray) (hs : s.size = 64) (t : Nat) (ht : t < 64) :
    codicilref03_block.l0 (k + 1) h0 ks s (natI (wordsN s.data.toList t)) (t : Int) = codicilref03_block.l0 k h0 ks s (natI (wordsN s.data.toList (t + 1))) ((t + 1 : Nat) : Int) := by
  have hw : wordsN s.data.toList (t + 1) = wordsN s.data.toList t ++ [nextW s.data.toList (wordsN s.data.toList t)] := rfl
  have hlen := wordsN_len s.data.toList t
  have e3 : wrap64 ((t : Int) + 1) = ((t + 1 : Nat) : Int) := by unfold wrap64; omega
  have p1 : (t : Int) < 64 := by omega
  have hl : (natI (wordsN s.data.toList t)).length = t := by rw [natI_len, hlen]
  have p3 : t < 35184372088832 := by omega
  rw [hw, natI_app]
  simp only [codicilref03_block.l0, p1, ite_true, hl, p3, e3]
  by_cases h16 : t < 16
  · have q1 : (t : Int) < 16 := by omega
    have w0 : wrap64 (4 * (t : Int)) = ((4 * t : Nat) : Int) := by unfold wrap64; omega
    have w1 : wrap64 (((4 * t : Nat) : Int) + 1) = ((4 * t + 1 : Nat) : Int) := by unfold wrap64; omega
    have w2 : wrap64 (((4 * t : Nat) : Int) + 2) = ((4 * t + 2 : Nat) : Int) := by unfold wrap64; omega
    have w3 : wrap64 (((4 * t : Nat) : Int) + 3) = ((4 * t + 3 : Nat) : Int) := by unfold wrap64; omega
    have z0 : ((4 * t : Nat) : Int) < (s.size : Int) := by omega
    have z1 : ((4 * t + 1 : Nat) : Int) < (s.size : Int) := by omega
    have z2 : ((4 * t + 2 : Nat) : Int) < (s.size : Int) := by omega
    have z3 : ((4 * t + 3 : Nat) : Int) < (s.size : Int) := by omega
    have hn : nextW s.data.toList (wordsN s.data.toList t) = wordN s.data.toList t := by unfold nextW; rw [hlen, if_pos h16]
    have hwd : wordN s.data.toList t = ((((s.data.toList.getD (4 * t) 0).toNat * 16777216) ||| ((s.data.toList.getD (4 * t + 1) 0).toNat * 65536)) ||| ((s.data.toList.getD (4 * t + 2) 0).toNat * 256)) ||| (s.data.toList.getD (4 * t + 3) 0).toNat := rfl
    have b0 := bt_at' s (4 * t) (by omega)
    have b1 := bt_at' s (4 * t + 1) (by omega)
    have b2 := bt_at' s (4 * t + 2) (by omega)
    have b3 := bt_at' s (4 * t + 3) (by omega)
    have n0 : (0 : Int) ≤ ((4 * t : Nat) : Int) := Int.natCast_nonneg _
    have n1 : (0 : Int) ≤ ((4 * t + 1 : Nat) : Int) := Int.natCast_nonneg _
    have n2 : (0 : Int) ≤ ((4 * t + 2 : Nat) : Int) := Int.natCast_nonneg _
    have n3 : (0 : Int) ≤ ((4 * t + 3 : Nat) : Int) := Int.natCast_nonneg _
    simp only [q1, ite_true, w0, w1, w2, w3]
    rw [if_pos n0, if_pos z0, if_pos n1, if_pos z1, if_pos n2, if_pos z2, if_pos n3, if_pos z3, b0, b1, b2, b3, word_bits, hn, hwd]
    rfl
  · have q1 : ¬ (t : Int) < 16 := by omega
    have w15 : wrap64 ((t : Int) - 15) = ((t - 15 : Nat) : Int) := by unfold wrap64; omega
    have w2 : wrap64 ((t : Int) - 2) = ((t - 2 : Nat) : Int) := by unfold wrap64; omega
    have w7 : wrap64 ((t : Int) - 7) = ((t - 7 : Nat) : Int) := by unfold wrap64; omega
    have w16 : wrap64 ((t : Int) - 16) = ((t - 16 : Nat) : Int) := by unfold wrap64; omega
    have z15 : ((t - 15 : Nat) : Int) < (t : Int) := by omega
    have z2 : ((t - 2 : Nat) : Int) < (t : Int) := by omega
    have z7 : ((t - 7 : Nat) : Int) < (t : Int) := by omega
    have z16 : ((t - 16 : Nat) : Int) < (t : Int) := by omega
    have n15 : (0 : Int) ≤ ((t - 15 : Nat) : Int) := Int.natCast_nonneg _
    have n2 : (0 : Int) ≤ ((t - 2 : Nat) : Int) := Int.natCast_nonneg _
    have n7 : (0 : Int) ≤ ((t - 7 : Nat) : Int) := Int.natCast_nonneg _
    have n16 : (0 : Int) ≤ ((t - 16 : Nat) : Int) := Int.natCast_nonneg _
    have hX := words_lt s.data.toList t (t - 15)
    have hY := words_lt s.data.toList t (t - 2)
    have hn : nextW s.data.toList (wordsN s.data.toList t) = add32 (add32 (add32 (rotsN ((wordsN s.data.toList t).getD (t - 2) 0) [17, 19] ^^^ (wordsN s.data.toList t).getD (t - 2) 0 / 1024) ((wordsN s.data.toList t).getD (t - 7) 0)) (rotsN ((wordsN s.data.toList t).getD (t - 15) 0) [7, 18] ^^^ (wordsN s.data.toList t).getD (t - 15) 0 / 8)) ((wordsN s.data.toList t).getD (t - 16) 0) := by
      unfold nextW; rw [hlen, if_neg h16]
    simp only [q1, ite_false, w15, w2, w7, w16, rd_natI, hn]
    clear hn hw hl
    generalize (wordsN s.data.toList t).getD (t - 15) 0 = X at *
    generalize (wordsN s.data.toList t).getD (t - 2) 0 = Y at *
    generalize (wordsN s.data.toList t).getD (t - 7) 0 = P at *
    generalize (wordsN s.data.toList t).getD (t - 16) 0 = Q at *
    have T17 : codicilref03_turn.f (Y : Int) 17 = some (rotN Y 17 : Int) := turn_rot Y 17 hY (by decide) (by decide)
    have T19 : codicilref03_turn.f (Y : Int) 19 = some (rotN Y 19 : Int) := turn_rot Y 19 hY (by decide) (by decide)
    have T7 : codicilref03_turn.f (X : Int) 7 = some (rotN X 7 : Int) := turn_rot X 7 hX (by decide) (by decide)
    have T18 : codicilref03_turn.f (X : Int) 18 = some (rotN X 18 : Int) := turn_rot X 18 hX (by decide) (by decide)
    rw [if_pos n15, if_pos z15, if_pos n2, if_pos z2]
    simp only [T17, T19, T7, T18, Option.bind_some]
    rw [if_pos n7, if_pos z7, if_pos n16, if_pos z16, rots2 Y 17 19 hY, rots2 X 7 18 hX, step_val X Y P Q _ _ hX hY (rotsN_lt Y hY _) (rotsN_lt X hX _)]
    rfl
theorem l0_all (k : Nat) (ks : List Nat) (s : ByteArray) (hs : s.size = 64) (s0 : St) (hs0 : s0.ok) (hk : ks.length = 64) (hkl : ∀ j, ks.getD j 0 < 4294967296) (d : Nat) : ∀ t, t + d = 64 →
    codicilref03_block.l0 (k + 75 + d) s0.ints (natI ks) s (natI (wordsN s.data.toList t)) (t : Int) = some (blockN s0 ks s.data.toList).ints := by
  induction d with
  | zero =>
    intro t ht
    obtain rfl : t = 64 := by omega
    rw [Nat.add_zero]
    refine (l0_end (k + 74) s0.ints (natI ks) s _ (show 8 < 35184372088832 by decide)).trans ?_
    exact l1_all k ks (wordsN s.data.toList 64) s0 s0 64 hk (wordsN_len _ _) hs0 hkl (words_lt _ _) 0 rfl rfl
  | succ d ih =>
    intro t ht
    have e1 : k + 75 + (d + 1) = (k + 75 + d) + 1 := by omega
    rw [e1, l0_step (k + 75 + d) s0.ints (natI ks) s hs t (by omega)]
    exact ih (t + 1) (by omega)
theorem block_law (s : St) (ks : List Nat) (b : ByteArray) (hs : s.ok) (hk : ks.length = 64) (hkl : ∀ j, ks.getD j 0 < 4294967296) (hb : b.size = 64) : codicilref03_block.f 139 s.ints (natI ks) b = some (blockN s ks b.data.toList).ints := by
  unfold codicilref03_block.f
  exact l0_all 0 ks b hb s hs hk hkl 64 0 rfl
end Go.Proofs.Ytkcjekboakoejaa.Print
