/- Plain law: the digits of bytes and the bytes of digits; the reference's are the program's. -/
import Derived.Test.YtkcjekboakoejaaHS3
import Derived.Test.YtkcjekboakoejaaHAlive03
import Derived.Test.YtkcjekboakoejaaPrint1
import Derived.Test.YtkcjekboakoejaaPrint2
namespace Go.Proofs.Ytkcjekboakoejaa.Print
open Go.RowKit Go.Proofs.YtkcjekboakoejaaW.PrintWords Go.Proofs.YtkcjekboakoejaaW.PrintLast
set_option linter.unusedVariables false
set_option linter.unusedSimpArgs false

theorem w64 {n : Int} (h : -9223372036854775808 ≤ n ∧ n ≤ 9223372036854775807) : wrap64 n = n := by unfold wrap64; omega
def ints (l : List UInt8) : List Int := l.map (fun x : UInt8 => (x.toNat : Int))
theorem ints_len (l : List UInt8) : (ints l).length = l.length := List.length_map _
theorem ints_app (a b : List UInt8) : ints (a ++ b) = ints a ++ ints b := List.map_append
theorem str_ints (l : List UInt8) : strOfNums (ints l) = ⟨l.toArray⟩ := by
  unfold strOfNums ints
  rw [List.map_map]
  congr 1
  congr 1
  conv => rhs; rw [← List.map_id l]
  refine List.map_congr_left fun x _ => ?_
  simp
theorem bt_nat (s : ByteArray) (i : Nat) (h : i < s.size) : bt s (i : Int) = ((s.data.toList.getD i 0).toNat : Int) := by
  unfold bt
  have h' : (i : Int).toNat < s.size := by omega
  rw [dif_pos h']
  have e : (i : Int).toNat = i := by omega
  simp only [e]
  rw [List.getD_eq_getElem?_getD, List.getElem?_eq_getElem (by simpa using h)]
  rfl
theorem bt_dig : ∀ n : Fin 16, bt (⟨#[48, 49, 50, 51, 52, 53, 54, 55, 56, 57, 97, 98, 99, 100, 101, 102]⟩ : ByteArray) (n.val : Int) = ((dig16 n.val).toNat : Int) := by decide +kernel
theorem and_nib : ∀ c : Fin 256, Go.bits .and .u8 (c.val : Int) 15 = ((c.val % 16 : Nat) : Int) := by decide +kernel
theorem small2 {l n : Nat} (h : l ≤ 2 * n) (hn : n ≤ 8192) : l + 2 < 140737488355328 := by omega
theorem wsucc {i : Nat} (h : i ≤ 8192) : wrap64 ((i : Int) + 1) = ((i + 1 : Nat) : Int) := by unfold wrap64; omega
theorem wquo {i : Nat} (h : i ≤ 8192) : wrap64 (Int.tdiv (i : Int) 2) = ((i / 2 : Nat) : Int) := by
  rw [Int.tdiv_eq_ediv_of_nonneg (by omega)]; unfold wrap64; omega
theorem nib_lt (c : UInt8) : c.toNat / 16 < 16 ∧ c.toNat % 16 < 16 ∧ (c.toNat : Int) / 16 = ((c.toNat / 16 : Nat) : Int) := by have := c.toNat_lt; omega
theorem hexl_loop (s : ByteArray) (hs : s.size ≤ 8192) (d : Nat) : ∀ (k i : Nat), i + d = s.size → d < k →
    codicilref03_Hex.l0 k s (ints (hexL (s.data.toList.take i))) (i : Int) = some ⟨(hexL s.data.toList).toArray⟩ := by
  induction d with
  | zero =>
    intro k i hi hk
    obtain ⟨k, rfl⟩ : ∃ m, k = m + 1 := ⟨k - 1, by omega⟩
    obtain rfl : i = s.size := by omega
    simp only [codicilref03_Hex.l0]
    rw [if_neg (by omega), List.take_of_length_le (by simp), str_ints]
  | succ d ih =>
    intro k i hi hk
    obtain ⟨k, rfl⟩ : ∃ m, k = m + 1 := ⟨k - 1, by omega⟩
    have hlt : i < s.size := by omega
    have i8 : i ≤ 8192 := by omega
    have hd1 : i + 1 + d = s.size := by omega
    have hd2 : d < k := by omega
    have hIH := ih k (i + 1) hd1 hd2
    clear ih hi hk hd1 hd2
    have hb := bt_nat s i hlt
    have hts := take_snoc' s.data.toList i (by simpa using hlt)
    have hsn := hexL_snoc (s.data.toList.getD i 0) (s.data.toList.take i)
    rw [← hts] at hsn
    generalize s.data.toList.getD i 0 = c at *
    obtain ⟨n1, n2, e1⟩ := nib_lt c
    have a1 := and_nib ⟨c.toNat, c.toNat_lt⟩
    have g1 := bt_dig ⟨c.toNat / 16, n1⟩
    have g2 := bt_dig ⟨c.toNat % 16, n2⟩
    simp only at a1 g1 g2
    simp only [codicilref03_Hex.l0]
    rw [if_pos (Int.ofNat_lt.2 hlt), if_pos (Int.natCast_nonneg _), hb, e1, a1, if_pos (Int.natCast_nonneg _), if_pos (show ((c.toNat / 16 : Nat) : Int) < 16 from Int.ofNat_lt.2 n1), if_pos (Int.natCast_nonneg _), if_pos (show ((c.toNat % 16 : Nat) : Int) < 16 from Int.ofNat_lt.2 n2), g1, g2]
    simp only [Option.bind_some]
    have hl : (ints (hexL (s.data.toList.take i))).length ≤ 2 * i := by rw [ints_len, hexL_len, List.length_take]; exact Nat.mul_le_mul_left 2 (Nat.min_le_left _ _)
    have e2 : (ints (hexL (s.data.toList.take i)) ++ [((dig16 (c.toNat / 16)).toNat : Int), ((dig16 (c.toNat % 16)).toNat : Int)]) = ints (hexL (s.data.toList.take (i + 1))) := by
      rw [hsn, List.append_assoc, ints_app]; rfl
    rw [if_pos (show (ints (hexL (s.data.toList.take i))).length + [((dig16 (c.toNat / 16)).toNat : Int), ((dig16 (c.toNat % 16)).toNat : Int)].length < 140737488355328 from small2 hl i8), e2, wsucc i8]
    exact hIH
theorem hexr_ev (s : ByteArray) (hs : s.size ≤ 8192) (k : Nat) (hk : s.size < k) : codicilref03_Hex.f k s = some ⟨(hexL s.data.toList).toArray⟩ := by
  unfold codicilref03_Hex.f
  have h := hexl_loop s hs s.size k 0 (by omega) hk
  have e : ints (hexL (s.data.toList.take 0)) = [] := rfl
  rw [e] at h
  exact h
/-- The inner loop of the reference's Bytes: the last digit that is c. -/
def lastD (c : Int) : Nat → Int → Int → Int
  | 0, d, _ => d
  | k + 1, d, i => if bt (⟨#[48, 49, 50, 51, 52, 53, 54, 55, 56, 57, 97, 98, 99, 100, 101, 102]⟩ : ByteArray) i = c then lastD c k i (i + 1) else lastD c k d (i + 1)
theorem last_tab : ∀ c : Fin 256, lastD (c.val : Int) 16 (-1) 0 = if nibN (UInt8.ofNat c.val) < 16 then (nibN (UInt8.ofNat c.val) : Int) else -1 := by decide +kernel
theorem l1_loop (s : ByteArray) (x4 : List Int) (i : Nat) (hi : i < s.size) (d : Nat) : ∀ (k j : Nat) (x6 : Int), j + d = 16 →
    codicilref03_Bytes.l1 (k + d) s x4 (i : Int) x6 (j : Int) = codicilref03_Bytes.l1 k s x4 (i : Int) (lastD (bt s i) d x6 j) 16 := by
  induction d with
  | zero =>
    intro k j x6 hj
    obtain rfl : j = 16 := by omega
    rfl
  | succ d ih =>
    intro k j x6 hj
    have e : k + (d + 1) = (k + d) + 1 := by omega
    have e3 : wrap64 ((j : Int) + 1) = ((j + 1 : Nat) : Int) := by rw [w64 (by omega)]; omega
    rw [e]
    simp only [codicilref03_Bytes.l1]
    rw [if_pos (by omega), if_pos (by omega), if_pos (by omega), if_pos (by omega), e3, ih k (j + 1) _ (by omega), ih k (j + 1) _ (by omega)]
    simp only [lastD]
    have e4 : ((j + 1 : Nat) : Int) = (j : Int) + 1 := by omega
    rw [e4]
    split <;> rfl
/-- The reference's buffer behind i digits. -/
def bufAt (s : ByteArray) (i : Nat) : List Int := ints (unhexN (s.data.toList.take i)) ++ List.replicate (s.size / 2 - (i + 1) / 2) 0
theorem or0_nib : ∀ d : Fin 16, Go.bits .or .u8 (0 * 16 % 256) ((d.val : Int) % 256) = (d.val : Int) := by decide +kernel
theorem orn_nib : ∀ y d : Fin 16, Go.bits .or .u8 ((y.val : Int) * 16 % 256) ((d.val : Int) % 256) = ((y.val * 16 + d.val : Nat) : Int) := by decide +kernel
theorem bufAt_step (s : ByteArray) (i : Nat) (hi : i < s.size) (hev : s.size % 2 = 0) (hv : ∀ c ∈ s.data.toList.take i, nibN c < 16) (hn : nibN (s.data.toList.getD i 0) < 16) :
    i / 2 < (bufAt s i).length ∧ (bufAt s i).set (i / 2) (Go.bits .or .u8 (((rd (bufAt s i) ((i / 2 : Nat) : Int)) * 16) % 256) ((nibN (s.data.toList.getD i 0) : Int) % 256)) = bufAt s (i + 1) := by
  have hts := take_snoc' s.data.toList i (by simpa using hi)
  have hlk : (s.data.toList.take i).length = i := by simp; omega
  have hul := unhex_len (s.data.toList.take i)
  have hev' := unhex_even (s.data.toList.getD i 0) (s.data.toList.take i)
  have hod' := unhex_odd (s.data.toList.getD i 0) (s.data.toList.take i)
  rw [← hts] at hev' hod'
  rw [hlk] at hul hev' hod'
  unfold bufAt
  generalize s.data.toList.getD i 0 = c at *
  generalize unhexN (s.data.toList.take (i + 1)) = m1 at *
  generalize unhexN (s.data.toList.take i) = m0 at *
  refine ⟨by rw [List.length_append, ints_len, hul, List.length_replicate]; omega, ?_⟩
  by_cases hp : i % 2 = 0
  · have h1 := hev' (i / 2) (by omega)
    obtain ⟨r, hr⟩ : ∃ r, s.size / 2 - (i + 1) / 2 = r + 1 := ⟨s.size / 2 - (i + 1) / 2 - 1, by omega⟩
    have hr2 : s.size / 2 - (i + 1 + 1) / 2 = r := by omega
    have hm : (ints m0).length = i / 2 := by rw [ints_len, hul]; omega
    have hrd : rd (ints m0 ++ List.replicate (r + 1) 0) ((i / 2 : Nat) : Int) = 0 := by
      unfold rd
      rw [Int.toNat_natCast, List.getD_eq_getElem?_getD, List.getElem?_append_right (by omega)]
      simp [List.replicate_succ, hm]
    rw [hr, hr2, hrd, or0_nib ⟨nibN c, hn⟩, h1, ints_app, List.append_assoc, List.set_append_right _ _ (by omega), hm, Nat.sub_self, List.replicate_succ]
    have : (UInt8.ofNat (nibN c)).toNat = nibN c := by simp; omega
    simp [ints, this]
  · obtain ⟨h0, h1⟩ := hod' (i / 2) (by omega) hv
    have hr2 : s.size / 2 - (i + 1 + 1) / 2 = s.size / 2 - (i + 1) / 2 := by omega
    have hm : (ints m0).length = i / 2 + 1 := by rw [ints_len, hul]; omega
    have hm0 : m0.length = i / 2 + 1 := by rw [hul]; omega
    have hrd : rd (ints m0 ++ List.replicate (s.size / 2 - (i + 1) / 2) 0) ((i / 2 : Nat) : Int) = ((m0.getD (i / 2) 0).toNat : Int) := by
      unfold rd
      rw [Int.toNat_natCast, List.getD_eq_getElem?_getD, List.getElem?_append_left (by omega)]
      simp [ints, List.getD, List.getElem?_eq_getElem (show i / 2 < m0.length by omega)]
    rw [hrd, hr2, orn_nib ⟨_, h0⟩ ⟨nibN c, hn⟩, h1, List.set_append_left _ _ (by omega)]
    congr 1
    unfold ints
    rw [List.map_set]
    congr 1
    have hh : (UInt8.ofNat ((m0.getD (i / 2) 0).toNat * 16 + nibN c)).toNat = (m0.getD (i / 2) 0).toNat * 16 + nibN c := by rw [UInt8.toNat_ofNat']; omega
    rw [hh]
theorem bytes_loop (s : ByteArray) (hs : s.size ≤ 8192) (hev : s.size % 2 = 0) (d : Nat) : ∀ (k i : Nat), i + d = s.size → 19 * (d + 1) < k → (∀ c ∈ s.data.toList.take i, nibN c < 16) →
    codicilref03_Bytes.l0 k s (bufAt s i) (i : Int) = some (unhexP s.data.toList) := by
  induction d with
  | zero =>
    intro k i hi hk hv
    obtain ⟨k, rfl⟩ : ∃ m, k = m + 1 := ⟨k - 1, by omega⟩
    obtain rfl : i = s.size := by omega
    have htk : s.data.toList.take s.size = s.data.toList := List.take_of_length_le (by simp)
    simp only [codicilref03_Bytes.l0]
    rw [if_neg (by omega)]
    unfold bufAt unhexP
    rw [htk] at hv ⊢
    have h0 : s.size / 2 - (s.size + 1) / 2 = 0 := by omega
    rw [h0, List.replicate_zero, List.append_nil, str_ints, if_pos]
    simp only [Bool.and_eq_true, List.all_eq_true, decide_eq_true_eq, Array.length_toList, beq_iff_eq]
    exact ⟨hv, hev⟩
  | succ d ih =>
    intro k i hi hk hv
    obtain ⟨k, rfl⟩ : ∃ m, k = m + 1 + 1 + 16 + 1 := ⟨k - 19, by omega⟩
    have hlt : i < s.size := by omega
    have i8 : i ≤ 8192 := by omega
    have hd1 : i + 1 + d = s.size := by omega
    have hd2 : 19 * (d + 1) < k + 1 := by omega
    have hIH := ih (k + 1) (i + 1) hd1 hd2
    clear ih hi hk hd1 hd2
    have hb := bt_nat s i hlt
    have hl := l1_loop s (bufAt s i) i hlt 16 (k + 1 + 1) 0 (-1) rfl
    have ht := last_tab ⟨(s.data.toList.getD i 0).toNat, (s.data.toList.getD i 0).toNat_lt⟩
    simp only at ht
    rw [UInt8.ofNat_toNat, ← hb] at ht
    have z0 : ((0 : Nat) : Int) = 0 := rfl
    rw [z0, ht] at hl
    simp only [codicilref03_Bytes.l0]
    rw [if_pos (Int.ofNat_lt.2 hlt), hl]
    have hts := take_snoc' s.data.toList i (by simpa using hlt)
    by_cases hn : nibN (s.data.toList.getD i 0) < 16
    · have hst := bufAt_step s i hlt hev hv hn
      rw [if_pos hn]
      simp only [codicilref03_Bytes.l1]
      rw [if_neg (by decide), if_neg (Int.not_lt.2 (Int.natCast_nonneg _)), wquo i8, if_pos (Int.natCast_nonneg _), if_pos (Int.ofNat_lt.2 hst.1), Int.toNat_natCast, hst.2, wsucc i8]
      refine hIH ?_
      rw [hts]
      intro c hc
      rcases List.mem_append.1 hc with h | h
      · exact hv c h
      · simp only [List.mem_singleton] at h; rw [h]; exact hn
    · rw [if_neg hn]
      simp only [codicilref03_Bytes.l1]
      rw [if_neg (by decide), if_pos (by decide)]
      unfold unhexP
      rw [if_neg]
      simp only [Bool.and_eq_true, List.all_eq_true, decide_eq_true_eq, not_and]
      intro h
      exact absurd (h _ (by rw [List.getD_eq_getElem?_getD, List.getElem?_eq_getElem (by simpa using hlt)]; simp)) hn
theorem bytesr_ev (s : ByteArray) (hs : s.size ≤ 8192) (k : Nat) (hk : 19 * (s.size + 1) < k) : codicilref03_Bytes.f k s = some (unhexP s.data.toList) := by
  unfold codicilref03_Bytes.f
  by_cases hev : s.size % 2 = 0
  · have e2 : wrap64 ((s.size : Int) / 2) = ((s.size / 2 : Nat) : Int) := by rw [w64 (by omega)]; omega
    rw [if_pos (by omega), e2, if_pos (by omega), if_pos (by omega), Int.toNat_natCast]
    have := bytes_loop s hs hev s.size k 0 (by omega) hk (by simp)
    unfold bufAt at this
    simpa [unhexN, ints] using this
  · rw [if_neg (by omega)]
    unfold unhexP
    rw [if_neg]
    simp [hev]
/-- Each is the other one's. -/
theorem dig_nib : ∀ n : Fin 16, nibN (dig16 n.val) = n.val := by decide +kernel
theorem nib_dig : ∀ c : Fin 256, nibN (UInt8.ofNat c.val) < 16 → dig16 (nibN (UInt8.ofNat c.val)) = UInt8.ofNat c.val := by decide +kernel
theorem nibdig (c : UInt8) (h : nibN c < 16) : dig16 (nibN c) = c := by
  have := nib_dig ⟨c.toNat, c.toNat_lt⟩
  simp only [UInt8.ofNat_toNat] at this
  exact this h
theorem unhex_hex : ∀ l : List UInt8, unhexN (hexL l) = l ∧ (∀ c ∈ hexL l, nibN c < 16) ∧ (hexL l).length % 2 = 0
  | [] => ⟨rfl, by simp [hexL], rfl⟩
  | c :: r => by
    obtain ⟨h1, h2, h3⟩ := unhex_hex r
    have hc := c.toNat_lt
    have d1 := dig_nib ⟨c.toNat / 16, by omega⟩
    have d2 := dig_nib ⟨c.toNat % 16, by omega⟩
    simp only at d1 d2
    refine ⟨?_, ?_, ?_⟩
    · simp only [hexL, unhexN, h1, d1, d2]
      have : c.toNat / 16 * 16 + c.toNat % 16 = c.toNat := by omega
      rw [this, UInt8.ofNat_toNat]
    · intro x hx
      simp only [hexL, List.mem_cons] at hx
      rcases hx with rfl | rfl | hx
      · rw [d1]; omega
      · rw [d2]; omega
      · exact h2 x hx
    · simp only [hexL, List.length_cons]; omega
theorem hex_unhex : ∀ l : List UInt8, (∀ c ∈ l, nibN c < 16) → l.length % 2 = 0 → hexL (unhexN l) = l
  | [], _, _ => rfl
  | [c], _, h => by simp at h
  | c :: e :: r, hv, h => by
    have h1 := hv c (by simp)
    have h2 := hv e (by simp)
    have ih := hex_unhex r (fun x hx => hv x (by simp [hx])) (by simp only [List.length_cons] at h; omega)
    simp only [unhexN, hexL, ih]
    have e0 : (UInt8.ofNat (nibN c * 16 + nibN e)).toNat = nibN c * 16 + nibN e := by simp; omega
    have e1 : (nibN c * 16 + nibN e) / 16 = nibN c := by omega
    have e2 : (nibN c * 16 + nibN e) % 16 = nibN e := by omega
    rw [e0, e1, e2, nibdig c h1, nibdig e h2]
theorem shaHex_pure : codicillaw03_ShaHex.Pure := by
  intro s h _ _
  refine ⟨200000, ?_⟩
  unfold codicillaw03_ShaHex.f
  have hal : ∀ k b, codicillaw03_ShaHex.j0 (k + 1) s h true = some b ↔ codicillaw03_alive.f = some b := fun k b => by
    simp only [codicillaw03_ShaHex.j0, if_true, Option.bind_some]
    cases codicillaw03_alive.f <;> simp
  by_cases h1 : (s.size : Int) > 4096
  · rw [if_pos h1]
    exact (hal 199999 true).2 alive03_at
  rw [if_neg h1]
  by_cases h2 : (h.size : Int) > 4096
  · rw [decide_eq_true h2]
    exact (hal 199999 true).2 alive03_at
  rw [decide_eq_false h2]
  have g1 : sha_Bytes.f h = some (unhexP h.data.toList) := by unfold sha_Bytes.f; rw [if_pos (by omega)]
  have g2 := bytesr_ev h (by omega) 199999 (by omega)
  have g3 : sha_Hex.f s = some ⟨(hexL s.data.toList).toArray⟩ := by unfold sha_Hex.f; rw [if_pos (by omega)]
  have g4 := hexr_ev s (by omega) 199999 (by omega)
  have hj1 : codicillaw03_ShaHex.j1 199999 s false = some true := by
    obtain ⟨u1, u2, u3⟩ := unhex_hex s.data.toList
    have hz : (⟨(hexL s.data.toList).toArray⟩ : ByteArray).size = 2 * s.size := by
      show (hexL s.data.toList).toArray.size = _
      rw [List.size_toArray, hexL_len]; simp
    have g5 : sha_Bytes.f ⟨(hexL s.data.toList).toArray⟩ = some (s, true) := by
      unfold sha_Bytes.f
      rw [if_pos (by rw [hz]; omega)]
      unfold unhexP
      rw [if_pos]
      · simp only [u1]
      · simp only [Bool.and_eq_true, List.all_eq_true, decide_eq_true_eq, beq_iff_eq]
        exact ⟨u2, u3⟩
    simp only [codicillaw03_ShaHex.j1, Bool.false_eq_true, if_false, g3, g5, Option.bind_some, if_true, alive03_at]
  simp only [codicillaw03_ShaHex.j0, Bool.false_eq_true, if_false, g1, g2, Option.bind_some, if_true, g3, g4, bne_self_eq_false]
  cases hb : (unhexP h.data.toList).2 with
  | false => rw [if_neg (by simp)]; exact hj1
  | true =>
    rw [if_pos rfl]
    unfold unhexP at hb ⊢
    split at hb
    · rename_i hc
      rw [if_pos hc]
      simp only [Bool.and_eq_true, List.all_eq_true, decide_eq_true_eq, beq_iff_eq] at hc
      have hz : (⟨(unhexN h.data.toList).toArray⟩ : ByteArray).size ≤ 8192 := by
        show (unhexN h.data.toList).toArray.size ≤ _
        rw [List.size_toArray, unhex_len]; simp; omega
      have g6 : sha_Hex.f ⟨(unhexN h.data.toList).toArray⟩ = some h := by
        unfold sha_Hex.f
        rw [if_pos hz]
        simp only [hex_unhex _ hc.1 hc.2]
      simp only [g6, Option.bind_some, if_true]
      exact hj1
    · cases hb
end Go.Proofs.Ytkcjekboakoejaa.Print
