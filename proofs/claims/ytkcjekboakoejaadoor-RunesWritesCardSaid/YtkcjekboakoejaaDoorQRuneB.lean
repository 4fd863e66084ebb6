/- Plain law of code points and their bytes: of texts. -/
import Derived.Test.YtkcjekboakoejaaDoorQRune
import Derived.Test.YtkcjekboakoejaaDoorHRFirst
import Derived.Laws.RangeAny
namespace Go.Proofs.YtkcjekboakoejaaDoor.Print
set_option linter.unusedVariables false
set_option linter.unusedSimpArgs false

/-- Byte i, as a number; 0 behind the end. -/
def g (s : ByteArray) (i : Nat) : Nat := (s.data.toList.getD i 0).toNat
theorem g_lt (s : ByteArray) (i : Nat) : g s i < 256 := UInt8.toNat_lt _
theorem g_at (s : ByteArray) (i : Nat) (h : i < s.data.toList.length) : g s i = (s.data.toList[i]).toNat := by
  unfold g
  rw [List.getD_eq_getElem?_getD, List.getElem?_eq_getElem h]
  rfl
theorem get_g (s : ByteArray) (i : Nat) : (s.get! i).toNat = g s i := by
  by_cases h : i < s.size
  · have h1 := get_at s i h
    rw [Nat.add_zero] at h1
    rw [h1, g_at s i (by rw [Array.length_toList]; exact h)]
    rfl
  · have h1 : s.data.toList.length ≤ i := by rw [Array.length_toList]; exact Nat.le_of_not_lt h
    have h2 : ¬ i < s.data.size := h
    unfold g
    rw [List.getD_eq_getElem?_getD, List.getElem?_eq_none h1]
    simp only [ByteArray.get!]
    rw [getElem!_neg s.data i h2]
    rfl
theorem take_match (s : ByteArray) (pos : Nat) (l : List UInt8) (hl : 1 ≤ l.length ∧ l.length ≤ 4) : (l.length + pos ≤ s.size ∧ (s.data.toList.drop pos).take l.length = l) ↔ matchN (l.map UInt8.toNat) (s.size - pos) (g s pos) (g s (pos + 1)) (g s (pos + 2)) (g s (pos + 3)) := by
  have hn : s.data.toList.length = s.size := by rw [Array.length_toList]; rfl
  by_cases hz : l.length + pos ≤ s.size
  · match l, hl, hz with
    | [x], _, hz =>
      simp only [List.length_cons, List.length_nil] at hz ⊢
      rw [List.drop_eq_getElem_cons (by omega)]
      simp only [matchN, List.map, g_at s pos (by omega), List.take, ← UInt8.toNat_inj, List.cons.injEq, and_true]
      constructor
      · rintro ⟨_, h⟩; exact ⟨by omega, h.symm⟩
      · rintro ⟨_, h⟩; exact ⟨by omega, h.symm⟩
    | [x, y], _, hz =>
      simp only [List.length_cons, List.length_nil] at hz ⊢
      rw [List.drop_eq_getElem_cons (by omega), List.drop_eq_getElem_cons (i := pos + 1) (by omega)]
      simp only [matchN, List.map, g_at s pos (by omega), g_at s (pos + 1) (by omega), List.take, ← UInt8.toNat_inj, List.cons.injEq, and_true]
      constructor
      · rintro ⟨_, h, h1⟩; exact ⟨by omega, h.symm, h1.symm⟩
      · rintro ⟨_, h, h1⟩; exact ⟨by omega, h.symm, h1.symm⟩
    | [x, y, z], _, hz =>
      simp only [List.length_cons, List.length_nil] at hz ⊢
      rw [List.drop_eq_getElem_cons (by omega), List.drop_eq_getElem_cons (i := pos + 1) (by omega), List.drop_eq_getElem_cons (i := pos + 1 + 1) (by omega)]
      simp only [matchN, List.map, g_at s pos (by omega), g_at s (pos + 1) (by omega), g_at s (pos + 2) (by omega), List.take, ← UInt8.toNat_inj, List.cons.injEq, and_true]
      constructor
      · rintro ⟨_, h, h1, h2⟩; exact ⟨by omega, h.symm, h1.symm, h2.symm⟩
      · rintro ⟨_, h, h1, h2⟩; exact ⟨by omega, h.symm, h1.symm, h2.symm⟩
    | [x, y, z, u], _, hz =>
      simp only [List.length_cons, List.length_nil] at hz ⊢
      rw [List.drop_eq_getElem_cons (by omega), List.drop_eq_getElem_cons (i := pos + 1) (by omega), List.drop_eq_getElem_cons (i := pos + 1 + 1) (by omega), List.drop_eq_getElem_cons (i := pos + 1 + 1 + 1) (by omega)]
      simp only [matchN, List.map, g_at s pos (by omega), g_at s (pos + 1) (by omega), g_at s (pos + 2) (by omega), g_at s (pos + 3) (by omega), List.take, ← UInt8.toNat_inj, List.cons.injEq, and_true]
      constructor
      · rintro ⟨_, h, h1, h2, h3⟩; exact ⟨by omega, h.symm, h1.symm, h2.symm, h3.symm⟩
      · rintro ⟨_, h, h1, h2, h3⟩; exact ⟨by omega, h.symm, h1.symm, h2.symm, h3.symm⟩
  · refine ⟨fun h => absurd h.1 hz, fun h => ?_⟩
    exfalso
    match l, hl, hz, h with
    | [x], _, hz, h => have := h.1; simp at hz; omega
    | [x, y], _, hz, h => have := h.1; simp at hz; omega
    | [x, y, z], _, hz, h => have := h.1; simp at hz; omega
    | [x, y, z, u], _, hz, h => have := h.1; simp at hz; omega
theorem valid_rune {r : Nat} (hv : validN r) : Lib.validRune (r : Int) = true := by
  unfold validN at hv
  simp only [Lib.validRune, decide_eq_true_eq]
  omega
theorem utf8_valid {r : Nat} (hv : validN r) : Utf8.valid (r : Int) = true := by
  unfold validN at hv
  simp only [Utf8.valid, Bool.or_eq_true, Bool.and_eq_true, decide_eq_true_eq]
  omega
theorem ofNat_lt {n : Nat} (h : n < 256) : (UInt8.ofNat n).toNat = n := by
  rw [UInt8.toNat_ofNat']
  exact Nat.mod_eq_of_lt h
set_option maxRecDepth 1000000 in
theorem bytesP_list {r : Nat} (hv : validN r) : (bytesP (r : Int)).data.toList.map UInt8.toNat = enc r := by
  have h1 := valid_rune hv
  have h2 := utf8_valid hv
  have hr : r ≤ 1114111 := by unfold validN at hv; omega
  unfold bytesP
  rw [if_pos h1]
  simp only [Utf8.encode, h2, if_true, Int.toNat_natCast]
  unfold enc
  by_cases c1 : r < 128
  · simp only [c1, if_true, List.map, ofNat_lt (show r < 256 by omega)]
  by_cases c2 : r < 2048
  · simp only [c1, c2, if_true, if_false, List.map, ofNat_lt (show 192 + r / 64 < 256 by omega), ofNat_lt (show 128 + r % 64 < 256 by omega)]
  by_cases c3 : r < 65536
  · simp only [c1, c2, c3, if_true, if_false, List.map, ofNat_lt (show 224 + r / 4096 < 256 by omega), ofNat_lt (show 128 + r / 64 % 64 < 256 by omega), ofNat_lt (show 128 + r % 64 < 256 by omega)]
  · simp only [c1, c2, c3, if_false, List.map, ofNat_lt (show 240 + r / 262144 < 256 by omega), ofNat_lt (show 128 + r / 4096 % 64 < 256 by omega), ofNat_lt (show 128 + r / 64 % 64 < 256 by omega), ofNat_lt (show 128 + r % 64 < 256 by omega)]
set_option maxRecDepth 1000000 in
theorem bytesP_size {r : Nat} (hv : validN r) : (bytesP (r : Int)).size = (enc r).length := by
  rw [← bytesP_list hv, List.length_map, Array.length_toList]
  rfl
theorem enc_range (r : Nat) : 1 ≤ (enc r).length ∧ (enc r).length ≤ 4 := by
  rw [enc_len]
  repeat' split
  all_goals omega
set_option maxRecDepth 1000000 in
theorem hasAt_iff (s : ByteArray) (pos : Nat) {r : Nat} (hv : validN r) : hasAt s (bytesP (r : Int)) pos = true ↔ matchN (enc r) (s.size - pos) (g s pos) (g s (pos + 1)) (g s (pos + 2)) (g s (pos + 3)) := by
  have hs : (bytesP (r : Int)).size = (bytesP (r : Int)).data.toList.length := by rw [Array.length_toList]; rfl
  have hlen := enc_range r
  rw [← bytesP_size hv, hs] at hlen
  rw [← bytesP_list hv, ← take_match s pos _ hlen]
  unfold hasAt
  rw [Bool.and_eq_true, decide_eq_true_eq, decide_eq_true_eq, ByteArray.toList_eq, ByteArray.toList_eq, ByteArray.data_extract, Array.toList_extract, List.extract_eq_take_drop, Nat.add_sub_cancel_left, ← hs]
/-- What stands at a place. -/
def decAt (s : ByteArray) (pos : Nat) : Option (Nat × Nat) := dec (s.size - pos) (g s pos) (g s (pos + 1)) (g s (pos + 2)) (g s (pos + 3))
theorem decode_dec (s : ByteArray) (pos : Nat) (h : pos < s.size) : Utf8.decode s pos = (decAt s pos).getD (65533, 1) := by
  rw [Lib.decode_at, get_g, get_g, get_g, get_g, decodeN_dec _ _ _ _ _ (by omega) (g_lt _ _) (g_lt _ _) (g_lt _ _) (g_lt _ _)]
  rfl
theorem valid_err : validN 65533 := .inr ⟨by decide, by decide⟩
set_option maxRecDepth 1000000 in
theorem good_iff (s : ByteArray) (pos : Nat) (h : pos < s.size) : hasAt s (bytesP ((Utf8.decode s pos).1 : Int)) pos = true ↔ ∃ r n, decAt s pos = some (r, n) := by
  rw [decode_dec s pos h]
  cases hd : decAt s pos with
  | none =>
    simp only [Option.getD_none, reduceCtorEq, exists_false, iff_false]
    intro hh
    have := dec_of_match valid_err ((hasAt_iff s pos valid_err).1 hh)
    unfold decAt at hd
    rw [this] at hd
    cases hd
  | some p =>
    obtain ⟨r, n⟩ := p
    have h1 := dec_match hd
    simp only [Option.getD_some]
    exact ⟨fun _ => ⟨r, n, rfl⟩, fun _ => (hasAt_iff s pos h1.2.2.1).2 h1.1⟩
end Go.Proofs.YtkcjekboakoejaaDoor.Print
