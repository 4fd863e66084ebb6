/- Plain law: halves, digits of sixteen; RunesWrites' plain function answers true. -/
import Derived.Test.YtkcjekboakoejaaDoorQRuneG
import Derived.Test.YtkcjekboakoejaaDoorHRHexL
import Derived.Test.YtkcjekboakoejaaDoorHAlive01
import Derived.Laws.BitsLemmas
import Derived.Test.YtkcjekboakoejaaDoorPrint4
namespace Go.Proofs.YtkcjekboakoejaaDoor.Print
open Go.RowKit Go.Proofs.YtkcjekboakoejaaDoorW.PrintWords Go.Proofs.YtkcjekboakoejaaDoorW.PrintLast
set_option linter.unusedVariables false
set_option linter.unusedSimpArgs false

theorem and1023 (x : Int) (h0 : 0 ≤ x) (h1 : x < 2147483648) : Go.bits .and .i32 x 1023 = x % 1024 := by
  have := bits_mask .i32 31 (by decide) wraps_i32 10 (by decide) x h0 (by simpa using h1)
  simpa using this
theorem pair_same (a b : Int) : codicilref01_Pair.f a b = runes_Pair.f a b := by
  unfold runes_Pair.f codicilref01_Pair.f
  by_cases h : a / 1024 = 54 ∧ b / 1024 = 55
  · rw [if_pos h.1, if_pos h.2, and1023 a (by omega) (by omega), and1023 b (by omega) (by omega), w32 (n := a % 1024 * 1024) (by omega), w32 (n := 65536 + a % 1024 * 1024) (by omega), w32 (n := 65536 + a % 1024 * 1024 + b % 1024) (by omega),
      if_neg (by omega), if_neg (by omega), if_neg (by omega), if_neg (by omega), w32 (n := a - 55296) (by omega), w32 (n := 1024 * (a - 55296)) (by omega), w32 (n := 65536 + 1024 * (a - 55296)) (by omega), w32 (n := 65536 + 1024 * (a - 55296) + b) (by omega), w32 (by omega)]
    congr 2
    omega
  · have e : (if a / 1024 = 54 then (if b / 1024 = 55 then some (wrap32 (wrap32 (65536 + wrap32 (Go.bits .and .i32 a 1023 * 1024)) + Go.bits .and .i32 b 1023), true) else some (0, false)) else some (0, false)) = some ((0 : Int), false) := by
      by_cases c1 : a / 1024 = 54
      · rw [if_pos c1, if_neg (fun c2 => h ⟨c1, c2⟩)]
      · rw [if_neg c1]
    rw [e]
    by_cases c1 : a < 55296
    · rw [if_pos c1]
    by_cases c2 : a > 56319
    · rw [if_neg c1, if_pos c2]
    by_cases c3 : b < 56320
    · rw [if_neg c1, if_neg c2, if_pos c3]
    by_cases c4 : b > 57343
    · rw [if_neg c1, if_neg c2, if_neg c3, if_pos c4]
    · exact absurd ⟨by omega, by omega⟩ h
theorem empty_list {b : ByteArray} (h : b.size = 0) : b.toList = [] := by
  rw [ByteArray.toList_eq]
  exact List.eq_nil_of_length_eq_zero (by rw [Array.length_toList]; exact h)
theorem list_empty {b : ByteArray} (h : b.toList = []) : b.size = 0 := by
  rw [ByteArray.toList_eq] at h
  have := congrArg List.length h
  rw [data_length] at this
  simpa using this
theorem halves_same (a : Int) (hr : -2147483648 ≤ a ∧ a ≤ 2147483647) : codicilref01_Halves.f a = runes_Halves.f a := by
  unfold runes_Halves.f codicilref01_Halves.f runes_Bytes.f
  by_cases c1 : a < 65536
  · rw [if_pos c1, if_pos c1]
  rw [if_neg c1, if_neg c1, Option.bind_some]
  by_cases c2 : a > 1114111
  · have : Lib.validRune a = false := by simp only [Lib.validRune, decide_eq_false_iff_not]; omega
    rw [if_pos c2, bytesP_bad this, if_pos (empty_list rfl)]
  · obtain ⟨n, rfl⟩ : ∃ n : Nat, a = (n : Int) := ⟨a.toNat, by omega⟩
    have hv : validN n := .inr ⟨by omega, by omega⟩
    have hs := enc_range n
    rw [← bytesP_size hv] at hs
    have hb : ¬ (bytesP (n : Int)).toList = [] := fun h => by have := list_empty h; omega
    obtain ⟨m, hm⟩ : ∃ m : Nat, (n : Int) - 65536 = (m : Int) := ⟨n - 65536, by omega⟩
    have h1 : Int.tdiv (m : Int) 1024 = ((m / 1024 : Nat) : Int) := rfl
    have h2 : Int.tmod (m : Int) 1024 = ((m % 1024 : Nat) : Int) := rfl
    rw [if_neg c2, if_neg hb, hm, w32 (n := (m : Int)) (by omega), h1, h2, and1023 _ (by omega) (by omega), w32 (n := ((m / 1024 : Nat) : Int)) (by omega)]
    rfl
/-- A digit as the reference tells it. -/
def dig16 (c : Nat) : Int := match hexD c with | some d => (d : Int) | none => -1
theorem rdigit_ev (c : Nat) (hc : c < 256) : Ev (fun k => codicilref01_digit.f k (c : Int)) (dig16 c) := by
  have tail : ∀ x : Bool, (x = true ↔ 97 ≤ c ∧ c ≤ 102) → ¬ (48 ≤ c ∧ c ≤ 57) → Ev (fun k => codicilref01_digit.j1 k (c : Int) x) (dig16 c) := fun x hx h0 => by
    refine Ev.step (f := fun _ => some (dig16 c)) (fun k => ?_) (Ev.now _)
    simp only [codicilref01_digit.j1]
    unfold dig16 hexD
    rw [if_neg h0]
    by_cases h1 : 97 ≤ c ∧ c ≤ 102
    · rw [if_pos (hx.2 h1), if_pos h1]
      simp only
      congr 1
      omega
    · rw [if_neg (fun h => h1 (hx.1 h)), if_neg h1]
      by_cases h2 : 65 ≤ c ∧ c ≤ 70
      · rw [if_pos h2, if_pos (by omega), if_pos (by omega)]
        simp only
        congr 1
        omega
      · rw [if_neg h2]
        by_cases h3 : (c : Int) ≥ 65
        · rw [if_pos h3, if_neg (by omega)]
        · rw [if_neg h3]
  have mid : ∀ x : Bool, (x = true ↔ 48 ≤ c ∧ c ≤ 57) → Ev (fun k => codicilref01_digit.j0 k (c : Int) x) (dig16 c) := fun x hx => by
    by_cases h0 : 48 ≤ c ∧ c ≤ 57
    · refine Ev.step (f := fun _ => some (dig16 c)) (fun k => ?_) (Ev.now _)
      simp only [codicilref01_digit.j0]
      unfold dig16 hexD
      rw [if_pos (hx.2 h0), if_pos h0]
      simp only
      congr 1
      omega
    · by_cases h1 : (c : Int) ≥ 97
      · refine Ev.step (fun k => ?_) (tail (decide ((c : Int) ≤ 102)) (by rw [decide_eq_true_eq]; omega) h0)
        simp only [codicilref01_digit.j0]
        rw [if_neg (fun h => h0 (hx.1 h)), if_pos h1]
      · refine Ev.step (fun k => ?_) (tail false ⟨fun h => (by cases h), fun h => absurd h.1 (by omega)⟩ h0)
        simp only [codicilref01_digit.j0]
        rw [if_neg (fun h => h0 (hx.1 h)), if_neg h1]
  unfold codicilref01_digit.f
  by_cases h1 : (c : Int) ≥ 48
  · simp only [h1, if_true]
    exact mid _ (by rw [decide_eq_true_eq]; omega)
  · simp only [h1, if_false]
    exact mid _ ⟨fun h => (by cases h), fun h => absurd h.1 (by omega)⟩
/-- What comes of four digits. -/
def out16 (o : Option Nat) : Int × Bool := match o with | some n => ((n : Int), true) | none => (0, false)
theorem acc4 {i acc : Nat} (h : i < 4) (ha : acc < 16 ^ i) : acc ≤ 4095 := by
  rcases (by clear ha; omega : i = 0 ∨ i = 1 ∨ i = 2 ∨ i = 3) with e | e | e | e <;> subst e <;> omega
theorem pow4 {i acc : Nat} (ha : acc < 16 ^ i) : ∀ v, v ≤ 15 → acc * 16 + v < 16 ^ (i + 1) := fun v hv => by rw [Nat.pow_succ]; omega
theorem wsucc4 {i : Nat} (h : i < 4) : wrap64 ((i : Int) + 1) = ((i + 1 : Nat) : Int) := by rw [w64 (by omega)]; rfl
theorem wacc4 {acc v : Nat} (h : acc ≤ 4095) (hv : v ≤ 15) : wrap32 (wrap32 (16 * (acc : Int)) + (v : Int)) = ((acc * 16 + v : Nat) : Int) := by rw [w32 (n := 16 * (acc : Int)) (by omega), w32 (by omega)]; omega
theorem rhex_from (s : ByteArray) (h4 : 4 ≤ s.size) (d : Nat) : ∀ i acc : Nat, 4 - i ≤ d → i ≤ 4 → acc < 16 ^ i → Ev (fun k => codicilref01_Hex.l0 k s (acc : Int) (i : Int)) (out16 (hexFrom acc ((s.extract 0 4).data.toList.drop i))) := by
  have hL : (s.extract 0 4).data.toList.length = 4 := by rw [data_length, ByteArray.size_extract]; omega
  have stop : ∀ i acc : Nat, ¬ i < 4 → Ev (fun k => codicilref01_Hex.l0 k s (acc : Int) (i : Int)) (out16 (hexFrom acc ((s.extract 0 4).data.toList.drop i))) := fun i acc h => by
    rw [List.drop_eq_nil_of_le (by omega)]
    refine Ev.step (f := fun _ => some _) (fun k => ?_) (Ev.now _)
    simp only [codicilref01_Hex.l0]
    rw [if_neg (by omega)]
    rfl
  induction d with
  | zero => intro i acc hd hi ha; exact stop i acc (by omega)
  | succ d ih =>
    intro i acc hd hi ha
    by_cases h : i < 4
    · have e1 : 4 - (i + 1) ≤ d := by clear ha hL stop ih; omega
      have e2 : i + 1 ≤ 4 := h
      have i1 : (i : Int) < 4 := Int.ofNat_lt.mpr h
      have i2 : (0 : Int) ≤ (i : Int) := Int.natCast_nonneg i
      have i0 : i < s.size := Nat.lt_of_lt_of_le h h4
      have i3 : (i : Int) < (s.size : Int) := Int.ofNat_lt.mpr i0
      have hb : bt s (i : Int) = (g s i : Int) := bt_g s i i0
      have iL : i < (s.extract 0 4).data.toList.length := by rw [hL]; exact h
      have hx : ((s.extract 0 4).data.toList[i]'iL).toNat = g s i := by
        rw [← g_at (s.extract 0 4) i iL]
        unfold g
        rw [ByteArray.data_extract, Array.toList_extract, List.extract_eq_take_drop, List.drop_zero, Nat.sub_zero]
        simp [List.getD_eq_getElem?_getD, List.getElem?_take, h]
      have hacc : acc ≤ 4095 := acc4 h ha
      have hpow : ∀ v, v ≤ 15 → acc * 16 + v < 16 ^ (i + 1) := pow4 ha
      rw [List.drop_eq_getElem_cons iL]
      simp only [hexFrom, hx]
      have hdg := rdigit_ev (g s i) (g_lt s i)
      have hw : wrap64 ((i : Int) + 1) = ((i + 1 : Nat) : Int) := wsucc4 h
      have hnext := fun v => ih (i + 1) (acc * 16 + v) e1 e2
      clear ih stop ha hx hL
      refine Ev.step (fun k => ?_) (Ev.bind hdg (f := fun k t => if t < 0 then some (0, false) else codicilref01_Hex.l0 k s (wrap32 ((wrap32 (16 * (acc : Int))) + t)) (wrap64 ((i : Int) + 1))) ?_)
      · simp only [codicilref01_Hex.l0]
        rw [if_pos i1, if_pos i2, if_pos i3, hb]
      · unfold dig16
        cases hd16 : hexD (g s i) with
        | none =>
          simp only [Option.bind_none]
          exact Ev.now _
        | some v =>
          have hv := hexD_lt hd16
          have e := wacc4 hacc hv
          have hneg : ¬ (v : Int) < 0 := Int.not_lt.mpr (Int.natCast_nonneg v)
          simp only [Option.bind_some, hneg, if_false, e, hw]
          exact hnext v (hpow v hv)
    · exact stop i acc h
theorem rhex_ev (s : ByteArray) : Ev (fun k => codicilref01_Hex.f k s) (hexAll s) := by
  unfold codicilref01_Hex.f hexAll hexR
  by_cases h : (s.size : Int) < 4
  · have h' : s.size < 4 := by omega
    simp only [h, h', if_true]
    exact Ev.now _
  · have h' : ¬ s.size < 4 := by omega
    simp only [h, h', if_false]
    have := rhex_from s (by omega) 4 0 0 (by omega) (by omega) (by decide)
    rw [List.drop_zero] at this
    have e : out16 (hexFrom 0 (s.extract 0 4).data.toList) = ((hexFrom 0 (s.extract 0 4).data.toList).map fun (n : Nat) => ((n : Int), true)).getD (0, false) := by
      cases hexFrom 0 (s.extract 0 4).data.toList <;> rfl
    rw [← e]
    exact this
theorem writes_pure (a : Int) (ha : (Lit.int .i32 a).wf = true) (b : Int) (hb : (Lit.int .i32 b).wf = true) (s : ByteArray) (hs : s.size ≤ 140737488351232) : ∃ k, codicillaw01_RunesWrites.f k a b s = some true := by
  have ha' : -2147483648 ≤ a ∧ a ≤ 2147483647 := by
    simp [Lit.wf, IntKind.min, IntKind.max, IntKind.signed, IntKind.bits] at ha
    omega
  refine Ev.rounds ?_
  unfold codicillaw01_RunesWrites.f
  by_cases h : (s.size : Int) > 4096
  · simp only [h, if_true, alive01_at, Option.bind_some]
    exact Ev.now _
  · obtain ⟨p, hp⟩ : ∃ p, runes_Pair.f a b = some p := by
      unfold runes_Pair.f
      repeat' split
      all_goals exact ⟨_, rfl⟩
    obtain ⟨q, hq⟩ : ∃ q, runes_Halves.f a = some q := by
      unfold runes_Halves.f runes_Bytes.f
      simp only [Option.bind_some]
      repeat' split
      all_goals exact ⟨_, rfl⟩
    have h1 : runes_Hex.f s = some (hexAll s) := rfl
    have h2 : runes_Bytes.f a = some (bytesP a) := rfl
    simp only [h, if_false, pair_same, halves_same a ha', hp, hq, h1, h2, rbytes_is a ha', Option.bind_some]
    refine Ev.bind (rhex_ev s) ?_
    simp only [if_true, beq_self_eq_true, alive01_at, Option.bind_some]
    exact Ev.now _
end Go.Proofs.YtkcjekboakoejaaDoor.Print
