/- HTTP's texts in plain words: what the program's functions come to. -/
import Derived.Test.YtddjhmelniphgaaGreatDoorHTAsc
import Derived.Test.YtddjhmelniphgaaGreatDoorHTSmall
import Derived.Test.YtddjhmelniphgaaGreatDoorHTTold
import Derived.Test.YtddjhmelniphgaaGreatDoorHTAsk
import Derived.Lib.ItoaLen
namespace Go.Proofs.YtddjhmelniphgaaGreatDoor.Print
open Go.RowKit Go.Proofs.YtddjhmelniphgaaGreatDoorW.PrintWords Go.Proofs.YtddjhmelniphgaaGreatDoorW.PrintLast
set_option linter.unusedVariables false
set_option linter.unusedSimpArgs false
theorem w64 {n : Int} (h : -9223372036854775808 ≤ n ∧ n ≤ 9223372036854775807) : wrap64 n = n := by unfold wrap64; omega
theorem wup {n : Nat} (h : n ≤ 9223372036854775806) : wrap64 ((n : Int) + 1) = ((n + 1 : Nat) : Int) := by rw [w64 (by omega)]; rfl
theorem btl (l : List UInt8) (i : Nat) (h : i < l.length) : bt (bs l) (i : Int) = ((l[i].toNat : Nat) : Int) := by
  rw [← bt_at (bs l) (i : Int) (by simpa [bs_size] using h)]
  rfl
theorem ext_bs (l : List UInt8) (a b : Nat) : (bs l).extract a b = bs ((l.drop a).take (b - a)) := by
  apply ByteArray.ext
  rw [ByteArray.data_extract]
  apply Array.ext'
  simp [bs, List.extract_eq_take_drop]
theorem ext_to (l : List UInt8) (b : Nat) : (bs l).extract 0 b = bs (l.take b) := by rw [ext_bs, List.drop_zero, Nat.sub_zero]
theorem ext_from (l : List UInt8) (a : Nat) : (bs l).extract a (bs l).size = bs (l.drop a) := by
  rw [ext_bs, bs_size, List.take_of_length_le (by rw [List.length_drop]; omega)]
theorem toL (l : List UInt8) : (bs l).toList = l := by rw [ByteArray.toList_eq]; rfl
theorem of_toL (s : ByteArray) : s = bs s.data.toList := rfl
def cutB (c : UInt8) : List UInt8 → List UInt8 × List UInt8 × Bool
  | [] => ([], [], false)
  | b :: r => if b = c then ([], r, true) else (b :: (cutB c r).1, (cutB c r).2.1, (cutB c r).2.2)
theorem cutB_eq (c : UInt8) : ∀ l, Lib.cut l [c] = cutB c l
  | [] => rfl
  | b :: r => by
    have ih := cutB_eq c r
    unfold Lib.cut at ih ⊢
    have hp : ([c] : List UInt8).isPrefixOf (b :: r) = (c == b) := by simp [List.isPrefixOf]
    have hi : Lib.index (b :: r) [c] = if b = c then 0 else if (Lib.index r [c] == -1) = true then -1 else Lib.index r [c] + 1 := by
      rw [Lib.index, hp]
      by_cases hb : b = c
      · rw [if_pos hb, if_pos (by rw [hb]; exact beq_self_eq_true c)]
      · rw [if_neg hb, if_neg (fun e => hb (eq_of_beq e).symm)]
    by_cases hb : b = c
    · rw [hi, if_pos hb]
      simp [cutB, hb]
    · rw [hi, if_neg hb]
      simp only [cutB, if_neg hb]
      have hg := Lib.index_ge r [c]
      by_cases h0 : 0 ≤ Lib.index r [c]
      · rw [if_pos h0] at ih
        have h1 : ¬ (Lib.index r [c] == -1) = true := by simp; omega
        have h2 : (Lib.index r [c] + 1).toNat = (Lib.index r [c]).toNat + 1 := by omega
        rw [if_neg h1, if_pos (by omega), ← ih, h2]
        simp [List.take_succ_cons, Nat.add_right_comm]
      · have h1 : Lib.index r [c] = -1 := by omega
        rw [if_neg h0] at ih
        rw [h1, ← ih]
        simp
theorem cutB_none (c : UInt8) : ∀ l, (cutB c l).2.2 = false → cutB c l = (l, [], false) ∧ c ∉ l
  | [], _ => ⟨rfl, by simp⟩
  | b :: r, h => by
    by_cases hb : b = c
    · simp [cutB, hb] at h
    · simp only [cutB, if_neg hb] at h ⊢
      obtain ⟨h1, h2⟩ := cutB_none c r h
      rw [h1]
      exact ⟨rfl, by simp [h2, Ne.symm hb]⟩
theorem cutB_some (c : UInt8) : ∀ l, (cutB c l).2.2 = true → l = (cutB c l).1 ++ c :: (cutB c l).2.1 ∧ c ∉ (cutB c l).1
  | [], h => by simp [cutB] at h
  | b :: r, h => by
    by_cases hb : b = c
    · simp [cutB, hb]
    · simp only [cutB, if_neg hb] at h ⊢
      obtain ⟨h1, h2⟩ := cutB_some c r h
      exact ⟨by rw [List.cons_append, ← h1], by simp [h2, Ne.symm hb]⟩
theorem cutB_le (c : UInt8) (l : List UInt8) : (cutB c l).1.length ≤ l.length ∧ (cutB c l).2.1.length ≤ l.length := by
  rw [← cutB_eq]; exact cut_le l [c]
def rB (n : Nat) : Bool := decide (97 ≤ n) && decide (n ≤ 122) || decide (65 ≤ n) && decide (n ≤ 90) || decide (48 ≤ n) && decide (n ≤ 57)
def isTok (b : UInt8) : Bool := rB b.toNat || tokL.contains b
theorem isTok_all : ∀ c : Fin 256, (!oddT c.val) = isTok (UInt8.ofNat c.val) := by decide +kernel
theorem isTok_eq (b : UInt8) : (!oddT b.toNat) = isTok b := by
  have := isTok_all ⟨b.toNat, UInt8.toNat_lt b⟩
  simpa using this
def tokP (l : List UInt8) : Bool := !l.isEmpty && l.all isTok
theorem not_any {α : Type} (p : α → Bool) (l : List α) : (!l.any p) = l.all (fun x => !p x) := by
  induction l with
  | nil => rfl
  | cons a r ih => rw [List.any_cons, List.all_cons, Bool.not_or, ih]
theorem tokenB_P (l : List UInt8) : tokenB (bs l) = tokP l := by
  rw [tokenB_bytes, not_any]
  unfold tokP
  congr 2
  funext b
  exact isTok_eq b
def isVal (b : UInt8) : Bool := decide (32 ≤ b.toNat) && decide (b.toNat ≤ 126) || decide (b.toNat = 9)
def blankB (b : UInt8) : Bool := decide (b.toNat = 32) || decide (b.toNat = 9)
def endsP (l : List UInt8) : Bool := match l with
  | [] => true
  | a :: r => !blankB a && !blankB ((a :: r)[r.length]'(by simp))
def valP (l : List UInt8) : Bool := l.all isVal && endsP l
theorem isVal_eq (b : UInt8) : (!oddV b.toNat) = isVal b := by
  unfold oddV isVal
  rw [Bool.eq_iff_iff]
  simp only [Bool.not_eq_true', Bool.and_eq_false_iff, Bool.or_eq_false_iff, Bool.or_eq_true, Bool.and_eq_true, decide_eq_true_iff, decide_eq_false_iff_not]
  omega
def isTgt (b : UInt8) : Bool := decide (33 ≤ b.toNat) && decide (b.toNat ≤ 126)
def tgtOk (l : List UInt8) : Bool := l.all isTgt && (l.head? == some 47)
theorem isTgt_eq (b : UInt8) : (!oddG b.toNat) = isTgt b := by
  unfold oddG isTgt
  rw [Bool.eq_iff_iff]
  simp only [Bool.not_eq_true', Bool.or_eq_false_iff, Bool.and_eq_true, decide_eq_true_iff, decide_eq_false_iff_not]
  omega
theorem targetB_P (l : List UInt8) : targetB (bs l) = tgtOk l := by
  unfold targetB tgtOk
  rw [idx_all oddG_high, bs_list, not_any, Bool.and_comm]
  congr 1
  · congr 1
    funext b
    exact isTgt_eq b
  · cases l with
    | nil => rfl
    | cons a r =>
      have e : Lib.hasPrefix (a :: r) [47] = ((47 : UInt8) == a && true) := rfl
      rw [e, Bool.and_true, Bool.eq_iff_iff, beq_iff_eq, beq_iff_eq, List.head?_cons]
      exact ⟨fun e => by rw [e], fun e => (Option.some.inj e).symm⟩
theorem nil_or_snoc (l : List UInt8) : l = [] ∨ ∃ r a, l = r ++ [a] := by
  rcases List.eq_nil_or_concat l with h | ⟨r, a, h⟩
  · exact .inl h
  · exact .inr ⟨r, a, by rw [h]; simp⟩
def trimR (l : List UInt8) : List UInt8 := (l.reverse.dropWhile blankB).reverse
theorem blanks_all : ∀ c : Fin 256, ([32, 9] : List UInt8).contains (UInt8.ofNat c.val) = blankB (UInt8.ofNat c.val) := by decide +kernel
theorem blanks_eq (b : UInt8) : ([32, 9] : List UInt8).contains b = blankB b := by
  have := blanks_all ⟨b.toNat, UInt8.toNat_lt b⟩
  simpa using this
theorem blanks_fun : (fun b => ([32, 9] : List UInt8).contains b) = blankB := funext blanks_eq
theorem trimS_eq (l : List UInt8) : Lib.trimS l [32, 9] = (trimR l).dropWhile blankB := by
  unfold Lib.trimS Lib.trimLeftS Lib.trimRightS trimR
  rw [blanks_fun]
theorem trimR_snoc (r : List UInt8) (a : UInt8) : trimR (r ++ [a]) = if blankB a = true then trimR r else r ++ [a] := by
  unfold trimR
  rw [List.reverse_append]
  simp only [List.reverse_cons, List.reverse_nil, List.nil_append, List.cons_append, List.dropWhile_cons]
  split
  · rfl
  · simp
theorem trimR_cons (a : UInt8) (r : List UInt8) : trimR (a :: r) = if trimR r = [] ∧ blankB a = true then [] else a :: trimR r := by
  unfold trimR
  rw [List.reverse_cons, List.dropWhile_append]
  cases h : r.reverse.dropWhile blankB with
  | nil =>
    simp only [List.isEmpty_nil, if_true, List.reverse_nil, true_and, List.dropWhile_cons, List.dropWhile_nil]
    split <;> simp
  | cons x y => simp
theorem trimR_drop : ∀ l : List UInt8, trimR (l.dropWhile blankB) = (trimR l).dropWhile blankB
  | [] => rfl
  | a :: r => by
    rw [trimR_cons]
    by_cases ha : blankB a = true
    · rw [List.dropWhile_cons, if_pos ha, trimR_drop r]
      by_cases h : trimR r = []
      · rw [if_pos ⟨h, ha⟩, h]
      · rw [if_neg (fun e => h e.1), List.dropWhile_cons, if_pos ha]
    · rw [List.dropWhile_cons, if_neg ha, if_neg (fun e => ha e.2), List.dropWhile_cons, if_neg ha, trimR_cons, if_neg (fun e => ha e.2)]
theorem trimR_le : ∀ l : List UInt8, (trimR l).length ≤ l.length
  | [] => Nat.le_refl _
  | a :: r => by
    rw [trimR_cons]
    have := trimR_le r
    split <;> simp <;> omega
/-- What is trimmed already. -/
theorem trim_ends (l : List UInt8) : (Lib.trimS l [32, 9] == l) = endsP l := by
  rw [trimS_eq]
  cases l with
  | nil => rfl
  | cons a r =>
    obtain ⟨q, z, hq⟩ : ∃ q z, a :: r = q ++ [z] := by
      rcases nil_or_snoc (a :: r) with h | ⟨q, z, h⟩
      · cases h
      · exact ⟨q, z, h⟩
    have hz : (a :: r)[r.length]'(by simp) = z := by
      have hl : r.length = q.length := by have := congrArg List.length hq; simp at this; omega
      have : (a :: r)[r.length]'(by simp) = (q ++ [z])[r.length]'(by rw [← hq]; simp) := by congr 1
      rw [this]
      simp [hl]
    unfold endsP
    simp only
    rw [hz]
    have h1 := trimR_snoc q z
    rw [← hq] at h1
    rw [Bool.eq_iff_iff, beq_iff_eq, Bool.and_eq_true, Bool.not_eq_true', Bool.not_eq_true']
    constructor
    · intro e
      have l1 := congrArg List.length e
      have l2 := dropWhile_len blankB (trimR (a :: r))
      have l3 := trimR_le (a :: r)
      have hzb : blankB z = false := by
        cases hb : blankB z with
        | false => rfl
        | true =>
          rw [if_pos hb] at h1
          have l4 := trimR_le q
          rw [h1] at l2 l1
          have l5 := congrArg List.length hq
          simp at l5 l1 l2
          omega
      rw [hzb, if_neg (by decide)] at h1
      rw [h1, List.dropWhile_cons] at e
      refine ⟨?_, hzb⟩
      cases hb : blankB a with
      | false => rfl
      | true =>
        rw [if_pos hb] at e
        have l4 := dropWhile_len blankB r
        have l5 := congrArg List.length e
        simp at l5
        omega
    · rintro ⟨ha, hzb⟩
      rw [hzb, if_neg (by decide)] at h1
      rw [h1, List.dropWhile_cons, if_neg (by rw [ha]; decide)]
theorem valueB_P (l : List UInt8) : valueB (bs l) = valP l := by
  have e : valueB (bs l) = (!decide (0 ≤ Lib.idxFunc oddV true (bs l)) && (Lib.trimS l [32, 9] == l)) := by
    unfold valueB
    congr 1
    rw [toL]
    congr 1
    exact toL _
  rw [e, idx_all oddV_high, bs_list, not_any, trim_ends]
  unfold valP
  congr 2
  funext b
  exact isVal_eq b
def digsN : Nat → List UInt8 → Option Nat
  | acc, [] => some acc
  | acc, c :: r => if 48 ≤ c.toNat ∧ c.toNat ≤ 57 then digsN (acc * 10 + (c.toNat - 48)) r else none
theorem digsN_snoc (c : UInt8) : ∀ (l : List UInt8) (acc : Nat), digsN acc (l ++ [c]) = (digsN acc l).bind fun a => if 48 ≤ c.toNat ∧ c.toNat ≤ 57 then some (a * 10 + (c.toNat - 48)) else none
  | [], acc => by simp [digsN]
  | x :: l, acc => by
    simp only [List.cons_append, digsN]
    split
    · exact digsN_snoc c l _
    · rfl
theorem digsN_lt : ∀ (l : List UInt8) (acc v i : Nat), digsN acc l = some v → acc < 10 ^ i → v < 10 ^ (i + l.length)
  | [], acc, v, i, h, ha => by simp [digsN] at h; subst h; simpa using ha
  | c :: r, acc, v, i, h, ha => by
    simp only [digsN] at h
    split at h
    · have := digsN_lt r _ v (i + 1) h (by rw [Nat.pow_succ]; omega)
      rw [List.length_cons, Nat.add_comm r.length 1, ← Nat.add_assoc]
      exact this
    · cases h
theorem parse_digs (M N : Nat) (hM : 10 ^ N ≤ M + 1) (hN : N ≤ 18) : ∀ (l : List UInt8) (acc i : Nat), acc < 10 ^ i → i + l.length ≤ N → Lib.parseUintM M acc l = match digsN acc l with | some n => .ok n | none => Lib.NumEnd.syntax
  | [], acc, i, ha, hl => rfl
  | c :: r, acc, i, ha, hl => by
    have h6 : 10 ^ (i + 1) ≤ 10 ^ N := Nat.pow_le_pow_right (by decide) (by simp at hl; omega)
    have h18 : 10 ^ N ≤ 10 ^ 18 := Nat.pow_le_pow_right (by decide) hN
    have e6 : (10 : Nat) ^ 18 = 1000000000000000000 := by decide
    have ep : 10 ^ (i + 1) = 10 ^ i * 10 := Nat.pow_succ ..
    simp only [Lib.parseUintM, digsN]
    by_cases hc : 48 ≤ c.toNat ∧ c.toNat ≤ 57
    · rw [if_pos hc, if_pos hc, if_neg (by omega), if_neg (by omega)]
      exact parse_digs M N hM hN r _ (i + 1) (by omega) (by simp at hl; omega)
    · rw [if_neg hc, if_neg hc]
theorem dec_step {a d : Nat} (ha : 1 ≤ a) (hd : d ≤ 9) : Lib.decDigits (a * 10 + d) = Lib.decDigits a ++ [UInt8.ofNat (48 + d)] := by
  conv => lhs; rw [Lib.decDigits]
  rw [dif_neg (by omega), show (a * 10 + d) / 10 = a by omega, show (a * 10 + d) % 10 = d by omega]
theorem digs_back (n : Nat) : ∀ (l : List UInt8) (v : Nat), l.length = n → l ≠ [] → digsN 0 l = some v → l.head? ≠ some 48 → 1 ≤ v ∧ Lib.decDigits v = l := by
  induction n with
  | zero => intro l v hn hne; exact absurd (List.length_eq_zero_iff.1 hn) hne
  | succ n ih =>
    intro l v hn hne h hh
    rcases nil_or_snoc l with rfl | ⟨r, c, rfl⟩
    · exact absurd rfl hne
    · rw [digsN_snoc] at h
      cases hr : digsN 0 r with
      | none => rw [hr] at h; cases h
      | some a =>
        rw [hr, Option.bind_some] at h
        split at h
        · rename_i hc
          injection h with h
          have hoc : UInt8.ofNat (48 + (c.toNat - 48)) = c := by rw [show 48 + (c.toNat - 48) = c.toNat by omega]; simp
          cases r with
          | nil =>
            simp [digsN] at hr
            subst hr
            have h48 : c.toNat ≠ 48 := fun e => hh (by rw [List.nil_append, List.head?_cons]; congr 1; exact UInt8.toNat_inj.1 e)
            refine ⟨by omega, ?_⟩
            rw [← h, Nat.zero_mul, Nat.zero_add, Lib.decDigits_one (by omega), hoc]
            rfl
          | cons x t =>
            obtain ⟨h1, h2⟩ := ih (x :: t) a (by simpa using hn) (by simp) hr (by simpa using hh)
            refine ⟨by omega, ?_⟩
            rw [← h, dec_step h1 (by omega), h2, hoc]
        · cases h
theorem dec_head (n : Nat) : ∀ v, v ≤ n → 1 ≤ v → (Lib.decDigits v).head? ≠ some 48 := by
  induction n with
  | zero => intro v h1 h2; omega
  | succ n ih =>
    intro v h1 h2
    by_cases h : v < 10
    · rw [Lib.decDigits_one h, List.head?_cons]
      intro e
      injection e with e
      have := congrArg UInt8.toNat e
      rw [UInt8.toNat_ofNat'] at this
      have h48 : (48 : UInt8).toNat = 48 := rfl
      omega
    · have e := dec_step (a := v / 10) (d := v % 10) (by omega) (by omega)
      rw [show v / 10 * 10 + v % 10 = v by omega] at e
      rw [e]
      have h3 := ih (v / 10) (by omega) (by omega)
      cases hd : Lib.decDigits (v / 10) with
      | nil => have := Lib.decDigits_length (v / 10); rw [hd] at this; unfold Lib.nDigits at this; split at this <;> simp at this
      | cons x t => rw [hd] at h3; simpa using h3
theorem dec_iff {l : List UInt8} {v : Nat} (hne : l ≠ []) (h : digsN 0 l = some v) : Lib.decDigits v = l ↔ (l.length = 1 ∨ l.head? ≠ some 48) := by
  constructor
  · intro e
    by_cases h1 : l.length = 1
    · exact .inl h1
    · refine .inr (fun hh => ?_)
      by_cases hv : v = 0
      · subst hv
        rw [Lib.decDigits_one (by decide)] at e
        rw [← e] at h1
        exact h1 rfl
      · rw [← e] at hh
        exact dec_head v v (Nat.le_refl _) (by omega) hh
  · rintro (h1 | h1)
    · obtain ⟨c, rfl⟩ := List.length_eq_one_iff.1 h1
      simp only [digsN] at h
      split at h
      · injection h with h
        rw [← h, Nat.zero_mul, Nat.zero_add, Lib.decDigits_one (by omega), show 48 + (c.toNat - 48) = c.toNat by omega]
        simp
      · cases h
    · exact (digs_back _ l v rfl hne h h1).2
/-- What content-length says, by the reference. -/
def lenR (l : List UInt8) : Option Nat := if l = [] ∨ 6 < l.length ∨ (1 < l.length ∧ l.head? = some 48) then none else digsN 0 l
theorem lengthL_eq (l : List UInt8) : lengthL l = lenR l := by
  unfold lengthL lenR puOk puV
  by_cases h0 : l = []
  · subst h0; rfl
  by_cases h6 : 6 < l.length
  · have e : (if l = [] ∨ 6 < l.length ∨ (1 < l.length ∧ l.head? = some 48) then none else digsN 0 l) = none := if_pos (.inr (.inl h6))
    rw [e, decide_eq_false (show ¬ l.length ≤ 6 by omega), Bool.and_false, Bool.false_and]
    rfl
  have hp : Lib.parseUintB 32 l = match digsN 0 l with | some n => .ok n | none => Lib.NumEnd.syntax := by
    unfold Lib.parseUintB
    rw [if_neg h0]
    exact parse_digs _ 6 (by decide) (by decide) l 0 0 (by decide) (by omega)
  rw [hp]
  cases hd : digsN 0 l with
  | none => simp
  | some v =>
    simp only
    rw [decide_eq_true (show l.length ≤ 6 by omega), toL, toL, Bool.true_and, Bool.true_and]
    by_cases hc : 1 < l.length ∧ l.head? = some 48
    · have e : (if l = [] ∨ 6 < l.length ∨ (1 < l.length ∧ l.head? = some 48) then none else some v) = none := if_pos (.inr (.inr hc))
      have e2 : (Lib.decDigits v == l) = false := by
        rw [beq_eq_false_iff_ne]
        intro e
        rcases (dec_iff h0 hd).1 e with h | h
        · omega
        · exact h hc.2
      rw [e, e2]
      rfl
    · have e : (if l = [] ∨ 6 < l.length ∨ (1 < l.length ∧ l.head? = some 48) then none else some v) = some v := if_neg (fun h => h.elim h0 (fun h => h.elim h6 hc))
      have e2 : (Lib.decDigits v == l) = true := by
        rw [beq_iff_eq, dec_iff h0 hd]
        by_cases h1 : l.length = 1
        · exact .inl h1
        · refine .inr (fun h => hc ⟨?_, h⟩)
          have : l.length ≠ 0 := fun e => h0 (List.length_eq_zero_iff.1 e)
          omega
      rw [e, e2]
      rfl
abbrev crlf2 : List UInt8 := [13, 10, 13, 10]
theorem occ_take (l : List UInt8) (i : Nat) : Lib.occAt l crlf2 i = ((l.drop i).take 4 == crlf2) := by
  unfold Lib.occAt
  rw [Bool.eq_iff_iff, List.isPrefixOf_iff_prefix, beq_iff_eq, List.prefix_iff_eq_take]
  exact ⟨fun e => e.symm, fun e => e.symm⟩
def noCR (x : List UInt8) : Bool := x.all fun c => !(c == 13) && !(c == 10)
/-- The lines of a text, read byte by byte. -/
def scanL : List UInt8 → List UInt8 → Option (List (List UInt8))
  | cur, [] => some [cur]
  | cur, c :: r => if c = 13 ∧ r.head? = some 10 then (scanL [] (r.drop 1)).map (cur :: ·) else if c = 13 ∨ c = 10 then none else scanL (cur ++ [c]) r
termination_by _ l => l.length
decreasing_by all_goals simp_wf; try omega
theorem scan_nil (cur : List UInt8) : scanL cur [] = some [cur] := by rw [scanL]
theorem scan_cons (cur : List UInt8) (c : UInt8) (r : List UInt8) : scanL cur (c :: r) = if c = 13 ∧ r.head? = some 10 then (scanL [] (r.drop 1)).map (cur :: ·) else if c = 13 ∨ c = 10 then none else scanL (cur ++ [c]) r := by rw [scanL]
theorem scan_pass : ∀ (a cur r : List UInt8), noCR a = true → scanL cur (a ++ r) = scanL (cur ++ a) r
  | [], cur, r, h => by simp
  | c :: a, cur, r, h => by
    have h2 : ¬ c = 13 ∧ ¬ c = 10 ∧ noCR a = true := by
      unfold noCR at h ⊢
      rw [List.all_cons, Bool.and_eq_true, Bool.and_eq_true, Bool.not_eq_true', Bool.not_eq_true', beq_eq_false_iff_ne, beq_eq_false_iff_ne] at h
      exact ⟨h.1.1, h.1.2, h.2⟩
    rw [List.cons_append, scan_cons, if_neg (fun e => h2.1 e.1), if_neg (fun e => e.elim h2.1 h2.2.1), scan_pass a (cur ++ [c]) r h2.2.2, List.append_assoc]
    rfl
/-- Where a text without the two bytes next to each other has one of them, it is no line. -/
theorem scan_stop : ∀ (a cur r : List UInt8), noCR a = false → (∀ j, j < a.length → Lib.occAt (a ++ r) [13, 10] j = false) → scanL cur (a ++ r) = none
  | [], cur, r, h, _ => by simp [noCR] at h
  | c :: a, cur, r, h, hn => by
    have h0 := hn 0 (by simp)
    rw [List.cons_append, scan_cons]
    have hne : ¬ (c = 13 ∧ (a ++ r).head? = some 10) := by
      rintro ⟨e1, e2⟩
      unfold Lib.occAt at h0
      rw [List.drop_zero, List.cons_append] at h0
      cases har : a ++ r with
      | nil => rw [har] at e2; cases e2
      | cons x y =>
        rw [har] at h0 e2
        injection e2 with e2
        subst e1 e2
        simp [List.isPrefixOf] at h0
    rw [if_neg hne]
    by_cases hc : c = 13 ∨ c = 10
    · rw [if_pos hc]
    · rw [if_neg hc]
      refine scan_stop a (cur ++ [c]) r ?_ (fun j hj => ?_)
      · unfold noCR at h ⊢
        rw [List.all_cons] at h
        have : (!(c == 13) && !(c == 10)) = true := by
          rw [Bool.and_eq_true, Bool.not_eq_true', Bool.not_eq_true', beq_eq_false_iff_ne, beq_eq_false_iff_ne]
          exact ⟨fun e => hc (.inl e), fun e => hc (.inr e)⟩
        rw [this, Bool.true_and] at h
        exact h
      · have := hn (j + 1) (by simpa using hj)
        simpa [Lib.occAt] using this
theorem cut_cases (l sep : List UInt8) (hs : sep ≠ []) : (Lib.cut l sep = (l, [], false) ∧ (∀ j, j < l.length → Lib.occAt l sep j = false)) ∨
    (∃ a b, Lib.cut l sep = (a, b, true) ∧ l = a ++ sep ++ b ∧ ∀ j, j < a.length → Lib.occAt l sep j = false) := by
  unfold Lib.cut
  rcases Lib.index_spec l sep with ⟨h1, h2⟩ | ⟨i, h1, h2, h3, h4⟩
  · rw [h1]
    exact .inl ⟨rfl, fun j hj => h2 j (by omega)⟩
  · rw [h1, if_pos (by omega), Int.toNat_natCast]
    unfold Lib.occAt at h3
    rw [List.isPrefixOf_iff_prefix] at h3
    obtain ⟨t, ht⟩ := h3
    have e1 : l.drop (i + sep.length) = t := by rw [← List.drop_drop, ← ht, List.drop_left]
    refine .inr ⟨_, _, rfl, ?_, ?_⟩
    · rw [e1, List.append_assoc, ht, List.take_append_drop]
    · intro j hj
      rw [List.length_take] at hj
      exact h4 j (by omega)
theorem parts_scan : ∀ (f : Nat) (l : List UInt8), l.length ≤ f → scanL [] l = if (partsL [13, 10] f l).all noCR = true then some (partsL [13, 10] f l) else none
  | 0, l, h => by
    obtain rfl := List.length_eq_zero_iff.1 (Nat.le_zero.1 h)
    rw [scan_nil]
    rfl
  | f + 1, l, h => by
    rcases cut_cases l [13, 10] (by simp) with ⟨h1, h2⟩ | ⟨a, b, h1, h2, h3⟩
    · have e : partsL [13, 10] (f + 1) l = [l] := by simp only [partsL]; rw [h1]; rfl
      rw [e, List.all_cons, List.all_nil, Bool.and_true]
      cases hn : noCR l with
      | true =>
        have := scan_pass l [] [] hn
        rw [List.append_nil, List.nil_append, scan_nil] at this
        rw [this]
        rfl
      | false =>
        have := scan_stop l [] [] hn (by rw [List.append_nil]; exact h2)
        rw [List.append_nil] at this
        rw [this]
        rfl
    · have e : partsL [13, 10] (f + 1) l = a :: partsL [13, 10] f b := by simp only [partsL]; rw [h1]; rfl
      have hb : b.length ≤ f := by have := congrArg List.length h2; simp at this; omega
      rw [e, List.all_cons]
      have ih := parts_scan f b hb
      cases hn : noCR a with
      | true =>
        rw [h2, List.append_assoc, scan_pass a [] _ hn, List.nil_append]
        show scanL a (13 :: 10 :: b) = _
        rw [scan_cons, if_pos ⟨rfl, rfl⟩, List.drop_succ_cons, List.drop_zero, ih, Bool.true_and]
        split <;> rfl
      | false =>
        rw [h2, List.append_assoc, scan_stop a [] _ hn (by rw [← List.append_assoc, ← h2]; exact h3)]
        rfl
theorem reqM_le (l : List UInt8) : (reqM l).length ≤ l.length ∧ (reqT l).length ≤ l.length ∧ (reqV l).length ≤ l.length := by
  have h1 := cut_le l [32]
  have h2 := cut_le (Lib.cut l [32]).2.1 [32]
  unfold reqM reqT reqV
  omega
def pre9 : List UInt8 := [72, 84, 84, 80, 47, 49, 46, 49, 32]
def dig (b : UInt8) : Bool := decide (48 ≤ b.toNat) && decide (b.toNat ≤ 57)
theorem pu16 (a b c : UInt8) : Lib.parseUintB 16 [a, b, c] = if dig a && dig b && dig c then .ok ((a.toNat - 48) * 100 + (b.toNat - 48) * 10 + (c.toNat - 48)) else Lib.NumEnd.syntax := by
  have h : Lib.parseUintB 16 [a, b, c] = _ := parse_digs (2 ^ 16 - 1) 3 (by decide) (by decide) [a, b, c] 0 0 (by decide) (Nat.le_refl 3)
  rw [h]
  have e : digsN 0 [a, b, c] = if dig a && dig b && dig c then some ((a.toNat - 48) * 100 + (b.toNat - 48) * 10 + (c.toNat - 48)) else none := by
    simp only [digsN, dig, Bool.and_eq_true, decide_eq_true_iff, Nat.zero_mul, Nat.zero_add]
    by_cases ha : 48 ≤ a.toNat ∧ a.toNat ≤ 57
    · by_cases hb : 48 ≤ b.toNat ∧ b.toNat ≤ 57
      · by_cases hc : 48 ≤ c.toNat ∧ c.toNat ≤ 57
        · rw [if_pos ha, if_pos hb, if_pos hc, if_pos ⟨⟨ha, hb⟩, hc⟩]
          congr 1
          omega
        · rw [if_pos ha, if_pos hb, if_neg hc, if_neg (fun e => hc e.2)]
      · rw [if_pos ha, if_neg hb, if_neg (fun e => hb e.1.2)]
    · rw [if_neg ha, if_neg (fun e => ha e.1.1)]
  rw [e]
  cases (dig a && dig b && dig c) <;> rfl
/-- What the first line of a response says, where it has enough bytes. -/
def tldP (a b c d : UInt8) (m : List UInt8) : Bool := decide (d = 32) && valP m && (decide (49 ≤ a.toNat) && decide (a.toNat ≤ 53)) && dig b && dig c
theorem tldA_pre (m : List UInt8) : Lib.hasPrefix (pre9 ++ m) pre9 = true ∧ tldA (pre9 ++ m) = m := by
  have h : Lib.hasPrefix (pre9 ++ m) pre9 = true := by unfold Lib.hasPrefix; rw [List.isPrefixOf_iff_prefix]; exact List.prefix_append _ _
  refine ⟨h, ?_⟩
  unfold tldA Lib.trimPrefix
  show (if Lib.hasPrefix (pre9 ++ m) pre9 = true then (pre9 ++ m).drop pre9.length else pre9 ++ m) = m
  rw [if_pos h, List.drop_left]
theorem tldB_eq (l : List UInt8) : tldB l = (Lib.hasPrefix l pre9 && (cutB 32 (tldA l)).2.2 && puOk 16 (cutB 32 (tldA l)).1 && decide ((cutB 32 (tldA l)).1.length = 3) && decide (100 ≤ puV 16 (cutB 32 (tldA l)).1) && decide (puV 16 (cutB 32 (tldA l)).1 ≤ 599) && valP (cutB 32 (tldA l)).2.1) := by
  unfold tldB tldC tldR
  rw [cutB_eq, valueB_P]
  rfl
theorem tld_full (a b c d : UInt8) (m : List UInt8) : (if tldB (pre9 ++ a :: b :: c :: d :: m) = true then (puV 16 (tldC (pre9 ++ a :: b :: c :: d :: m)) : Int) else 0) =
    if tldP a b c d m = true then (((a.toNat - 48) * 100 + (b.toNat - 48) * 10 + (c.toNat - 48) : Nat) : Int) else 0 := by
  obtain ⟨h1, h2⟩ := tldA_pre (a :: b :: c :: d :: m)
  have hC : tldC (pre9 ++ a :: b :: c :: d :: m) = (cutB 32 (a :: b :: c :: d :: m)).1 := by unfold tldC; rw [h2, cutB_eq]
  rw [tldB_eq, h1, hC, h2, Bool.true_and]
  have n32 : ∀ x : UInt8, x = 32 → x.toNat = 32 := fun x e => by rw [e]; rfl
  by_cases ha : a = 32
  · rw [if_neg, if_neg]
    · unfold tldP; have := n32 a ha; simp only [Bool.and_eq_true, decide_eq_true_iff]; omega
    · simp [cutB, ha]
  by_cases hb : b = 32
  · rw [if_neg, if_neg]
    · unfold tldP dig; have := n32 b hb; simp only [Bool.and_eq_true, decide_eq_true_iff]; omega
    · simp [cutB, ha, hb]
  by_cases hc : c = 32
  · rw [if_neg, if_neg]
    · unfold tldP dig; have := n32 c hc; simp only [Bool.and_eq_true, decide_eq_true_iff]; omega
    · simp [cutB, ha, hb, hc]
  by_cases hd : d = 32
  · have e : cutB 32 (a :: b :: c :: d :: m) = ([a, b, c], m, true) := by simp [cutB, ha, hb, hc, hd]
    have hv : puOk 16 [a, b, c] = (dig a && dig b && dig c) := by unfold puOk; rw [pu16]; cases (dig a && dig b && dig c) <;> rfl
    have hV : (dig a && dig b && dig c) = true → puV 16 [a, b, c] = (a.toNat - 48) * 100 + (b.toNat - 48) * 10 + (c.toNat - 48) := fun h => by unfold puV; rw [pu16, if_pos h]
    rw [e, hv]
    simp only
    by_cases hg : (dig a && dig b && dig c) = true
    · rw [hV hg]
      have hg2 := hg
      unfold dig at hg2
      simp only [Bool.and_eq_true, decide_eq_true_iff] at hg2
      have e2 : (true && (dig a && dig b && dig c) && decide ([a, b, c].length = 3) && decide (100 ≤ (a.toNat - 48) * 100 + (b.toNat - 48) * 10 + (c.toNat - 48)) && decide ((a.toNat - 48) * 100 + (b.toNat - 48) * 10 + (c.toNat - 48) ≤ 599) && valP m) = tldP a b c d m := by
        unfold tldP
        rw [Bool.eq_iff_iff]
        unfold dig
        simp only [Bool.and_eq_true, decide_eq_true_iff, List.length_cons, List.length_nil]
        constructor
        · rintro ⟨⟨⟨_, h1⟩, h2⟩, h3⟩
          exact ⟨⟨⟨⟨hd, h3⟩, by omega⟩, by omega⟩, by omega⟩
        · rintro ⟨⟨⟨⟨_, h3⟩, h4⟩, _⟩, _⟩
          refine ⟨⟨⟨⟨⟨?_, ?_⟩, ?_⟩, ?_⟩, ?_⟩, h3⟩ <;> first | trivial | omega
      rw [e2]
    · rw [Bool.eq_false_iff.2 hg, if_neg (by simp), if_neg]
      unfold tldP
      intro h
      apply hg
      unfold dig at h ⊢
      simp only [Bool.and_eq_true, decide_eq_true_iff] at h ⊢
      omega
  · rw [if_neg, if_neg]
    · unfold tldP; simp [hd]
    · simp [cutB, ha, hb, hc, hd]
theorem tld_short (l : List UInt8) (h : l.length < 13) : tldB l = false := by
  rw [tldB_eq]
  by_cases hp : Lib.hasPrefix l pre9 = true
  · have hp2 := hp
    unfold Lib.hasPrefix at hp2
    rw [List.isPrefixOf_iff_prefix] at hp2
    obtain ⟨m, rfl⟩ := hp2
    rw [(tldA_pre m).2]
    have hm : m.length < 4 := by have : pre9.length = 9 := rfl; simp at h; omega
    rcases hf : (cutB 32 m).2.2 with _ | _
    · simp
    · have h2 := congrArg List.length (cutB_some 32 m hf).1
      rw [List.length_append, List.length_cons] at h2
      rw [decide_eq_false (show ¬ (cutB 32 m).1.length = 3 by omega)]
      simp
  · rw [Bool.eq_false_iff.2 hp]
    rfl
theorem code_eq (a b c : UInt8) : (if ((a.toNat : Nat) : Int) < 49 then (some 0 : Option Int) else if ((a.toNat : Nat) : Int) > 53 then some 0 else if ((b.toNat : Nat) : Int) < 48 then some 0 else if ((b.toNat : Nat) : Int) > 57 then some 0
    else if ((c.toNat : Nat) : Int) < 48 then some 0 else if ((c.toNat : Nat) : Int) > 57 then some 0 else some (((((a.toNat : Nat) : Int) - 48) % 256 * 100 + (((b.toNat : Nat) : Int) - 48) % 256 * 10) + (((c.toNat : Nat) : Int) - 48) % 256)) =
    some (if ((49 ≤ a.toNat ∧ a.toNat ≤ 53) ∧ 48 ≤ b.toNat ∧ b.toNat ≤ 57) ∧ 48 ≤ c.toNat ∧ c.toNat ≤ 57 then (((a.toNat - 48) * 100 + (b.toNat - 48) * 10 + (c.toNat - 48) : Nat) : Int) else 0) := by
  have g9 := UInt8.toNat_lt a
  have g10 := UInt8.toNat_lt b
  have g11 := UInt8.toNat_lt c
  repeat' split
  all_goals first | rfl | (congr 1; omega) | omega
theorem low_all : ∀ c : Fin 256, Lib.lowerB (UInt8.ofNat c.val) = lowB (UInt8.ofNat c.val) := by decide +kernel
theorem low_eq (b : UInt8) : Lib.lowerB b = lowB b := by
  have := low_all ⟨b.toNat, UInt8.toNat_lt b⟩
  simpa using this
theorem lowN_eq (l : List UInt8) : lowN (bs l) = bs (lowA l) := by
  unfold lowN lowA Lib.toLowerA
  rw [bs_list, show Lib.lowerB = lowB from funext low_eq]
  rfl
theorem lowA_len (l : List UInt8) : (lowA l).length = l.length := by unfold lowA Lib.toLowerA; simp
theorem small_is (l : List UInt8) (hl : l.length ≤ 1048576) : codicilref29_small.f (bs l) = some (bs (lowA l)) := by
  unfold codicilref29_small.f
  rw [if_pos (show (bs l).size ≤ 1048576 from hl), lowN_eq]
/-- One line of a head behind the first one. -/
def stepH (x : List UInt8) (st : RS) : Option RS :=
  if hdOk x = false then none
  else if lowA (hdName x) = clName then (if st.2.2 = true then none else (lengthL (hdVal x).data.toList).map fun k => (st.1, k, true))
  else if lowA (hdName x) = teName then none
  else some (st.1 ++ [⟨bs (lowA (hdName x)), hdVal x⟩], st.2.1, st.2.2)
def runH : List (List UInt8) → RS → Option RS
  | [], st => some st
  | x :: r, st => (stepH x st).bind (runH r)
theorem indexByte_neg (c : UInt8) : ∀ l : List UInt8, decide (Lib.indexByte l c < 0) = l.all fun b => !(b == c)
  | [] => rfl
  | b :: r => by
    have ih := indexByte_neg c r
    have hg := Lib.indexByte_ge r c
    rw [List.all_cons, ← ih]
    by_cases hb : (b == c) = true
    · have e : Lib.indexByte (b :: r) c = 0 := by simp only [Lib.indexByte]; rw [if_pos hb]
      rw [e, hb]
      rfl
    · have e : Lib.indexByte (b :: r) c = if (Lib.indexByte r c == -1) = true then -1 else Lib.indexByte r c + 1 := by simp only [Lib.indexByte]; rw [if_neg hb]
      rw [e, Bool.eq_false_iff.2 hb, Bool.not_false, Bool.true_and]
      rw [Bool.eq_iff_iff, decide_eq_true_iff, decide_eq_true_iff]
      split
      · rename_i h; have : Lib.indexByte r c = -1 := by simpa using h
        omega
      · rename_i h; have : ¬ Lib.indexByte r c = -1 := by simpa using h
        omega
theorem all_and {α : Type} (p q : α → Bool) : ∀ l : List α, (l.all fun x => p x && q x) = (l.all p && l.all q)
  | [] => rfl
  | a :: r => by simp only [List.all_cons, all_and p q r]; cases p a <;> cases q a <;> simp
theorem odd_eq (i : Nat) (x : List UInt8) : oddLine i x = !(noCR x && decide (i ≤ 64)) := by
  unfold oddLine noCR
  rw [indexByte_neg, indexByte_neg, all_and]
def okL (i : Nat) (ls : List (List UInt8)) : Bool := ls.all noCR && (ls.isEmpty || decide (i + ls.length ≤ 65))
theorem run_enum (p : List UInt8 → Bool) : ∀ (ls : List (List UInt8)) (i : Nat) (st : RS), 1 ≤ i → runR p (enumL i ls) st = if okL i ls = true then runH ls st else none
  | [], i, st, hi => rfl
  | x :: r, i, st, hi => by
    have hs : stepR p (i, x) st = if oddLine i x = true then none else stepH x st := by
      unfold stepR stepH
      simp only [if_neg (show ¬ i = 0 by omega)]
    have hl : runR p (enumL i (x :: r)) st = (stepR p (i, x) st).bind (runR p (enumL (i + 1) r)) := rfl
    have hr : runH (x :: r) st = (stepH x st).bind (runH r) := rfl
    have hk : okL i (x :: r) = (noCR x && r.all noCR && decide (i + (r.length + 1) ≤ 65)) := by unfold okL; rw [List.all_cons]; rfl
    have hk2 : (noCR x && decide (i ≤ 64) && okL (i + 1) r) = (noCR x && r.all noCR && decide (i + (r.length + 1) ≤ 65)) := by
      unfold okL
      cases r with
      | nil =>
        simp only [List.all_nil, List.isEmpty_nil, Bool.true_or, Bool.and_true, List.length_nil]
        congr 1
        rw [decide_eq_decide]
        omega
      | cons y t =>
        simp only [List.isEmpty_cons, Bool.false_or]
        rw [Bool.eq_iff_iff]
        simp only [Bool.and_eq_true, decide_eq_true_iff, List.length_cons]
        constructor
        · rintro ⟨⟨h1, h2⟩, h3, h4⟩
          exact ⟨⟨h1, h3⟩, by omega⟩
        · rintro ⟨⟨h1, h3⟩, h4⟩
          exact ⟨⟨h1, by omega⟩, h3, by omega⟩
    rw [hl, hr, hs, odd_eq, hk, ← hk2]
    cases hx : (noCR x && decide (i ≤ 64)) with
    | false => rfl
    | true =>
      rw [Bool.true_and, Bool.not_true, if_neg (by decide)]
      cases hst : stepH x st with
      | none => rw [Option.bind_none, Option.bind_none]; split <;> rfl
      | some s => rw [Option.bind_some, Option.bind_some]; exact run_enum p r (i + 1) s (by omega)
def okHead (p : List UInt8 → Bool) (l0 : List UInt8) (ls : List (List UInt8)) : Bool := (l0 :: ls).all noCR && p l0 && decide (ls.length ≤ 64)
/-- A whole head, line by line. -/
theorem run_lines (p : List UInt8 → Bool) (l0 : List UInt8) (ls : List (List UInt8)) : runR p (enumL 0 (l0 :: ls)) ([], 0, false) = if okHead p l0 ls = true then runH ls ([], 0, false) else none := by
  have hl : runR p (enumL 0 (l0 :: ls)) ([], 0, false) = (stepR p (0, l0) ([], 0, false)).bind (runR p (enumL 1 ls)) := rfl
  have hs : stepR p (0, l0) ([], 0, false) = if oddLine 0 l0 = true then none else if p l0 = true then some ([], 0, false) else none := by
    unfold stepR
    simp only [if_pos rfl]
    rfl
  have hk : okHead p l0 ls = (noCR l0 && (p l0 && okL 1 ls)) := by
    unfold okHead okL
    rw [List.all_cons, Bool.eq_iff_iff]
    simp only [Bool.and_eq_true, Bool.or_eq_true, decide_eq_true_iff, List.isEmpty_iff]
    constructor
    · rintro ⟨⟨⟨h1, h2⟩, h3⟩, h4⟩
      exact ⟨h1, h3, h2, .inr (by omega)⟩
    · rintro ⟨h1, h3, h2, h4⟩
      exact ⟨⟨⟨h1, h2⟩, h3⟩, by rcases h4 with rfl | h4; exact Nat.zero_le _; omega⟩
  rw [hl, hs, odd_eq, decide_eq_true (Nat.zero_le _), Bool.and_true, hk]
  cases noCR l0 with
  | false => rfl
  | true =>
    cases p l0 with
    | false => rfl
    | true => exact run_enum p ls 1 _ (Nat.le_refl _)
theorem rdB (ls : List (List UInt8)) (i : Nat) (hi : i < ls.length) : rdOf ByteArray.empty (ls.map bs) (i : Int) = bs ls[i] := by
  unfold rdOf
  rw [Int.toNat_natCast, List.getD_eq_getElem?_getD, List.getElem?_map, List.getElem?_eq_getElem hi]
  rfl
theorem hdVal_eq (x : List UInt8) : hdVal x = bs (Lib.trimS (cutB 58 x).2.1 [32, 9]) := by unfold hdVal trimN; rw [cutB_eq]; rfl
theorem trimS_le (l : List UInt8) : (Lib.trimS l [32, 9]).length ≤ l.length := by
  rw [trimS_eq]; exact Nat.le_trans (dropWhile_len _ _) (trimR_le l)
def firstB (l : List UInt8) : Bool := reqB l || tldB l
theorem tldB_code {l : List UInt8} (h : tldB l = true) : 100 ≤ puV 16 (tldC l) := by
  unfold tldB at h
  simp only [Bool.and_eq_true, decide_eq_true_iff] at h
  omega
/-- What a head that ends says. -/
def finL (s : List UInt8) (o : Option RS) : Except Int (List Hd × List UInt8 × Nat) := match o with
  | none => .error 291
  | some (hs, body, _) => if 65536 < body then .error 292 else if s.length < (headOf s).1.length + 4 + body then .error 290 else .ok (hs, (s.drop ((headOf s).1.length + 4)).take body, (headOf s).1.length + 4 + body)
theorem read_form (p : List UInt8 → Bool) (s l0 : List UInt8) (ls : List (List UInt8)) (hf : (headOf s).2.2 = true) (hp : partsL [13, 10] (headOf s).1.length (headOf s).1 = l0 :: ls) :
    readL p s = finL s (if okHead p l0 ls = true then runH ls ([], 0, false) else none) := by
  unfold readL linesOf
  rw [if_neg (by rw [hf]; decide), hp, run_lines]
  rfl
theorem read_none (p : List UInt8 → Bool) (s : List UInt8) (hf : (headOf s).2.2 = false) : readL p s = .error (if s.length < 8192 then 290 else 292) := by
  unfold readL
  rw [if_pos hf]
  split <;> rfl
theorem parts_cons (f : Nat) (l : List UInt8) : ∃ a r, partsL [13, 10] f l = a :: r := by
  cases f with
  | zero => exact ⟨_, _, rfl⟩
  | succ f =>
    simp only [partsL]
    split
    · exact ⟨_, _, rfl⟩
    · exact ⟨_, _, rfl⟩
theorem head_pre (s : List UInt8) (hf : (headOf s).2.2 = true) : (headOf s).1.length + 4 ≤ s.length ∧ s.take (headOf s).1.length = (headOf s).1 := by
  unfold headOf at hf ⊢
  rcases cut_cases (s.take 8192) crlf2 (by simp) with ⟨h1, _⟩ | ⟨a, b, h1, h2, _⟩
  · rw [show ([13, 10, 13, 10] : List UInt8) = crlf2 from rfl, h1] at hf; cases hf
  · rw [show ([13, 10, 13, 10] : List UInt8) = crlf2 from rfl, h1]
    have hl := congrArg List.length h2
    simp only [List.length_append, List.length_take, List.length_cons, List.length_nil] at hl
    refine ⟨by simp only; omega, ?_⟩
    have h3 := congrArg (List.take a.length) h2
    rw [List.append_assoc, List.take_left, List.take_take, Nat.min_eq_left (by omega)] at h3
    exact h3
def headR (s : List UInt8) : ByteArray × List S59 × ByteArray × Int × Int := match readL firstB s with
  | .error e => (⟨#[]⟩, [], ⟨#[]⟩, 0, e)
  | .ok (hs, b, n) => (bs (lineOf s), hs, bs b, ((n : Nat) : Int), 0)
theorem lineOf_is {s l0 : List UInt8} {ls : List (List UInt8)} (hp : partsL [13, 10] (headOf s).1.length (headOf s).1 = l0 :: ls) : lineOf s = l0 := by
  unfold lineOf linesOf
  rw [hp]
  rfl
theorem part_le {s l0 : List UInt8} {ls : List (List UInt8)} (hp : partsL [13, 10] (headOf s).1.length (headOf s).1 = l0 :: ls) : ∀ x ∈ l0 :: ls, x.length ≤ (headOf s).1.length := fun x hx => partsL_le [13, 10] _ _ x (by rw [hp]; exact hx)
theorem ok_mono {p q : List UInt8 → Bool} {l0 : List UInt8} {ls : List (List UInt8)} (hpq : p l0 = true → q l0 = true) (h : okHead q l0 ls = false) : okHead p l0 ls = false := by
  unfold okHead at h ⊢
  cases hp : p l0 with
  | false => simp
  | true => rw [hpq hp] at h; exact h
/-- Where the first line is one of either kind: what either reads. -/
theorem read_kind (p : List UInt8 → Bool) (s l0 : List UInt8) (ls : List (List UInt8)) (hf : (headOf s).2.2 = true) (hp : partsL [13, 10] (headOf s).1.length (headOf s).1 = l0 :: ls) (hpq : p l0 = true → firstB l0 = true) :
    readL p s = (if p l0 = true then readL firstB s else .error 291) ∧ (readL firstB s ≠ .error 291 → (l0 :: ls).all noCR = true) := by
  rw [read_form p s l0 ls hf hp, read_form firstB s l0 ls hf hp]
  constructor
  · by_cases h : p l0 = true
    · rw [if_pos h]
      have e : okHead p l0 ls = okHead firstB l0 ls := by unfold okHead; rw [h, hpq h]
      rw [e]
    · rw [if_neg h]
      have e : okHead p l0 ls = false := by unfold okHead; rw [Bool.eq_false_iff.2 h]; simp
      rw [e]
      rfl
  · intro h
    cases hall : (l0 :: ls).all noCR with
    | true => rfl
    | false =>
      have e : okHead firstB l0 ls = false := by unfold okHead; rw [hall]; rfl
      rw [e] at h
      exact absurd rfl h
theorem readL_err0 {p : List UInt8 → Bool} {s : List UInt8} {e : Int} (h : readL p s = .error e) : e ≠ 0 := readL_err h
abbrev ReqR := ByteArray × ByteArray × List S59 × ByteArray × Int × Int
def reqR (s : List UInt8) : ReqR := match readL reqB s with
  | .error er => (ByteArray.empty, ByteArray.empty, [], ByteArray.empty, 0, er)
  | .ok (hs, b, n) => (bs (reqM (lineOf s)), bs (reqT (lineOf s)), hs, bs b, n, 0)
theorem line_le (s : List UInt8) (l0 : List UInt8) (ls : List (List UInt8)) (hf : (headOf s).2.2 = true) (hp : partsL [13, 10] (headOf s).1.length (headOf s).1 = l0 :: ls) : l0.length ≤ s.length := by
  have h1 := (head_pre s hf).1
  have h2 := part_le hp l0 (List.mem_cons_self ..)
  omega
abbrev TldR := Int × List S59 × ByteArray × Int × Int
def tldRes (s : List UInt8) : TldR := match readL tldB s with
  | .error er => (0, [], ByteArray.empty, 0, er)
  | .ok (hs, b, n) => (((puV 16 (tldC (lineOf s)) : Nat) : Int), hs, bs b, n, 0)
theorem rdH (l : List S59) (i : Nat) (hi : i < l.length) : rd_T59 l (i : Int) = l[i] := by
  unfold rd_T59
  rw [Int.toNat_natCast, List.getD_eq_getElem?_getD, List.getElem?_eq_getElem hi]
  rfl
theorem stepH_len {x : List UInt8} {st s : RS} (h : stepH x st = some s) : s.1.length ≤ st.1.length + 1 := by
  unfold stepH at h
  split at h
  · cases h
  · split at h
    · split at h
      · cases h
      · obtain ⟨k, _, h⟩ := Option.map_eq_some_iff.1 h
        subst h
        simp
    · split at h
      · cases h
      · injection h with h
        subst h
        simp
theorem runH_len : ∀ (ls : List (List UInt8)) (st s : RS), runH ls st = some s → s.1.length ≤ st.1.length + ls.length
  | [], st, s, h => by simp [runH] at h; subst h; simp
  | x :: r, st, s, h => by
    simp only [runH] at h
    obtain ⟨s1, h1, h2⟩ := Option.bind_eq_some_iff.1 h
    have := stepH_len h1
    have := runH_len r s1 s h2
    simp only [List.length_cons]
    omega
theorem read_len {p : List UInt8 → Bool} {s : List UInt8} {hs : List Hd} {b : List UInt8} {n : Nat} (h : readL p s = .ok (hs, b, n)) : hs.length ≤ 64 := by
  cases hf : (headOf s).2.2 with
  | false => rw [read_none p s hf] at h; cases h
  | true =>
    obtain ⟨l0, ls, hp⟩ := parts_cons (headOf s).1.length (headOf s).1
    rw [read_form p s l0 ls hf hp] at h
    by_cases hk : okHead p l0 ls = true
    · rw [if_pos hk] at h
      cases hr : runH ls ([], 0, false) with
      | none => rw [hr] at h; cases h
      | some st =>
        obtain ⟨hs', body, tt⟩ := st
        have hl := runH_len _ _ _ hr
        rw [hr] at h
        simp only [finL] at h
        have h64 : ls.length ≤ 64 := by unfold okHead at hk; simp only [Bool.and_eq_true, decide_eq_true_iff] at hk; exact hk.2
        split at h
        · cases h
        · split at h
          · cases h
          · injection h with h
            simp only [Prod.mk.injEq] at h
            rw [← h.1]
            simp only [List.length_nil] at hl
            omega
    · rw [if_neg hk] at h; cases h
theorem reqR_len (s : List UInt8) : (reqR s).2.2.1.length ≤ 64 := by
  unfold reqR
  split
  · simp
  · rename_i h; exact read_len h
theorem tldRes_len (s : List UInt8) : (tldRes s).2.1.length ≤ 64 := by
  unfold tldRes
  split
  · simp
  · rename_i h; exact read_len h
theorem read_is (a0 : ByteArray) (h : a0.size ≤ 1048576) : http_Read.f a0 = some (reqR a0.data.toList) := by
  unfold http_Read.f reqR
  rw [if_pos h]
  cases readL reqB a0.data.toList <;> rfl
theorem told_is (a0 : ByteArray) (h : a0.size ≤ 1048576) : http_Told.f a0 = some (tldRes a0.data.toList) := by
  unfold http_Told.f tldRes
  rw [if_pos h]
  cases readL tldB a0.data.toList <;> rfl
def smallHd (h : S59) : Bool := decide (h.f0.size ≤ 1024) && decide (h.f1.size ≤ 1024)
def largeB (l : List S59) (b : ByteArray) : Bool := decide (100 < l.length) || decide (4096 < b.size) || !l.all smallHd
theorem large_not {l : List S59} {b : ByteArray} (h : largeB l b = false) : l.length ≤ 100 ∧ b.size ≤ 4096 ∧ ∀ x ∈ l, x.f0.size ≤ 1024 ∧ x.f1.size ≤ 1024 := by
  unfold largeB at h
  simp only [Bool.or_eq_false_iff, decide_eq_false_iff_not, Bool.not_eq_false', List.all_eq_true] at h
  refine ⟨by omega, by omega, fun x hx => ?_⟩
  have := h.2 x hx
  unfold smallHd at this
  simp only [Bool.and_eq_true, decide_eq_true_iff] at this
  exact this
theorem hdT_len4 (h : S59) : (hdT h).data.toList.length = h.f0.size + h.f1.size + 4 := by
  rw [Array.length_toList]
  show (hdT h).size = _
  unfold hdT
  simp only [ByteArray.size_append]
  rw [show (⟨#[58, 32]⟩ : ByteArray).size = 2 from rfl, show (⟨#[13, 10]⟩ : ByteArray).size = 2 from rfl]
  omega
theorem hdsL_len : ∀ l : List S59, (∀ x ∈ l, x.f0.size ≤ 1024 ∧ x.f1.size ≤ 1024) → (hdsL l).length ≤ 2052 * l.length
  | [], _ => Nat.le_refl _
  | x :: r, h => by
    have h1 := h x (List.mem_cons_self ..)
    have h2 := hdsL_len r (fun y hy => h y (List.mem_cons_of_mem _ hy))
    have h3 := hdT_len4 x
    unfold hdsL at h2 ⊢
    rw [List.flatMap_cons, List.length_append, List.length_cons]
    omega
theorem okHd_eq (h : S59) : okHd h = (tokP h.f0.data.toList && ((lowA h.f0.data.toList == h.f0.data.toList) && (!(h.f0.data.toList == clT) && (!(h.f0.data.toList == teT) && valP h.f1.data.toList)))) := by
  unfold okHd
  have e1 : tokenB h.f0 = tokP h.f0.data.toList := tokenB_P h.f0.data.toList
  have e2 : valueB h.f1 = valP h.f1.data.toList := valueB_P h.f1.data.toList
  have e3 : h.f0.toList = h.f0.data.toList := ByteArray.toList_eq _
  rw [e1, e2, e3, toL]
theorem ap_bs (a b : List UInt8) : bs a ++ bs b = bs (a ++ b) := by
  apply ByteArray.ext
  rw [ByteArray.data_append]
  apply Array.ext'
  simp [bs]
theorem ap_l (a : List UInt8) (b : ByteArray) : bs a ++ b = bs (a ++ b.data.toList) := ap_bs a b.data.toList
theorem hds_drop (l : List S59) (i : Nat) (hi : i < l.length) : hdsL (l.drop i) = (hdT l[i]).data.toList ++ hdsL (l.drop (i + 1)) := by
  unfold hdsL
  rw [List.drop_eq_getElem_cons hi, List.flatMap_cons]
theorem hdT_list (h : S59) : (hdT h).data.toList = h.f0.data.toList ++ [58, 32] ++ h.f1.data.toList ++ [13, 10] := by
  unfold hdT
  simp only [ByteArray.data_append, Array.toList_append]
theorem itoa_small (n : Int) (h : -9223372036854775808 ≤ n ∧ n ≤ 9223372036854775807) : (itoaN n).size ≤ 32 := by
  have := Lib.itoa_length_le n h.1 h.2
  show (Lib.itoa n).length ≤ 32
  omega
def fits (l : List S59) (body : ByteArray) : Prop := l.length ≤ 1048576 ∧ (∀ x ∈ l, x.f0.size ≤ 1048576 ∧ x.f1.size ≤ 1048576) ∧ (hdsL l).length ≤ 1048576 ∧ body.size ≤ 1048576
def askN (m t : ByteArray) (l : List S59) (body : ByteArray) : ByteArray × Int := if (tokenB m && targetB t) = true then writeN (m ++ ⟨#[32]⟩ ++ t ++ ⟨#[32, 72, 84, 84, 80, 47, 49, 46, 49]⟩) l body else (ByteArray.empty, 2)
theorem ask_is (m t : ByteArray) (l : List S59) (body : ByteArray) (hm : m.size ≤ 500000) (ht : t.size ≤ 500000) (hf : fits l body) : http_Ask.f m t l body = some (askN m t l body) := by
  obtain ⟨h1, h2, h3, h4⟩ := hf
  unfold http_Ask.f
  rw [if_pos ⟨hm, ht, h3, h4, h1⟩]
  rfl
theorem reason_le (x : Int) : (reasonT x).size ≤ 32 := by
  unfold reasonT
  cases h : reasonRows.find? fun p => p.1 == x with
  | none => exact Nat.zero_le _
  | some p =>
    have hm := List.mem_of_find?_eq_some h
    have : ∀ q ∈ reasonRows, q.2.size ≤ 32 := by decide
    exact this p hm
def sayN (c : Int) (l : List S59) (body : ByteArray) : ByteArray × Int := if 100 ≤ c ∧ c ≤ 599 then writeN (lineT c) l body else (ByteArray.empty, 2)
theorem say_is (c : Int) (l : List S59) (body : ByteArray) (hf : fits l body) : http_Write.f c l body = some (sayN c l body) := by
  obtain ⟨h1, h2, h3, h4⟩ := hf
  unfold http_Write.f
  rw [if_pos ⟨h3, h4, h1⟩]
  rfl
def getN : List S59 → ByteArray → ByteArray × Bool
  | [], _ => (⟨#[]⟩, false)
  | h :: r, n => if h.f0.toList = n.toList then (h.f1, true) else getN r n
theorem fits_of {l : List S59} {b : ByteArray} (h : largeB l b = false) : fits l b := by
  obtain ⟨h1, h2, h3⟩ := large_not h
  have := hdsL_len l h3
  exact ⟨by omega, fun x hx => by have := h3 x hx; omega, by omega, by omega⟩
end Go.Proofs.YtddjhmelniphgaaGreatDoor.Print
