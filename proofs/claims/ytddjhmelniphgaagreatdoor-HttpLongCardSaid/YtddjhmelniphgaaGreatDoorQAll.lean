/- Several texts of this seat in one (merge.py): QTP, QTCut, QTTok, QTVal, QTTgt, QTTrim, QTLines, QTHead, QTHdr, QTHeads, QTReqsA, QTReadsA, QTAskA, QTBack, QTBackM. -/
import Derived.Test.YtddjhmelniphgaaGreatDoorHTAsc
import Derived.Test.YtddjhmelniphgaaGreatDoorHTSmall
import Derived.Test.YtddjhmelniphgaaGreatDoorHTTold
import Derived.Test.YtddjhmelniphgaaGreatDoorHTAsk
import Derived.Lib.ItoaLen
import Derived.Test.YtddjhmelniphgaaGreatDoorPrint3
import Derived.Test.YtddjhmelniphgaaGreatDoorPrint4
import Derived.Test.YtddjhmelniphgaaGreatDoorPrint6
import Derived.Test.YtddjhmelniphgaaGreatDoorPrint5
import Derived.Test.YtddjhmelniphgaaGreatDoorPrint7
import Derived.Test.YtddjhmelniphgaaGreatDoorPrint8
import Derived.Test.YtddjhmelniphgaaGreatDoorHAlive29
import Derived.Test.YtddjhmelniphgaaGreatDoorPrint9
import Derived.Test.YtddjhmelniphgaaGreatDoorOpnT
section
/- HTTP's texts in plain words: what the program's functions come to. -/
namespace Go.Proofs.YtddjhmelniphgaaGreatDoor.Print
open Go.RowKit Go.Proofs.YtddjhmelniphgaaGreatDoorW.PrintWords Go.Proofs.YtddjhmelniphgaaGreatDoorW.PrintLast
set_option linter.unusedVariables false
set_option linter.unusedSimpArgs false
theorem w64 {n : Int} (h : -9223372036854775808 ≤ n ∧ n ≤ 9223372036854775807) : wrap64 n = n := by unfold wrap64; omega
theorem wup {n : Nat} (h : n ≤ 9223372036854775806) : wrap64 ((n : Int) + 1) = ((n + 1 : Nat) : Int) := by rw [w64 (by omega)]; rfl
theorem btl (l : List UInt8) (i : Nat) (h : i < l.length) : bt (bs l) (i : Int) = ((l[i].toNat : Nat) : Int) := by
  rw [← bt_at (bs l) (i : Int) (by simpa [bs_size] using h)]
  rfl
theorem ext_bs (l : List UInt8) (a b : Nat) : (bs l).extract a b = bs ((l.drop a).take (b - a)) := by
  apply ByteArray.ext
  rw [ByteArray.data_extract]
  apply Array.ext'
  simp [bs, List.extract_eq_take_drop]
theorem ext_to (l : List UInt8) (b : Nat) : (bs l).extract 0 b = bs (l.take b) := by rw [ext_bs, List.drop_zero, Nat.sub_zero]
theorem ext_from (l : List UInt8) (a : Nat) : (bs l).extract a (bs l).size = bs (l.drop a) := by
  rw [ext_bs, bs_size, List.take_of_length_le (by rw [List.length_drop]; omega)]
theorem toL (l : List UInt8) : (bs l).toList = l := by rw [ByteArray.toList_eq]; rfl
theorem of_toL (s : ByteArray) : s = bs s.data.toList := rfl
def cutB (c : UInt8) : List UInt8 → List UInt8 × List UInt8 × Bool
  | [] => ([], [], false)
  | b :: r => if b = c then ([], r, true) else (b :: (cutB c r).1, (cutB c r).2.1, (cutB c r).2.2)
theorem cutB_eq (c : UInt8) : ∀ l, Lib.cut l [c] = cutB c l
  | [] => rfl
  | b :: r => by
    have ih := cutB_eq c r
    unfold Lib.cut at ih ⊢
    have hp : ([c] : List UInt8).isPrefixOf (b :: r) = (c == b) := by simp [List.isPrefixOf]
    have hi : Lib.index (b :: r) [c] = if b = c then 0 else if (Lib.index r [c] == -1) = true then -1 else Lib.index r [c] + 1 := by
      rw [Lib.index, hp]
      by_cases hb : b = c
      · rw [if_pos hb, if_pos (by rw [hb]; exact beq_self_eq_true c)]
      · rw [if_neg hb, if_neg (fun e => hb (eq_of_beq e).symm)]
    by_cases hb : b = c
    · rw [hi, if_pos hb]
      simp [cutB, hb]
    · rw [hi, if_neg hb]
      simp only [cutB, if_neg hb]
      have hg := Lib.index_ge r [c]
      by_cases h0 : 0 ≤ Lib.index r [c]
      · rw [if_pos h0] at ih
        have h1 : ¬ (Lib.index r [c] == -1) = true := by simp; omega
        have h2 : (Lib.index r [c] + 1).toNat = (Lib.index r [c]).toNat + 1 := by omega
        rw [if_neg h1, if_pos (by omega), ← ih, h2]
        simp [List.take_succ_cons, Nat.add_right_comm]
      · have h1 : Lib.index r [c] = -1 := by omega
        rw [if_neg h0] at ih
        rw [h1, ← ih]
        simp
theorem cutB_none (c : UInt8) : ∀ l, (cutB c l).2.2 = false → cutB c l = (l, [], false) ∧ c ∉ l
  | [], _ => ⟨rfl, by simp⟩
  | b :: r, h => by
    by_cases hb : b = c
    · simp [cutB, hb] at h
    · simp only [cutB, if_neg hb] at h ⊢
      obtain ⟨h1, h2⟩ := cutB_none c r h
      rw [h1]
      exact ⟨rfl, by simp [h2, Ne.symm hb]⟩
theorem cutB_some (c : UInt8) : ∀ l, (cutB c l).2.2 = true → l = (cutB c l).1 ++ c :: (cutB c l).2.1 ∧ c ∉ (cutB c l).1
  | [], h => by simp [cutB] at h
  | b :: r, h => by
    by_cases hb : b = c
    · simp [cutB, hb]
    · simp only [cutB, if_neg hb] at h ⊢
      obtain ⟨h1, h2⟩ := cutB_some c r h
      exact ⟨by rw [List.cons_append, ← h1], by simp [h2, Ne.symm hb]⟩
theorem cutB_le (c : UInt8) (l : List UInt8) : (cutB c l).1.length ≤ l.length ∧ (cutB c l).2.1.length ≤ l.length := by
  rw [← cutB_eq]; exact cut_le l [c]
def rB (n : Nat) : Bool := decide (97 ≤ n) && decide (n ≤ 122) || decide (65 ≤ n) && decide (n ≤ 90) || decide (48 ≤ n) && decide (n ≤ 57)
def isTok (b : UInt8) : Bool := rB b.toNat || tokL.contains b
theorem isTok_all : ∀ c : Fin 256, (!oddT c.val) = isTok (UInt8.ofNat c.val) := by decide +kernel
theorem isTok_eq (b : UInt8) : (!oddT b.toNat) = isTok b := by
  have := isTok_all ⟨b.toNat, UInt8.toNat_lt b⟩
  simpa using this
def tokP (l : List UInt8) : Bool := !l.isEmpty && l.all isTok
theorem not_any {α : Type} (p : α → Bool) (l : List α) : (!l.any p) = l.all (fun x => !p x) := by
  induction l with
  | nil => rfl
  | cons a r ih => rw [List.any_cons, List.all_cons, Bool.not_or, ih]
theorem tokenB_P (l : List UInt8) : tokenB (bs l) = tokP l := by
  rw [tokenB_bytes, not_any]
  unfold tokP
  congr 2
  funext b
  exact isTok_eq b
def isVal (b : UInt8) : Bool := decide (32 ≤ b.toNat) && decide (b.toNat ≤ 126) || decide (b.toNat = 9)
def blankB (b : UInt8) : Bool := decide (b.toNat = 32) || decide (b.toNat = 9)
def endsP (l : List UInt8) : Bool := match l with
  | [] => true
  | a :: r => !blankB a && !blankB ((a :: r)[r.length]'(by simp))
def valP (l : List UInt8) : Bool := l.all isVal && endsP l
theorem isVal_eq (b : UInt8) : (!oddV b.toNat) = isVal b := by
  unfold oddV isVal
  rw [Bool.eq_iff_iff]
  simp only [Bool.not_eq_true', Bool.and_eq_false_iff, Bool.or_eq_false_iff, Bool.or_eq_true, Bool.and_eq_true, decide_eq_true_iff, decide_eq_false_iff_not]
  omega
def isTgt (b : UInt8) : Bool := decide (33 ≤ b.toNat) && decide (b.toNat ≤ 126)
def tgtOk (l : List UInt8) : Bool := l.all isTgt && (l.head? == some 47)
theorem isTgt_eq (b : UInt8) : (!oddG b.toNat) = isTgt b := by
  unfold oddG isTgt
  rw [Bool.eq_iff_iff]
  simp only [Bool.not_eq_true', Bool.or_eq_false_iff, Bool.and_eq_true, decide_eq_true_iff, decide_eq_false_iff_not]
  omega
theorem targetB_P (l : List UInt8) : targetB (bs l) = tgtOk l := by
  unfold targetB tgtOk
  rw [idx_all oddG_high, bs_list, not_any, Bool.and_comm]
  congr 1
  · congr 1
    funext b
    exact isTgt_eq b
  · cases l with
    | nil => rfl
    | cons a r =>
      have e : Lib.hasPrefix (a :: r) [47] = ((47 : UInt8) == a && true) := rfl
      rw [e, Bool.and_true, Bool.eq_iff_iff, beq_iff_eq, beq_iff_eq, List.head?_cons]
      exact ⟨fun e => by rw [e], fun e => (Option.some.inj e).symm⟩
theorem nil_or_snoc (l : List UInt8) : l = [] ∨ ∃ r a, l = r ++ [a] := by
  rcases List.eq_nil_or_concat l with h | ⟨r, a, h⟩
  · exact .inl h
  · exact .inr ⟨r, a, by rw [h]; simp⟩
def trimR (l : List UInt8) : List UInt8 := (l.reverse.dropWhile blankB).reverse
theorem blanks_all : ∀ c : Fin 256, ([32, 9] : List UInt8).contains (UInt8.ofNat c.val) = blankB (UInt8.ofNat c.val) := by decide +kernel
theorem blanks_eq (b : UInt8) : ([32, 9] : List UInt8).contains b = blankB b := by
  have := blanks_all ⟨b.toNat, UInt8.toNat_lt b⟩
  simpa using this
theorem blanks_fun : (fun b => ([32, 9] : List UInt8).contains b) = blankB := funext blanks_eq
theorem trimS_eq (l : List UInt8) : Lib.trimS l [32, 9] = (trimR l).dropWhile blankB := by
  unfold Lib.trimS Lib.trimLeftS Lib.trimRightS trimR
  rw [blanks_fun]
theorem trimR_snoc (r : List UInt8) (a : UInt8) : trimR (r ++ [a]) = if blankB a = true then trimR r else r ++ [a] := by
  unfold trimR
  rw [List.reverse_append]
  simp only [List.reverse_cons, List.reverse_nil, List.nil_append, List.cons_append, List.dropWhile_cons]
  split
  · rfl
  · simp
theorem trimR_cons (a : UInt8) (r : List UInt8) : trimR (a :: r) = if trimR r = [] ∧ blankB a = true then [] else a :: trimR r := by
  unfold trimR
  rw [List.reverse_cons, List.dropWhile_append]
  cases h : r.reverse.dropWhile blankB with
  | nil =>
    simp only [List.isEmpty_nil, if_true, List.reverse_nil, true_and, List.dropWhile_cons, List.dropWhile_nil]
    split <;> simp
  | cons x y => simp
theorem trimR_drop : ∀ l : List UInt8, trimR (l.dropWhile blankB) = (trimR l).dropWhile blankB
  | [] => rfl
  | a :: r => by
    rw [trimR_cons]
    by_cases ha : blankB a = true
    · rw [List.dropWhile_cons, if_pos ha, trimR_drop r]
      by_cases h : trimR r = []
      · rw [if_pos ⟨h, ha⟩, h]
      · rw [if_neg (fun e => h e.1), List.dropWhile_cons, if_pos ha]
    · rw [List.dropWhile_cons, if_neg ha, if_neg (fun e => ha e.2), List.dropWhile_cons, if_neg ha, trimR_cons, if_neg (fun e => ha e.2)]
theorem trimR_le : ∀ l : List UInt8, (trimR l).length ≤ l.length
  | [] => Nat.le_refl _
  | a :: r => by
    rw [trimR_cons]
    have := trimR_le r
    split <;> simp <;> omega
/-- What is trimmed already. -/
theorem trim_ends (l : List UInt8) : (Lib.trimS l [32, 9] == l) = endsP l := by
  rw [trimS_eq]
  cases l with
  | nil => rfl
  | cons a r =>
    obtain ⟨q, z, hq⟩ : ∃ q z, a :: r = q ++ [z] := by
      rcases nil_or_snoc (a :: r) with h | ⟨q, z, h⟩
      · cases h
      · exact ⟨q, z, h⟩
    have hz : (a :: r)[r.length]'(by simp) = z := by
      have hl : r.length = q.length := by have := congrArg List.length hq; simp at this; omega
      have : (a :: r)[r.length]'(by simp) = (q ++ [z])[r.length]'(by rw [← hq]; simp) := by congr 1
      rw [this]
      simp [hl]
    unfold endsP
    simp only
    rw [hz]
    have h1 := trimR_snoc q z
    rw [← hq] at h1
    rw [Bool.eq_iff_iff, beq_iff_eq, Bool.and_eq_true, Bool.not_eq_true', Bool.not_eq_true']
    constructor
    · intro e
      have l1 := congrArg List.length e
      have l2 := dropWhile_len blankB (trimR (a :: r))
      have l3 := trimR_le (a :: r)
      have hzb : blankB z = false := by
        cases hb : blankB z with
        | false => rfl
        | true =>
          rw [if_pos hb] at h1
          have l4 := trimR_le q
          rw [h1] at l2 l1
          have l5 := congrArg List.length hq
          simp at l5 l1 l2
          omega
      rw [hzb, if_neg (by decide)] at h1
      rw [h1, List.dropWhile_cons] at e
      refine ⟨?_, hzb⟩
      cases hb : blankB a with
      | false => rfl
      | true =>
        rw [if_pos hb] at e
        have l4 := dropWhile_len blankB r
        have l5 := congrArg List.length e
        simp at l5
        omega
    · rintro ⟨ha, hzb⟩
      rw [hzb, if_neg (by decide)] at h1
      rw [h1, List.dropWhile_cons, if_neg (by rw [ha]; decide)]
theorem valueB_P (l : List UInt8) : valueB (bs l) = valP l := by
  have e : valueB (bs l) = (!decide (0 ≤ Lib.idxFunc oddV true (bs l)) && (Lib.trimS l [32, 9] == l)) := by
    unfold valueB
    congr 1
    rw [toL]
    congr 1
    exact toL _
  rw [e, idx_all oddV_high, bs_list, not_any, trim_ends]
  unfold valP
  congr 2
  funext b
  exact isVal_eq b
def digsN : Nat → List UInt8 → Option Nat
  | acc, [] => some acc
  | acc, c :: r => if 48 ≤ c.toNat ∧ c.toNat ≤ 57 then digsN (acc * 10 + (c.toNat - 48)) r else none
theorem digsN_snoc (c : UInt8) : ∀ (l : List UInt8) (acc : Nat), digsN acc (l ++ [c]) = (digsN acc l).bind fun a => if 48 ≤ c.toNat ∧ c.toNat ≤ 57 then some (a * 10 + (c.toNat - 48)) else none
  | [], acc => by simp [digsN]
  | x :: l, acc => by
    simp only [List.cons_append, digsN]
    split
    · exact digsN_snoc c l _
    · rfl
theorem digsN_lt : ∀ (l : List UInt8) (acc v i : Nat), digsN acc l = some v → acc < 10 ^ i → v < 10 ^ (i + l.length)
  | [], acc, v, i, h, ha => by simp [digsN] at h; subst h; simpa using ha
  | c :: r, acc, v, i, h, ha => by
    simp only [digsN] at h
    split at h
    · have := digsN_lt r _ v (i + 1) h (by rw [Nat.pow_succ]; omega)
      rw [List.length_cons, Nat.add_comm r.length 1, ← Nat.add_assoc]
      exact this
    · cases h
theorem parse_digs (M N : Nat) (hM : 10 ^ N ≤ M + 1) (hN : N ≤ 18) : ∀ (l : List UInt8) (acc i : Nat), acc < 10 ^ i → i + l.length ≤ N → Lib.parseUintM M acc l = match digsN acc l with | some n => .ok n | none => Lib.NumEnd.syntax
  | [], acc, i, ha, hl => rfl
  | c :: r, acc, i, ha, hl => by
    have h6 : 10 ^ (i + 1) ≤ 10 ^ N := Nat.pow_le_pow_right (by decide) (by simp at hl; omega)
    have h18 : 10 ^ N ≤ 10 ^ 18 := Nat.pow_le_pow_right (by decide) hN
    have e6 : (10 : Nat) ^ 18 = 1000000000000000000 := by decide
    have ep : 10 ^ (i + 1) = 10 ^ i * 10 := Nat.pow_succ ..
    simp only [Lib.parseUintM, digsN]
    by_cases hc : 48 ≤ c.toNat ∧ c.toNat ≤ 57
    · rw [if_pos hc, if_pos hc, if_neg (by omega), if_neg (by omega)]
      exact parse_digs M N hM hN r _ (i + 1) (by omega) (by simp at hl; omega)
    · rw [if_neg hc, if_neg hc]
theorem dec_step {a d : Nat} (ha : 1 ≤ a) (hd : d ≤ 9) : Lib.decDigits (a * 10 + d) = Lib.decDigits a ++ [UInt8.ofNat (48 + d)] := by
  conv => lhs; rw [Lib.decDigits]
  rw [dif_neg (by omega), show (a * 10 + d) / 10 = a by omega, show (a * 10 + d) % 10 = d by omega]
theorem digs_back (n : Nat) : ∀ (l : List UInt8) (v : Nat), l.length = n → l ≠ [] → digsN 0 l = some v → l.head? ≠ some 48 → 1 ≤ v ∧ Lib.decDigits v = l := by
  induction n with
  | zero => intro l v hn hne; exact absurd (List.length_eq_zero_iff.1 hn) hne
  | succ n ih =>
    intro l v hn hne h hh
    rcases nil_or_snoc l with rfl | ⟨r, c, rfl⟩
    · exact absurd rfl hne
    · rw [digsN_snoc] at h
      cases hr : digsN 0 r with
      | none => rw [hr] at h; cases h
      | some a =>
        rw [hr, Option.bind_some] at h
        split at h
        · rename_i hc
          injection h with h
          have hoc : UInt8.ofNat (48 + (c.toNat - 48)) = c := by rw [show 48 + (c.toNat - 48) = c.toNat by omega]; simp
          cases r with
          | nil =>
            simp [digsN] at hr
            subst hr
            have h48 : c.toNat ≠ 48 := fun e => hh (by rw [List.nil_append, List.head?_cons]; congr 1; exact UInt8.toNat_inj.1 e)
            refine ⟨by omega, ?_⟩
            rw [← h, Nat.zero_mul, Nat.zero_add, Lib.decDigits_one (by omega), hoc]
            rfl
          | cons x t =>
            obtain ⟨h1, h2⟩ := ih (x :: t) a (by simpa using hn) (by simp) hr (by simpa using hh)
            refine ⟨by omega, ?_⟩
            rw [← h, dec_step h1 (by omega), h2, hoc]
        · cases h
theorem dec_head (n : Nat) : ∀ v, v ≤ n → 1 ≤ v → (Lib.decDigits v).head? ≠ some 48 := by
  induction n with
  | zero => intro v h1 h2; omega
  | succ n ih =>
    intro v h1 h2
    by_cases h : v < 10
    · rw [Lib.decDigits_one h, List.head?_cons]
      intro e
      injection e with e
      have := congrArg UInt8.toNat e
      rw [UInt8.toNat_ofNat'] at this
      have h48 : (48 : UInt8).toNat = 48 := rfl
      omega
    · have e := dec_step (a := v / 10) (d := v % 10) (by omega) (by omega)
      rw [show v / 10 * 10 + v % 10 = v by omega] at e
      rw [e]
      have h3 := ih (v / 10) (by omega) (by omega)
      cases hd : Lib.decDigits (v / 10) with
      | nil => have := Lib.decDigits_length (v / 10); rw [hd] at this; unfold Lib.nDigits at this; split at this <;> simp at this
      | cons x t => rw [hd] at h3; simpa using h3
theorem dec_iff {l : List UInt8} {v : Nat} (hne : l ≠ []) (h : digsN 0 l = some v) : Lib.decDigits v = l ↔ (l.length = 1 ∨ l.head? ≠ some 48) := by
  constructor
  · intro e
    by_cases h1 : l.length = 1
    · exact .inl h1
    · refine .inr (fun hh => ?_)
      by_cases hv : v = 0
      · subst hv
        rw [Lib.decDigits_one (by decide)] at e
        rw [← e] at h1
        exact h1 rfl
      · rw [← e] at hh
        exact dec_head v v (Nat.le_refl _) (by omega) hh
  · rintro (h1 | h1)
    · obtain ⟨c, rfl⟩ := List.length_eq_one_iff.1 h1
      simp only [digsN] at h
      split at h
      · injection h with h
        rw [← h, Nat.zero_mul, Nat.zero_add, Lib.decDigits_one (by omega), show 48 + (c.toNat - 48) = c.toNat by omega]
        simp
      · cases h
    · exact (digs_back _ l v rfl hne h h1).2
/-- What content-length says, by the reference. -/
def lenR (l : List UInt8) : Option Nat := if l = [] ∨ 6 < l.length ∨ (1 < l.length ∧ l.head? = some 48) then none else digsN 0 l
theorem lengthL_eq (l : List UInt8) : lengthL l = lenR l := by
  unfold lengthL lenR puOk puV
  by_cases h0 : l = []
  · subst h0; rfl
  by_cases h6 : 6 < l.length
  · have e : (if l = [] ∨ 6 < l.length ∨ (1 < l.length ∧ l.head? = some 48) then none else digsN 0 l) = none := if_pos (.inr (.inl h6))
    rw [e, decide_eq_false (show ¬ l.length ≤ 6 by omega), Bool.and_false, Bool.false_and]
    rfl
  have hp : Lib.parseUintB 32 l = match digsN 0 l with | some n => .ok n | none => Lib.NumEnd.syntax := by
    unfold Lib.parseUintB
    rw [if_neg h0]
    exact parse_digs _ 6 (by decide) (by decide) l 0 0 (by decide) (by omega)
  rw [hp]
  cases hd : digsN 0 l with
  | none => simp
  | some v =>
    simp only
    rw [decide_eq_true (show l.length ≤ 6 by omega), toL, toL, Bool.true_and, Bool.true_and]
    by_cases hc : 1 < l.length ∧ l.head? = some 48
    · have e : (if l = [] ∨ 6 < l.length ∨ (1 < l.length ∧ l.head? = some 48) then none else some v) = none := if_pos (.inr (.inr hc))
      have e2 : (Lib.decDigits v == l) = false := by
        rw [beq_eq_false_iff_ne]
        intro e
        rcases (dec_iff h0 hd).1 e with h | h
        · omega
        · exact h hc.2
      rw [e, e2]
      rfl
    · have e : (if l = [] ∨ 6 < l.length ∨ (1 < l.length ∧ l.head? = some 48) then none else some v) = some v := if_neg (fun h => h.elim h0 (fun h => h.elim h6 hc))
      have e2 : (Lib.decDigits v == l) = true := by
        rw [beq_iff_eq, dec_iff h0 hd]
        by_cases h1 : l.length = 1
        · exact .inl h1
        · refine .inr (fun h => hc ⟨?_, h⟩)
          have : l.length ≠ 0 := fun e => h0 (List.length_eq_zero_iff.1 e)
          omega
      rw [e, e2]
      rfl
abbrev crlf2 : List UInt8 := [13, 10, 13, 10]
theorem occ_take (l : List UInt8) (i : Nat) : Lib.occAt l crlf2 i = ((l.drop i).take 4 == crlf2) := by
  unfold Lib.occAt
  rw [Bool.eq_iff_iff, List.isPrefixOf_iff_prefix, beq_iff_eq, List.prefix_iff_eq_take]
  exact ⟨fun e => e.symm, fun e => e.symm⟩
def noCR (x : List UInt8) : Bool := x.all fun c => !(c == 13) && !(c == 10)
/-- The lines of a text, read byte by byte. -/
def scanL : List UInt8 → List UInt8 → Option (List (List UInt8))
  | cur, [] => some [cur]
  | cur, c :: r => if c = 13 ∧ r.head? = some 10 then (scanL [] (r.drop 1)).map (cur :: ·) else if c = 13 ∨ c = 10 then none else scanL (cur ++ [c]) r
termination_by _ l => l.length
decreasing_by all_goals simp_wf; try omega
theorem scan_nil (cur : List UInt8) : scanL cur [] = some [cur] := by rw [scanL]
theorem scan_cons (cur : List UInt8) (c : UInt8) (r : List UInt8) : scanL cur (c :: r) = if c = 13 ∧ r.head? = some 10 then (scanL [] (r.drop 1)).map (cur :: ·) else if c = 13 ∨ c = 10 then none else scanL (cur ++ [c]) r := by rw [scanL]
theorem scan_pass : ∀ (a cur r : List UInt8), noCR a = true → scanL cur (a ++ r) = scanL (cur ++ a) r
  | [], cur, r, h => by simp
  | c :: a, cur, r, h => by
    have h2 : ¬ c = 13 ∧ ¬ c = 10 ∧ noCR a = true := by
      unfold noCR at h ⊢
      rw [List.all_cons, Bool.and_eq_true, Bool.and_eq_true, Bool.not_eq_true', Bool.not_eq_true', beq_eq_false_iff_ne, beq_eq_false_iff_ne] at h
      exact ⟨h.1.1, h.1.2, h.2⟩
    rw [List.cons_append, scan_cons, if_neg (fun e => h2.1 e.1), if_neg (fun e => e.elim h2.1 h2.2.1), scan_pass a (cur ++ [c]) r h2.2.2, List.append_assoc]
    rfl
/-- Where a text without the two bytes next to each other has one of them, it is no line. -/
theorem scan_stop : ∀ (a cur r : List UInt8), noCR a = false → (∀ j, j < a.length → Lib.occAt (a ++ r) [13, 10] j = false) → scanL cur (a ++ r) = none
  | [], cur, r, h, _ => by simp [noCR] at h
  | c :: a, cur, r, h, hn => by
    have h0 := hn 0 (by simp)
    rw [List.cons_append, scan_cons]
    have hne : ¬ (c = 13 ∧ (a ++ r).head? = some 10) := by
      rintro ⟨e1, e2⟩
      unfold Lib.occAt at h0
      rw [List.drop_zero, List.cons_append] at h0
      cases har : a ++ r with
      | nil => rw [har] at e2; cases e2
      | cons x y =>
        rw [har] at h0 e2
        injection e2 with e2
        subst e1 e2
        simp [List.isPrefixOf] at h0
    rw [if_neg hne]
    by_cases hc : c = 13 ∨ c = 10
    · rw [if_pos hc]
    · rw [if_neg hc]
      refine scan_stop a (cur ++ [c]) r ?_ (fun j hj => ?_)
      · unfold noCR at h ⊢
        rw [List.all_cons] at h
        have : (!(c == 13) && !(c == 10)) = true := by
          rw [Bool.and_eq_true, Bool.not_eq_true', Bool.not_eq_true', beq_eq_false_iff_ne, beq_eq_false_iff_ne]
          exact ⟨fun e => hc (.inl e), fun e => hc (.inr e)⟩
        rw [this, Bool.true_and] at h
        exact h
      · have := hn (j + 1) (by simpa using hj)
        simpa [Lib.occAt] using this
theorem cut_cases (l sep : List UInt8) (hs : sep ≠ []) : (Lib.cut l sep = (l, [], false) ∧ (∀ j, j < l.length → Lib.occAt l sep j = false)) ∨
    (∃ a b, Lib.cut l sep = (a, b, true) ∧ l = a ++ sep ++ b ∧ ∀ j, j < a.length → Lib.occAt l sep j = false) := by
  unfold Lib.cut
  rcases Lib.index_spec l sep with ⟨h1, h2⟩ | ⟨i, h1, h2, h3, h4⟩
  · rw [h1]
    exact .inl ⟨rfl, fun j hj => h2 j (by omega)⟩
  · rw [h1, if_pos (by omega), Int.toNat_natCast]
    unfold Lib.occAt at h3
    rw [List.isPrefixOf_iff_prefix] at h3
    obtain ⟨t, ht⟩ := h3
    have e1 : l.drop (i + sep.length) = t := by rw [← List.drop_drop, ← ht, List.drop_left]
    refine .inr ⟨_, _, rfl, ?_, ?_⟩
    · rw [e1, List.append_assoc, ht, List.take_append_drop]
    · intro j hj
      rw [List.length_take] at hj
      exact h4 j (by omega)
theorem parts_scan : ∀ (f : Nat) (l : List UInt8), l.length ≤ f → scanL [] l = if (partsL [13, 10] f l).all noCR = true then some (partsL [13, 10] f l) else none
  | 0, l, h => by
    obtain rfl := List.length_eq_zero_iff.1 (Nat.le_zero.1 h)
    rw [scan_nil]
    rfl
  | f + 1, l, h => by
    rcases cut_cases l [13, 10] (by simp) with ⟨h1, h2⟩ | ⟨a, b, h1, h2, h3⟩
    · have e : partsL [13, 10] (f + 1) l = [l] := by simp only [partsL]; rw [h1]; rfl
      rw [e, List.all_cons, List.all_nil, Bool.and_true]
      cases hn : noCR l with
      | true =>
        have := scan_pass l [] [] hn
        rw [List.append_nil, List.nil_append, scan_nil] at this
        rw [this]
        rfl
      | false =>
        have := scan_stop l [] [] hn (by rw [List.append_nil]; exact h2)
        rw [List.append_nil] at this
        rw [this]
        rfl
    · have e : partsL [13, 10] (f + 1) l = a :: partsL [13, 10] f b := by simp only [partsL]; rw [h1]; rfl
      have hb : b.length ≤ f := by have := congrArg List.length h2; simp at this; omega
      rw [e, List.all_cons]
      have ih := parts_scan f b hb
      cases hn : noCR a with
      | true =>
        rw [h2, List.append_assoc, scan_pass a [] _ hn, List.nil_append]
        show scanL a (13 :: 10 :: b) = _
        rw [scan_cons, if_pos ⟨rfl, rfl⟩, List.drop_succ_cons, List.drop_zero, ih, Bool.true_and]
        split <;> rfl
      | false =>
        rw [h2, List.append_assoc, scan_stop a [] _ hn (by rw [← List.append_assoc, ← h2]; exact h3)]
        rfl
theorem reqM_le (l : List UInt8) : (reqM l).length ≤ l.length ∧ (reqT l).length ≤ l.length ∧ (reqV l).length ≤ l.length := by
  have h1 := cut_le l [32]
  have h2 := cut_le (Lib.cut l [32]).2.1 [32]
  unfold reqM reqT reqV
  omega
def pre9 : List UInt8 := [72, 84, 84, 80, 47, 49, 46, 49, 32]
def dig (b : UInt8) : Bool := decide (48 ≤ b.toNat) && decide (b.toNat ≤ 57)
theorem pu16 (a b c : UInt8) : Lib.parseUintB 16 [a, b, c] = if dig a && dig b && dig c then .ok ((a.toNat - 48) * 100 + (b.toNat - 48) * 10 + (c.toNat - 48)) else Lib.NumEnd.syntax := by
  have h : Lib.parseUintB 16 [a, b, c] = _ := parse_digs (2 ^ 16 - 1) 3 (by decide) (by decide) [a, b, c] 0 0 (by decide) (Nat.le_refl 3)
  rw [h]
  have e : digsN 0 [a, b, c] = if dig a && dig b && dig c then some ((a.toNat - 48) * 100 + (b.toNat - 48) * 10 + (c.toNat - 48)) else none := by
    simp only [digsN, dig, Bool.and_eq_true, decide_eq_true_iff, Nat.zero_mul, Nat.zero_add]
    by_cases ha : 48 ≤ a.toNat ∧ a.toNat ≤ 57
    · by_cases hb : 48 ≤ b.toNat ∧ b.toNat ≤ 57
      · by_cases hc : 48 ≤ c.toNat ∧ c.toNat ≤ 57
        · rw [if_pos ha, if_pos hb, if_pos hc, if_pos ⟨⟨ha, hb⟩, hc⟩]
          congr 1
          omega
        · rw [if_pos ha, if_pos hb, if_neg hc, if_neg (fun e => hc e.2)]
      · rw [if_pos ha, if_neg hb, if_neg (fun e => hb e.1.2)]
    · rw [if_neg ha, if_neg (fun e => ha e.1.1)]
  rw [e]
  cases (dig a && dig b && dig c) <;> rfl
/-- What the first line of a response says, where it has enough bytes. -/
def tldP (a b c d : UInt8) (m : List UInt8) : Bool := decide (d = 32) && valP m && (decide (49 ≤ a.toNat) && decide (a.toNat ≤ 53)) && dig b && dig c
theorem tldA_pre (m : List UInt8) : Lib.hasPrefix (pre9 ++ m) pre9 = true ∧ tldA (pre9 ++ m) = m := by
  have h : Lib.hasPrefix (pre9 ++ m) pre9 = true := by unfold Lib.hasPrefix; rw [List.isPrefixOf_iff_prefix]; exact List.prefix_append _ _
  refine ⟨h, ?_⟩
  unfold tldA Lib.trimPrefix
  show (if Lib.hasPrefix (pre9 ++ m) pre9 = true then (pre9 ++ m).drop pre9.length else pre9 ++ m) = m
  rw [if_pos h, List.drop_left]
theorem tldB_eq (l : List UInt8) : tldB l = (Lib.hasPrefix l pre9 && (cutB 32 (tldA l)).2.2 && puOk 16 (cutB 32 (tldA l)).1 && decide ((cutB 32 (tldA l)).1.length = 3) && decide (100 ≤ puV 16 (cutB 32 (tldA l)).1) && decide (puV 16 (cutB 32 (tldA l)).1 ≤ 599) && valP (cutB 32 (tldA l)).2.1) := by
  unfold tldB tldC tldR
  rw [cutB_eq, valueB_P]
  rfl
theorem tld_full (a b c d : UInt8) (m : List UInt8) : (if tldB (pre9 ++ a :: b :: c :: d :: m) = true then (puV 16 (tldC (pre9 ++ a :: b :: c :: d :: m)) : Int) else 0) =
    if tldP a b c d m = true then (((a.toNat - 48) * 100 + (b.toNat - 48) * 10 + (c.toNat - 48) : Nat) : Int) else 0 := by
  obtain ⟨h1, h2⟩ := tldA_pre (a :: b :: c :: d :: m)
  have hC : tldC (pre9 ++ a :: b :: c :: d :: m) = (cutB 32 (a :: b :: c :: d :: m)).1 := by unfold tldC; rw [h2, cutB_eq]
  rw [tldB_eq, h1, hC, h2, Bool.true_and]
  have n32 : ∀ x : UInt8, x = 32 → x.toNat = 32 := fun x e => by rw [e]; rfl
  by_cases ha : a = 32
  · rw [if_neg, if_neg]
    · unfold tldP; have := n32 a ha; simp only [Bool.and_eq_true, decide_eq_true_iff]; omega
    · simp [cutB, ha]
  by_cases hb : b = 32
  · rw [if_neg, if_neg]
    · unfold tldP dig; have := n32 b hb; simp only [Bool.and_eq_true, decide_eq_true_iff]; omega
    · simp [cutB, ha, hb]
  by_cases hc : c = 32
  · rw [if_neg, if_neg]
    · unfold tldP dig; have := n32 c hc; simp only [Bool.and_eq_true, decide_eq_true_iff]; omega
    · simp [cutB, ha, hb, hc]
  by_cases hd : d = 32
  · have e : cutB 32 (a :: b :: c :: d :: m) = ([a, b, c], m, true) := by simp [cutB, ha, hb, hc, hd]
    have hv : puOk 16 [a, b, c] = (dig a && dig b && dig c) := by unfold puOk; rw [pu16]; cases (dig a && dig b && dig c) <;> rfl
    have hV : (dig a && dig b && dig c) = true → puV 16 [a, b, c] = (a.toNat - 48) * 100 + (b.toNat - 48) * 10 + (c.toNat - 48) := fun h => by unfold puV; rw [pu16, if_pos h]
    rw [e, hv]
    simp only
    by_cases hg : (dig a && dig b && dig c) = true
    · rw [hV hg]
      have hg2 := hg
      unfold dig at hg2
      simp only [Bool.and_eq_true, decide_eq_true_iff] at hg2
      have e2 : (true && (dig a && dig b && dig c) && decide ([a, b, c].length = 3) && decide (100 ≤ (a.toNat - 48) * 100 + (b.toNat - 48) * 10 + (c.toNat - 48)) && decide ((a.toNat - 48) * 100 + (b.toNat - 48) * 10 + (c.toNat - 48) ≤ 599) && valP m) = tldP a b c d m := by
        unfold tldP
        rw [Bool.eq_iff_iff]
        unfold dig
        simp only [Bool.and_eq_true, decide_eq_true_iff, List.length_cons, List.length_nil]
        constructor
        · rintro ⟨⟨⟨_, h1⟩, h2⟩, h3⟩
          exact ⟨⟨⟨⟨hd, h3⟩, by omega⟩, by omega⟩, by omega⟩
        · rintro ⟨⟨⟨⟨_, h3⟩, h4⟩, _⟩, _⟩
          refine ⟨⟨⟨⟨⟨?_, ?_⟩, ?_⟩, ?_⟩, ?_⟩, h3⟩ <;> first | trivial | omega
      rw [e2]
    · rw [Bool.eq_false_iff.2 hg, if_neg (by simp), if_neg]
      unfold tldP
      intro h
      apply hg
      unfold dig at h ⊢
      simp only [Bool.and_eq_true, decide_eq_true_iff] at h ⊢
      omega
  · rw [if_neg, if_neg]
    · unfold tldP; simp [hd]
    · simp [cutB, ha, hb, hc, hd]
theorem tld_short (l : List UInt8) (h : l.length < 13) : tldB l = false := by
  rw [tldB_eq]
  by_cases hp : Lib.hasPrefix l pre9 = true
  · have hp2 := hp
    unfold Lib.hasPrefix at hp2
    rw [List.isPrefixOf_iff_prefix] at hp2
    obtain ⟨m, rfl⟩ := hp2
    rw [(tldA_pre m).2]
    have hm : m.length < 4 := by have : pre9.length = 9 := rfl; simp at h; omega
    rcases hf : (cutB 32 m).2.2 with _ | _
    · simp
    · have h2 := congrArg List.length (cutB_some 32 m hf).1
      rw [List.length_append, List.length_cons] at h2
      rw [decide_eq_false (show ¬ (cutB 32 m).1.length = 3 by omega)]
      simp
  · rw [Bool.eq_false_iff.2 hp]
    rfl
theorem code_eq (a b c : UInt8) : (if ((a.toNat : Nat) : Int) < 49 then (some 0 : Option Int) else if ((a.toNat : Nat) : Int) > 53 then some 0 else if ((b.toNat : Nat) : Int) < 48 then some 0 else if ((b.toNat : Nat) : Int) > 57 then some 0
    else if ((c.toNat : Nat) : Int) < 48 then some 0 else if ((c.toNat : Nat) : Int) > 57 then some 0 else some (((((a.toNat : Nat) : Int) - 48) % 256 * 100 + (((b.toNat : Nat) : Int) - 48) % 256 * 10) + (((c.toNat : Nat) : Int) - 48) % 256)) =
    some (if ((49 ≤ a.toNat ∧ a.toNat ≤ 53) ∧ 48 ≤ b.toNat ∧ b.toNat ≤ 57) ∧ 48 ≤ c.toNat ∧ c.toNat ≤ 57 then (((a.toNat - 48) * 100 + (b.toNat - 48) * 10 + (c.toNat - 48) : Nat) : Int) else 0) := by
  have g9 := UInt8.toNat_lt a
  have g10 := UInt8.toNat_lt b
  have g11 := UInt8.toNat_lt c
  repeat' split
  all_goals first | rfl | (congr 1; omega) | omega
theorem low_all : ∀ c : Fin 256, Lib.lowerB (UInt8.ofNat c.val) = lowB (UInt8.ofNat c.val) := by decide +kernel
theorem low_eq (b : UInt8) : Lib.lowerB b = lowB b := by
  have := low_all ⟨b.toNat, UInt8.toNat_lt b⟩
  simpa using this
theorem lowN_eq (l : List UInt8) : lowN (bs l) = bs (lowA l) := by
  unfold lowN lowA Lib.toLowerA
  rw [bs_list, show Lib.lowerB = lowB from funext low_eq]
  rfl
theorem lowA_len (l : List UInt8) : (lowA l).length = l.length := by unfold lowA Lib.toLowerA; simp
theorem small_is (l : List UInt8) (hl : l.length ≤ 1048576) : codicilref29_small.f (bs l) = some (bs (lowA l)) := by
  unfold codicilref29_small.f
  rw [if_pos (show (bs l).size ≤ 1048576 from hl), lowN_eq]
/-- One line of a head behind the first one. -/
def stepH (x : List UInt8) (st : RS) : Option RS :=
  if hdOk x = false then none
  else if lowA (hdName x) = clName then (if st.2.2 = true then none else (lengthL (hdVal x).data.toList).map fun k => (st.1, k, true))
  else if lowA (hdName x) = teName then none
  else some (st.1 ++ [⟨bs (lowA (hdName x)), hdVal x⟩], st.2.1, st.2.2)
def runH : List (List UInt8) → RS → Option RS
  | [], st => some st
  | x :: r, st => (stepH x st).bind (runH r)
theorem indexByte_neg (c : UInt8) : ∀ l : List UInt8, decide (Lib.indexByte l c < 0) = l.all fun b => !(b == c)
  | [] => rfl
  | b :: r => by
    have ih := indexByte_neg c r
    have hg := Lib.indexByte_ge r c
    rw [List.all_cons, ← ih]
    by_cases hb : (b == c) = true
    · have e : Lib.indexByte (b :: r) c = 0 := by simp only [Lib.indexByte]; rw [if_pos hb]
      rw [e, hb]
      rfl
    · have e : Lib.indexByte (b :: r) c = if (Lib.indexByte r c == -1) = true then -1 else Lib.indexByte r c + 1 := by simp only [Lib.indexByte]; rw [if_neg hb]
      rw [e, Bool.eq_false_iff.2 hb, Bool.not_false, Bool.true_and]
      rw [Bool.eq_iff_iff, decide_eq_true_iff, decide_eq_true_iff]
      split
      · rename_i h; have : Lib.indexByte r c = -1 := by simpa using h
        omega
      · rename_i h; have : ¬ Lib.indexByte r c = -1 := by simpa using h
        omega
theorem all_and {α : Type} (p q : α → Bool) : ∀ l : List α, (l.all fun x => p x && q x) = (l.all p && l.all q)
  | [] => rfl
  | a :: r => by simp only [List.all_cons, all_and p q r]; cases p a <;> cases q a <;> simp
theorem odd_eq (i : Nat) (x : List UInt8) : oddLine i x = !(noCR x && decide (i ≤ 64)) := by
  unfold oddLine noCR
  rw [indexByte_neg, indexByte_neg, all_and]
def okL (i : Nat) (ls : List (List UInt8)) : Bool := ls.all noCR && (ls.isEmpty || decide (i + ls.length ≤ 65))
theorem run_enum (p : List UInt8 → Bool) : ∀ (ls : List (List UInt8)) (i : Nat) (st : RS), 1 ≤ i → runR p (enumL i ls) st = if okL i ls = true then runH ls st else none
  | [], i, st, hi => rfl
  | x :: r, i, st, hi => by
    have hs : stepR p (i, x) st = if oddLine i x = true then none else stepH x st := by
      unfold stepR stepH
      simp only [if_neg (show ¬ i = 0 by omega)]
    have hl : runR p (enumL i (x :: r)) st = (stepR p (i, x) st).bind (runR p (enumL (i + 1) r)) := rfl
    have hr : runH (x :: r) st = (stepH x st).bind (runH r) := rfl
    have hk : okL i (x :: r) = (noCR x && r.all noCR && decide (i + (r.length + 1) ≤ 65)) := by unfold okL; rw [List.all_cons]; rfl
    have hk2 : (noCR x && decide (i ≤ 64) && okL (i + 1) r) = (noCR x && r.all noCR && decide (i + (r.length + 1) ≤ 65)) := by
      unfold okL
      cases r with
      | nil =>
        simp only [List.all_nil, List.isEmpty_nil, Bool.true_or, Bool.and_true, List.length_nil]
        congr 1
        rw [decide_eq_decide]
        omega
      | cons y t =>
        simp only [List.isEmpty_cons, Bool.false_or]
        rw [Bool.eq_iff_iff]
        simp only [Bool.and_eq_true, decide_eq_true_iff, List.length_cons]
        constructor
        · rintro ⟨⟨h1, h2⟩, h3, h4⟩
          exact ⟨⟨h1, h3⟩, by omega⟩
        · rintro ⟨⟨h1, h3⟩, h4⟩
          exact ⟨⟨h1, by omega⟩, h3, by omega⟩
    rw [hl, hr, hs, odd_eq, hk, ← hk2]
    cases hx : (noCR x && decide (i ≤ 64)) with
    | false => rfl
    | true =>
      rw [Bool.true_and, Bool.not_true, if_neg (by decide)]
      cases hst : stepH x st with
      | none => rw [Option.bind_none, Option.bind_none]; split <;> rfl
      | some s => rw [Option.bind_some, Option.bind_some]; exact run_enum p r (i + 1) s (by omega)
def okHead (p : List UInt8 → Bool) (l0 : List UInt8) (ls : List (List UInt8)) : Bool := (l0 :: ls).all noCR && p l0 && decide (ls.length ≤ 64)
/-- A whole head, line by line. -/
theorem run_lines (p : List UInt8 → Bool) (l0 : List UInt8) (ls : List (List UInt8)) : runR p (enumL 0 (l0 :: ls)) ([], 0, false) = if okHead p l0 ls = true then runH ls ([], 0, false) else none := by
  have hl : runR p (enumL 0 (l0 :: ls)) ([], 0, false) = (stepR p (0, l0) ([], 0, false)).bind (runR p (enumL 1 ls)) := rfl
  have hs : stepR p (0, l0) ([], 0, false) = if oddLine 0 l0 = true then none else if p l0 = true then some ([], 0, false) else none := by
    unfold stepR
    simp only [if_pos rfl]
    rfl
  have hk : okHead p l0 ls = (noCR l0 && (p l0 && okL 1 ls)) := by
    unfold okHead okL
    rw [List.all_cons, Bool.eq_iff_iff]
    simp only [Bool.and_eq_true, Bool.or_eq_true, decide_eq_true_iff, List.isEmpty_iff]
    constructor
    · rintro ⟨⟨⟨h1, h2⟩, h3⟩, h4⟩
      exact ⟨h1, h3, h2, .inr (by omega)⟩
    · rintro ⟨h1, h3, h2, h4⟩
      exact ⟨⟨⟨h1, h2⟩, h3⟩, by rcases h4 with rfl | h4; exact Nat.zero_le _; omega⟩
  rw [hl, hs, odd_eq, decide_eq_true (Nat.zero_le _), Bool.and_true, hk]
  cases noCR l0 with
  | false => rfl
  | true =>
    cases p l0 with
    | false => rfl
    | true => exact run_enum p ls 1 _ (Nat.le_refl _)
theorem rdB (ls : List (List UInt8)) (i : Nat) (hi : i < ls.length) : rdOf ByteArray.empty (ls.map bs) (i : Int) = bs ls[i] := by
  unfold rdOf
  rw [Int.toNat_natCast, List.getD_eq_getElem?_getD, List.getElem?_map, List.getElem?_eq_getElem hi]
  rfl
theorem hdVal_eq (x : List UInt8) : hdVal x = bs (Lib.trimS (cutB 58 x).2.1 [32, 9]) := by unfold hdVal trimN; rw [cutB_eq]; rfl
theorem trimS_le (l : List UInt8) : (Lib.trimS l [32, 9]).length ≤ l.length := by
  rw [trimS_eq]; exact Nat.le_trans (dropWhile_len _ _) (trimR_le l)
def firstB (l : List UInt8) : Bool := reqB l || tldB l
theorem tldB_code {l : List UInt8} (h : tldB l = true) : 100 ≤ puV 16 (tldC l) := by
  unfold tldB at h
  simp only [Bool.and_eq_true, decide_eq_true_iff] at h
  omega
/-- What a head that ends says. -/
def finL (s : List UInt8) (o : Option RS) : Except Int (List Hd × List UInt8 × Nat) := match o with
  | none => .error 291
  | some (hs, body, _) => if 65536 < body then .error 292 else if s.length < (headOf s).1.length + 4 + body then .error 290 else .ok (hs, (s.drop ((headOf s).1.length + 4)).take body, (headOf s).1.length + 4 + body)
theorem read_form (p : List UInt8 → Bool) (s l0 : List UInt8) (ls : List (List UInt8)) (hf : (headOf s).2.2 = true) (hp : partsL [13, 10] (headOf s).1.length (headOf s).1 = l0 :: ls) :
    readL p s = finL s (if okHead p l0 ls = true then runH ls ([], 0, false) else none) := by
  unfold readL linesOf
  rw [if_neg (by rw [hf]; decide), hp, run_lines]
  rfl
theorem read_none (p : List UInt8 → Bool) (s : List UInt8) (hf : (headOf s).2.2 = false) : readL p s = .error (if s.length < 8192 then 290 else 292) := by
  unfold readL
  rw [if_pos hf]
  split <;> rfl
theorem parts_cons (f : Nat) (l : List UInt8) : ∃ a r, partsL [13, 10] f l = a :: r := by
  cases f with
  | zero => exact ⟨_, _, rfl⟩
  | succ f =>
    simp only [partsL]
    split
    · exact ⟨_, _, rfl⟩
    · exact ⟨_, _, rfl⟩
theorem head_pre (s : List UInt8) (hf : (headOf s).2.2 = true) : (headOf s).1.length + 4 ≤ s.length ∧ s.take (headOf s).1.length = (headOf s).1 := by
  unfold headOf at hf ⊢
  rcases cut_cases (s.take 8192) crlf2 (by simp) with ⟨h1, _⟩ | ⟨a, b, h1, h2, _⟩
  · rw [show ([13, 10, 13, 10] : List UInt8) = crlf2 from rfl, h1] at hf; cases hf
  · rw [show ([13, 10, 13, 10] : List UInt8) = crlf2 from rfl, h1]
    have hl := congrArg List.length h2
    simp only [List.length_append, List.length_take, List.length_cons, List.length_nil] at hl
    refine ⟨by simp only; omega, ?_⟩
    have h3 := congrArg (List.take a.length) h2
    rw [List.append_assoc, List.take_left, List.take_take, Nat.min_eq_left (by omega)] at h3
    exact h3
def headR (s : List UInt8) : ByteArray × List S59 × ByteArray × Int × Int := match readL firstB s with
  | .error e => (⟨#[]⟩, [], ⟨#[]⟩, 0, e)
  | .ok (hs, b, n) => (bs (lineOf s), hs, bs b, ((n : Nat) : Int), 0)
theorem lineOf_is {s l0 : List UInt8} {ls : List (List UInt8)} (hp : partsL [13, 10] (headOf s).1.length (headOf s).1 = l0 :: ls) : lineOf s = l0 := by
  unfold lineOf linesOf
  rw [hp]
  rfl
theorem part_le {s l0 : List UInt8} {ls : List (List UInt8)} (hp : partsL [13, 10] (headOf s).1.length (headOf s).1 = l0 :: ls) : ∀ x ∈ l0 :: ls, x.length ≤ (headOf s).1.length := fun x hx => partsL_le [13, 10] _ _ x (by rw [hp]; exact hx)
theorem ok_mono {p q : List UInt8 → Bool} {l0 : List UInt8} {ls : List (List UInt8)} (hpq : p l0 = true → q l0 = true) (h : okHead q l0 ls = false) : okHead p l0 ls = false := by
  unfold okHead at h ⊢
  cases hp : p l0 with
  | false => simp
  | true => rw [hpq hp] at h; exact h
/-- Where the first line is one of either kind: what either reads. -/
theorem read_kind (p : List UInt8 → Bool) (s l0 : List UInt8) (ls : List (List UInt8)) (hf : (headOf s).2.2 = true) (hp : partsL [13, 10] (headOf s).1.length (headOf s).1 = l0 :: ls) (hpq : p l0 = true → firstB l0 = true) :
    readL p s = (if p l0 = true then readL firstB s else .error 291) ∧ (readL firstB s ≠ .error 291 → (l0 :: ls).all noCR = true) := by
  rw [read_form p s l0 ls hf hp, read_form firstB s l0 ls hf hp]
  constructor
  · by_cases h : p l0 = true
    · rw [if_pos h]
      have e : okHead p l0 ls = okHead firstB l0 ls := by unfold okHead; rw [h, hpq h]
      rw [e]
    · rw [if_neg h]
      have e : okHead p l0 ls = false := by unfold okHead; rw [Bool.eq_false_iff.2 h]; simp
      rw [e]
      rfl
  · intro h
    cases hall : (l0 :: ls).all noCR with
    | true => rfl
    | false =>
      have e : okHead firstB l0 ls = false := by unfold okHead; rw [hall]; rfl
      rw [e] at h
      exact absurd rfl h
theorem readL_err0 {p : List UInt8 → Bool} {s : List UInt8} {e : Int} (h : readL p s = .error e) : e ≠ 0 := readL_err h
abbrev ReqR := ByteArray × ByteArray × List S59 × ByteArray × Int × Int
def reqR (s : List UInt8) : ReqR := match readL reqB s with
  | .error er => (ByteArray.empty, ByteArray.empty, [], ByteArray.empty, 0, er)
  | .ok (hs, b, n) => (bs (reqM (lineOf s)), bs (reqT (lineOf s)), hs, bs b, n, 0)
theorem line_le (s : List UInt8) (l0 : List UInt8) (ls : List (List UInt8)) (hf : (headOf s).2.2 = true) (hp : partsL [13, 10] (headOf s).1.length (headOf s).1 = l0 :: ls) : l0.length ≤ s.length := by
  have h1 := (head_pre s hf).1
  have h2 := part_le hp l0 (List.mem_cons_self ..)
  omega
abbrev TldR := Int × List S59 × ByteArray × Int × Int
def tldRes (s : List UInt8) : TldR := match readL tldB s with
  | .error er => (0, [], ByteArray.empty, 0, er)
  | .ok (hs, b, n) => (((puV 16 (tldC (lineOf s)) : Nat) : Int), hs, bs b, n, 0)
theorem rdH (l : List S59) (i : Nat) (hi : i < l.length) : rd_T59 l (i : Int) = l[i] := by
  unfold rd_T59
  rw [Int.toNat_natCast, List.getD_eq_getElem?_getD, List.getElem?_eq_getElem hi]
  rfl
theorem stepH_len {x : List UInt8} {st s : RS} (h : stepH x st = some s) : s.1.length ≤ st.1.length + 1 := by
  unfold stepH at h
  split at h
  · cases h
  · split at h
    · split at h
      · cases h
      · obtain ⟨k, _, h⟩ := Option.map_eq_some_iff.1 h
        subst h
        simp
    · split at h
      · cases h
      · injection h with h
        subst h
        simp
theorem runH_len : ∀ (ls : List (List UInt8)) (st s : RS), runH ls st = some s → s.1.length ≤ st.1.length + ls.length
  | [], st, s, h => by simp [runH] at h; subst h; simp
  | x :: r, st, s, h => by
    simp only [runH] at h
    obtain ⟨s1, h1, h2⟩ := Option.bind_eq_some_iff.1 h
    have := stepH_len h1
    have := runH_len r s1 s h2
    simp only [List.length_cons]
    omega
theorem read_len {p : List UInt8 → Bool} {s : List UInt8} {hs : List Hd} {b : List UInt8} {n : Nat} (h : readL p s = .ok (hs, b, n)) : hs.length ≤ 64 := by
  cases hf : (headOf s).2.2 with
  | false => rw [read_none p s hf] at h; cases h
  | true =>
    obtain ⟨l0, ls, hp⟩ := parts_cons (headOf s).1.length (headOf s).1
    rw [read_form p s l0 ls hf hp] at h
    by_cases hk : okHead p l0 ls = true
    · rw [if_pos hk] at h
      cases hr : runH ls ([], 0, false) with
      | none => rw [hr] at h; cases h
      | some st =>
        obtain ⟨hs', body, tt⟩ := st
        have hl := runH_len _ _ _ hr
        rw [hr] at h
        simp only [finL] at h
        have h64 : ls.length ≤ 64 := by unfold okHead at hk; simp only [Bool.and_eq_true, decide_eq_true_iff] at hk; exact hk.2
        split at h
        · cases h
        · split at h
          · cases h
          · injection h with h
            simp only [Prod.mk.injEq] at h
            rw [← h.1]
            simp only [List.length_nil] at hl
            omega
    · rw [if_neg hk] at h; cases h
theorem reqR_len (s : List UInt8) : (reqR s).2.2.1.length ≤ 64 := by
  unfold reqR
  split
  · simp
  · rename_i h; exact read_len h
theorem tldRes_len (s : List UInt8) : (tldRes s).2.1.length ≤ 64 := by
  unfold tldRes
  split
  · simp
  · rename_i h; exact read_len h
theorem read_is (a0 : ByteArray) (h : a0.size ≤ 1048576) : http_Read.f a0 = some (reqR a0.data.toList) := by
  unfold http_Read.f reqR
  rw [if_pos h]
  cases readL reqB a0.data.toList <;> rfl
theorem told_is (a0 : ByteArray) (h : a0.size ≤ 1048576) : http_Told.f a0 = some (tldRes a0.data.toList) := by
  unfold http_Told.f tldRes
  rw [if_pos h]
  cases readL tldB a0.data.toList <;> rfl
def smallHd (h : S59) : Bool := decide (h.f0.size ≤ 1024) && decide (h.f1.size ≤ 1024)
def largeB (l : List S59) (b : ByteArray) : Bool := decide (100 < l.length) || decide (4096 < b.size) || !l.all smallHd
theorem large_not {l : List S59} {b : ByteArray} (h : largeB l b = false) : l.length ≤ 100 ∧ b.size ≤ 4096 ∧ ∀ x ∈ l, x.f0.size ≤ 1024 ∧ x.f1.size ≤ 1024 := by
  unfold largeB at h
  simp only [Bool.or_eq_false_iff, decide_eq_false_iff_not, Bool.not_eq_false', List.all_eq_true] at h
  refine ⟨by omega, by omega, fun x hx => ?_⟩
  have := h.2 x hx
  unfold smallHd at this
  simp only [Bool.and_eq_true, decide_eq_true_iff] at this
  exact this
theorem hdT_len4 (h : S59) : (hdT h).data.toList.length = h.f0.size + h.f1.size + 4 := by
  rw [Array.length_toList]
  show (hdT h).size = _
  unfold hdT
  simp only [ByteArray.size_append]
  rw [show (⟨#[58, 32]⟩ : ByteArray).size = 2 from rfl, show (⟨#[13, 10]⟩ : ByteArray).size = 2 from rfl]
  omega
theorem hdsL_len : ∀ l : List S59, (∀ x ∈ l, x.f0.size ≤ 1024 ∧ x.f1.size ≤ 1024) → (hdsL l).length ≤ 2052 * l.length
  | [], _ => Nat.le_refl _
  | x :: r, h => by
    have h1 := h x (List.mem_cons_self ..)
    have h2 := hdsL_len r (fun y hy => h y (List.mem_cons_of_mem _ hy))
    have h3 := hdT_len4 x
    unfold hdsL at h2 ⊢
    rw [List.flatMap_cons, List.length_append, List.length_cons]
    omega
theorem okHd_eq (h : S59) : okHd h = (tokP h.f0.data.toList && ((lowA h.f0.data.toList == h.f0.data.toList) && (!(h.f0.data.toList == clT) && (!(h.f0.data.toList == teT) && valP h.f1.data.toList)))) := by
  unfold okHd
  have e1 : tokenB h.f0 = tokP h.f0.data.toList := tokenB_P h.f0.data.toList
  have e2 : valueB h.f1 = valP h.f1.data.toList := valueB_P h.f1.data.toList
  have e3 : h.f0.toList = h.f0.data.toList := ByteArray.toList_eq _
  rw [e1, e2, e3, toL]
theorem ap_bs (a b : List UInt8) : bs a ++ bs b = bs (a ++ b) := by
  apply ByteArray.ext
  rw [ByteArray.data_append]
  apply Array.ext'
  simp [bs]
theorem ap_l (a : List UInt8) (b : ByteArray) : bs a ++ b = bs (a ++ b.data.toList) := ap_bs a b.data.toList
theorem hds_drop (l : List S59) (i : Nat) (hi : i < l.length) : hdsL (l.drop i) = (hdT l[i]).data.toList ++ hdsL (l.drop (i + 1)) := by
  unfold hdsL
  rw [List.drop_eq_getElem_cons hi, List.flatMap_cons]
theorem hdT_list (h : S59) : (hdT h).data.toList = h.f0.data.toList ++ [58, 32] ++ h.f1.data.toList ++ [13, 10] := by
  unfold hdT
  simp only [ByteArray.data_append, Array.toList_append]
theorem itoa_small (n : Int) (h : -9223372036854775808 ≤ n ∧ n ≤ 9223372036854775807) : (itoaN n).size ≤ 32 := by
  have := Lib.itoa_length_le n h.1 h.2
  show (Lib.itoa n).length ≤ 32
  omega
def fits (l : List S59) (body : ByteArray) : Prop := l.length ≤ 1048576 ∧ (∀ x ∈ l, x.f0.size ≤ 1048576 ∧ x.f1.size ≤ 1048576) ∧ (hdsL l).length ≤ 1048576 ∧ body.size ≤ 1048576
def askN (m t : ByteArray) (l : List S59) (body : ByteArray) : ByteArray × Int := if (tokenB m && targetB t) = true then writeN (m ++ ⟨#[32]⟩ ++ t ++ ⟨#[32, 72, 84, 84, 80, 47, 49, 46, 49]⟩) l body else (ByteArray.empty, 2)
theorem ask_is (m t : ByteArray) (l : List S59) (body : ByteArray) (hm : m.size ≤ 500000) (ht : t.size ≤ 500000) (hf : fits l body) : http_Ask.f m t l body = some (askN m t l body) := by
  obtain ⟨h1, h2, h3, h4⟩ := hf
  unfold http_Ask.f
  rw [if_pos ⟨hm, ht, h3, h4, h1⟩]
  rfl
theorem reason_le (x : Int) : (reasonT x).size ≤ 32 := by
  unfold reasonT
  cases h : reasonRows.find? fun p => p.1 == x with
  | none => exact Nat.zero_le _
  | some p =>
    have hm := List.mem_of_find?_eq_some h
    have : ∀ q ∈ reasonRows, q.2.size ≤ 32 := by decide
    exact this p hm
def sayN (c : Int) (l : List S59) (body : ByteArray) : ByteArray × Int := if 100 ≤ c ∧ c ≤ 599 then writeN (lineT c) l body else (ByteArray.empty, 2)
theorem say_is (c : Int) (l : List S59) (body : ByteArray) (hf : fits l body) : http_Write.f c l body = some (sayN c l body) := by
  obtain ⟨h1, h2, h3, h4⟩ := hf
  unfold http_Write.f
  rw [if_pos ⟨h3, h4, h1⟩]
  rfl
def getN : List S59 → ByteArray → ByteArray × Bool
  | [], _ => (⟨#[]⟩, false)
  | h :: r, n => if h.f0.toList = n.toList then (h.f1, true) else getN r n
theorem fits_of {l : List S59} {b : ByteArray} (h : largeB l b = false) : fits l b := by
  obtain ⟨h1, h2, h3⟩ := large_not h
  have := hdsL_len l h3
  exact ⟨by omega, fun x hx => by have := h3 x hx; omega, by omega, by omega⟩
end Go.Proofs.YtddjhmelniphgaaGreatDoor.Print
end
section
/- What the reference answers: cut. -/
namespace Go.Proofs.YtddjhmelniphgaaGreatDoor.Print
open Go.RowKit Go.Proofs.YtddjhmelniphgaaGreatDoorW.PrintWords Go.Proofs.YtddjhmelniphgaaGreatDoorW.PrintLast
set_option linter.unusedVariables false
set_option linter.unusedSimpArgs false
theorem rcut0 (l : List UInt8) (hl : l.length ≤ 1048576) (c : UInt8) : ∀ d i, l.length = i + d → Ev (fun k => codicilref29_cut.l0 k (bs l) (c.toNat : Int) (i : Int)) (bs (l.take i ++ (cutB c (l.drop i)).1), bs (cutB c (l.drop i)).2.1, (cutB c (l.drop i)).2.2)
  | 0, i, hd => by
    rw [List.drop_of_length_le (by omega), List.take_of_length_le (by omega)]
    refine Ev.step (f := fun _ => some (bs l, (⟨#[]⟩ : ByteArray), false)) (fun k => ?_) (by simp only [cutB, List.append_nil]; exact Ev.now _)
    simp only [codicilref29_cut.l0]
    rw [if_neg (by rw [bs_size]; omega)]
  | d + 1, i, hd => by
    have hi : i < l.length := by omega
    rw [List.drop_eq_getElem_cons hi]
    by_cases hc : l[i] = c
    · refine Ev.step (f := fun _ => some (bs (l.take i), bs (l.drop (i + 1)), true)) (fun k => ?_) (by simp only [cutB, if_pos hc, List.append_nil]; exact Ev.now _)
      simp only [codicilref29_cut.l0]
      rw [if_pos (by rw [bs_size]; omega), if_pos (by omega), btl l i hi, if_pos (by rw [hc]), if_pos (by rw [bs_size]; omega), wup (by omega), if_pos (by omega), if_pos (by rw [bs_size]; omega), Int.toNat_natCast, Int.toNat_natCast, ext_to, ext_from]
    · refine Ev.step (fun k => ?_) (f := fun k => codicilref29_cut.l0 k (bs l) (c.toNat : Int) ((i + 1 : Nat) : Int)) ?_
      · simp only [codicilref29_cut.l0]
        rw [if_pos (by rw [bs_size]; omega), if_pos (by omega), btl l i hi, if_neg (fun e => hc (UInt8.toNat_inj.1 (by omega))), wup (by omega)]
      · have := rcut0 l hl c d (i + 1) (by omega)
        rw [List.take_succ_eq_append_getElem hi, List.append_assoc] at this
        simp only [cutB, if_neg hc]
        exact this
theorem rcut_ev (l : List UInt8) (hl : l.length ≤ 1048576) (c : UInt8) (ci : Int) (hc : ci = (c.toNat : Int)) : Ev (fun k => codicilref29_cut.f k (bs l) ci) (bs (cutB c l).1, bs (cutB c l).2.1, (cutB c l).2.2) := by
  subst hc
  have := rcut0 l hl c l.length 0 (by omega)
  simpa [codicilref29_cut.f] using this
end Go.Proofs.YtddjhmelniphgaaGreatDoor.Print
end
section
/- What the reference answers: token. -/
namespace Go.Proofs.YtddjhmelniphgaaGreatDoor.Print
open Go.RowKit Go.Proofs.YtddjhmelniphgaaGreatDoorW.PrintWords Go.Proofs.YtddjhmelniphgaaGreatDoorW.PrintLast
set_option linter.unusedVariables false
set_option linter.unusedSimpArgs false
theorem rtok1 (l : List UInt8) (i : Nat) (b : UInt8) (r : Bool) : ∀ d j (is : Bool), tokL.length = j + d →
    Ev (fun k => if (is || (tokL.drop j).contains b) = true then codicilref29_token.l0 k (bs l) (bs tokL) (wrap64 ((i : Int) + 1)) else some false) r → Ev (fun k => codicilref29_token.l1 k (bs l) (bs tokL) (i : Int) (b.toNat : Int) is (j : Int)) r
  | 0, j, is, hd, h => by
    rw [List.drop_of_length_le (by omega)] at h
    refine Ev.step (fun k => ?_) h
    simp only [codicilref29_token.l1]
    rw [if_neg (by rw [bs_size]; omega)]
    simp
  | d + 1, j, is, hd, h => by
    have h15 : tokL.length = 15 := rfl
    have hj : j < tokL.length := by omega
    rw [List.drop_eq_getElem_cons hj] at h
    cases is with
    | true =>
      refine Ev.step (fun k => ?_) (rtok1 l i b r d (j + 1) true (by omega) (by simpa using h))
      simp only [codicilref29_token.l1]
      rw [if_pos (by rw [bs_size]; omega), if_pos trivial, wup (by omega)]
    | false =>
      refine Ev.step (fun k => ?_) (rtok1 l i b r d (j + 1) (tokL[j] == b) (by omega) ?_)
      · simp only [codicilref29_token.l1]
        rw [if_pos (by rw [bs_size]; omega), if_neg (by decide), if_pos (by omega), btl tokL j hj, wup (by omega)]
        congr 1
        rw [Bool.eq_iff_iff, beq_iff_eq, beq_iff_eq]
        exact ⟨fun e => UInt8.toNat_inj.1 (by omega), fun e => by rw [e]⟩
      · rw [Bool.false_or, List.contains_cons] at h
        have e : (b == tokL[j]) = (tokL[j] == b) := BEq.comm
        rwa [e] at h
theorem rtok0 (l : List UInt8) (hl : l.length ≤ 1048576) : ∀ d i, l.length = i + d → Ev (fun k => codicilref29_token.l0 k (bs l) (bs tokL) (i : Int)) ((l.drop i).all isTok && !l.isEmpty)
  | 0, i, hd => by
    rw [List.drop_of_length_le (by omega)]
    refine Ev.step (f := fun _ => some ((bs l).toList != ([] : List UInt8))) (fun k => ?_) ?_
    · simp only [codicilref29_token.l0]
      rw [if_neg (by rw [bs_size]; omega)]
    · rw [toL]
      cases l <;> exact Ev.now _
  | d + 1, i, hd => by
    have hi : i < l.length := by omega
    rw [List.drop_eq_getElem_cons hi, List.all_cons]
    have hg := UInt8.toNat_lt l[i]
    refine Ev.step (f := fun k => codicilref29_token.j1 k (bs l) (bs tokL) (i : Int) (l[i].toNat : Int) (rB l[i].toNat)) (fun k => ?_) (Ev.step (f := fun k => codicilref29_token.l1 k (bs l) (bs tokL) (i : Int) (l[i].toNat : Int) (rB l[i].toNat) ((0 : Nat) : Int)) (fun k => by simp only [codicilref29_token.j1]; rfl) (rtok1 l i l[i] _ 15 0 _ rfl ?_))
    · simp only [codicilref29_token.l0]
      rw [if_pos (by rw [bs_size]; omega), if_pos (by omega), btl l i hi]
      generalize l[i].toNat = n at hg
      have e : ∀ b : Bool, b = rB n → codicilref29_token.j1 k (bs l) (bs tokL) (i : Int) (n : Int) b = codicilref29_token.j1 k (bs l) (bs tokL) (i : Int) (n : Int) (rB n) := fun b hb => by rw [hb]
      repeat' split
      all_goals
        apply e
        unfold rB
        rw [Bool.eq_iff_iff]
        simp only [Bool.or_eq_true, Bool.and_eq_true, decide_eq_true_iff, Bool.false_eq_true, true_iff, false_iff]
        omega
    · rw [List.drop_zero]
      have e : (rB l[i].toNat || tokL.contains l[i]) = isTok l[i] := rfl
      rw [e]
      cases isTok l[i] with
      | false => exact Ev.now _
      | true =>
        rw [Bool.true_and, wup (by omega)]
        exact rtok0 l hl d (i + 1) (by omega)
theorem rtok_ev (l : List UInt8) (hl : l.length ≤ 1048576) : Ev (fun k => codicilref29_token.f k (bs l)) (tokP l) := by
  have := rtok0 l hl l.length 0 (by omega)
  rw [List.drop_zero, Bool.and_comm] at this
  exact this
end Go.Proofs.YtddjhmelniphgaaGreatDoor.Print
end
section
/- What the reference answers: value. -/
namespace Go.Proofs.YtddjhmelniphgaaGreatDoor.Print
open Go.RowKit Go.Proofs.YtddjhmelniphgaaGreatDoorW.PrintWords Go.Proofs.YtddjhmelniphgaaGreatDoorW.PrintLast
set_option linter.unusedVariables false
set_option linter.unusedSimpArgs false
theorem blank_ev (b : UInt8) : codicilref29_blank.f (b.toNat : Int) = some (blankB b) := by
  unfold codicilref29_blank.f blankB
  split
  · rw [decide_eq_true (by omega)]; rfl
  · rw [decide_eq_false (by omega), Bool.false_or]
    congr 1
    rw [Bool.eq_iff_iff, beq_iff_eq, decide_eq_true_iff]
    omega
theorem rval0 (l : List UInt8) (hl : l.length ≤ 1048576) : ∀ d i, l.length = i + d → Ev (fun k => codicilref29_value.l0 k (bs l) (i : Int)) ((l.drop i).all isVal && endsP l)
  | 0, i, hd => by
    rw [List.drop_of_length_le (by omega)]
    refine Ev.step (f := fun _ => some (endsP l)) (fun k => ?_) (Ev.now _)
    simp only [codicilref29_value.l0]
    rw [if_neg (by rw [bs_size]; omega), toL]
    cases l with
    | nil => rfl
    | cons a r =>
      have h0 : 0 < (a :: r).length := by simp
      have hw : wrap64 (((bs (a :: r)).size : Int) - 1) = ((r.length : Nat) : Int) := by rw [bs_size, w64 (by simp at hl ⊢; omega)]; simp
      have h1 : r.length < (a :: r).length := by simp
      rw [if_neg (by simp), if_pos (by rw [bs_size]; omega), hw, show bt (bs (a :: r)) 0 = _ from btl (a :: r) 0 h0, blank_ev, Option.bind_some, btl (a :: r) r.length h1, blank_ev]
      unfold endsP
      simp only
      cases hb : blankB ((a :: r)[0]) with
      | true => have : blankB a = true := hb; rw [if_pos rfl, this]; rfl
      | false => have : blankB a = false := hb; rw [if_neg (by decide), if_pos (by omega), if_pos (by rw [bs_size, List.length_cons]; omega), Option.bind_some, this]; rfl
  | d + 1, i, hd => by
    have hi : i < l.length := by omega
    rw [List.drop_eq_getElem_cons hi, List.all_cons]
    have hg := UInt8.toNat_lt l[i]
    cases hv : isVal l[i] with
    | true =>
      have hv' := hv
      unfold isVal at hv'
      simp only [Bool.or_eq_true, Bool.and_eq_true, decide_eq_true_iff] at hv'
      refine Ev.step (f := fun k => codicilref29_value.l0 k (bs l) ((i + 1 : Nat) : Int)) (fun k => ?_) (by rw [Bool.true_and]; exact rval0 l hl d (i + 1) (by omega))
      simp only [codicilref29_value.l0]
      rw [if_pos (by rw [bs_size]; omega), if_pos (by omega), btl l i hi, wup (by omega)]
      repeat' split
      all_goals first | rfl | omega
    | false =>
      have hv' := hv
      unfold isVal at hv'
      simp only [Bool.or_eq_false_iff, Bool.and_eq_false_iff, decide_eq_false_iff_not] at hv'
      refine Ev.step (f := fun _ => some false) (fun k => ?_) (Ev.now _)
      simp only [codicilref29_value.l0]
      rw [if_pos (by rw [bs_size]; omega), if_pos (by omega), btl l i hi, wup (by omega)]
      repeat' split
      all_goals first | rfl | omega
theorem rval_ev (l : List UInt8) (hl : l.length ≤ 1048576) : Ev (fun k => codicilref29_value.f k (bs l)) (valP l) := by
  have := rval0 l hl l.length 0 (by omega)
  rw [List.drop_zero] at this
  exact this
end Go.Proofs.YtddjhmelniphgaaGreatDoor.Print
end
section
/- What the reference answers: target. -/
namespace Go.Proofs.YtddjhmelniphgaaGreatDoor.Print
open Go.RowKit Go.Proofs.YtddjhmelniphgaaGreatDoorW.PrintWords Go.Proofs.YtddjhmelniphgaaGreatDoorW.PrintLast
set_option linter.unusedVariables false
set_option linter.unusedSimpArgs false
theorem rtgt0 (l : List UInt8) (hl : l.length ≤ 1048576) : ∀ d i, l.length = i + d → Ev (fun k => codicilref29_target.l0 k (bs l) (i : Int)) ((l.drop i).all isTgt && (l.head? == some 47))
  | 0, i, hd => by
    rw [List.drop_of_length_le (by omega)]
    refine Ev.step (f := fun _ => some (l.head? == some 47)) (fun k => ?_) (Ev.now _)
    simp only [codicilref29_target.l0]
    rw [if_neg (by rw [bs_size]; omega), toL]
    cases l with
    | nil => rfl
    | cons a r =>
      rw [if_neg (by simp), if_pos (by rw [bs_size]; simp), show bt (bs (a :: r)) 0 = _ from btl (a :: r) 0 (by simp)]
      simp only [List.head?_cons, List.getElem_cons_zero]
      congr 1
      rw [Bool.eq_iff_iff, beq_iff_eq, beq_iff_eq]
      exact ⟨fun e => by rw [UInt8.toNat_inj.1 (show a.toNat = (47 : UInt8).toNat by have : (47 : UInt8).toNat = 47 := rfl; omega)], fun e => by injection e with e; rw [e]; rfl⟩
  | d + 1, i, hd => by
    have hi : i < l.length := by omega
    rw [List.drop_eq_getElem_cons hi, List.all_cons]
    have hg := UInt8.toNat_lt l[i]
    cases hv : isTgt l[i] with
    | true =>
      have hv' := hv
      unfold isTgt at hv'
      simp only [Bool.and_eq_true, decide_eq_true_iff] at hv'
      refine Ev.step (f := fun k => codicilref29_target.l0 k (bs l) ((i + 1 : Nat) : Int)) (fun k => ?_) (by rw [Bool.true_and]; exact rtgt0 l hl d (i + 1) (by omega))
      simp only [codicilref29_target.l0]
      rw [if_pos (by rw [bs_size]; omega), if_pos (by omega), btl l i hi, wup (by omega), if_neg (by omega), if_neg (by omega)]
    | false =>
      have hv' := hv
      unfold isTgt at hv'
      simp only [Bool.and_eq_false_iff, decide_eq_false_iff_not] at hv'
      refine Ev.step (f := fun _ => some false) (fun k => ?_) (Ev.now _)
      simp only [codicilref29_target.l0]
      rw [if_pos (by rw [bs_size]; omega), if_pos (by omega), btl l i hi]
      repeat' split
      all_goals first | rfl | omega
theorem rtgt_ev (l : List UInt8) (hl : l.length ≤ 1048576) : Ev (fun k => codicilref29_target.f k (bs l)) (tgtOk l) := by
  have := rtgt0 l hl l.length 0 (by omega)
  rw [List.drop_zero] at this
  exact this
end Go.Proofs.YtddjhmelniphgaaGreatDoor.Print
end
section
/- What the reference answers: trim, length. -/
namespace Go.Proofs.YtddjhmelniphgaaGreatDoor.Print
open Go.RowKit Go.Proofs.YtddjhmelniphgaaGreatDoorW.PrintWords Go.Proofs.YtddjhmelniphgaaGreatDoorW.PrintLast
set_option linter.unusedVariables false
set_option linter.unusedSimpArgs false
theorem rtrimR (n : Nat) : ∀ l : List UInt8, l.length = n → l.length ≤ 1048576 → Ev (fun k => codicilref29_trim.l1 k (bs l)) (bs (trimR l)) := by
  induction n with
  | zero =>
    intro l hn hl
    obtain rfl := List.length_eq_zero_iff.1 hn
    refine Ev.step (f := fun _ => some (bs [])) (fun k => ?_) (Ev.now _)
    simp only [codicilref29_trim.l1]
    rw [if_pos (toL _)]
  | succ n ih =>
    intro l hn hl
    rcases nil_or_snoc l with rfl | ⟨r, a, rfl⟩
    · simp at hn
    · have hr : r.length = n := by simpa using hn
      have hsz : (bs (r ++ [a])).size = n + 1 := by rw [bs_size]; exact hn
      have hw : wrap64 (((bs (r ++ [a])).size : Int) - 1) = ((n : Nat) : Int) := by rw [hsz, w64 (by omega)]; omega
      have hb : bt (bs (r ++ [a])) (n : Int) = ((a.toNat : Nat) : Int) := by
        rw [btl _ n (by omega)]
        subst hr
        simp
      rw [trimR_snoc]
      by_cases ha : blankB a = true
      · rw [if_pos ha]
        refine Ev.step (fun k => ?_) (ih r hr (by omega))
        simp only [codicilref29_trim.l1]
        rw [if_neg (by rw [toL]; simp), hw, if_pos (by omega), if_pos (by rw [hsz]; omega), hb, blank_ev, Option.bind_some, if_pos ha, if_pos (by rw [hsz]; omega), Int.toNat_natCast, ext_to]
        congr 2
        subst hr
        simp
      · rw [if_neg ha]
        refine Ev.step (f := fun _ => some (bs (r ++ [a]))) (fun k => ?_) (Ev.now _)
        simp only [codicilref29_trim.l1]
        rw [if_neg (by rw [toL]; simp), hw, if_pos (by omega), if_pos (by rw [hsz]; omega), hb, blank_ev, Option.bind_some, if_neg ha]
theorem rtrimL (r : ByteArray) : ∀ l : List UInt8, l.length ≤ 1048576 → Ev (fun k => codicilref29_trim.l1 k (bs (l.dropWhile blankB))) r → Ev (fun k => codicilref29_trim.l0 k (bs l)) r
  | [], _, h => by
    refine Ev.step (f := fun k => codicilref29_trim.j1 k (bs [])) (fun k => ?_) (Ev.step (f := fun k => codicilref29_trim.l1 k (bs [])) (fun k => rfl) h)
    simp only [codicilref29_trim.l0]
    rw [if_pos (toL _)]
  | a :: t, hl, h => by
    have hsz : (bs (a :: t)).size = t.length + 1 := rfl
    by_cases ha : blankB a = true
    · rw [List.dropWhile_cons, if_pos ha] at h
      refine Ev.step (fun k => ?_) (rtrimL r t (by simp at hl; omega) h)
      simp only [codicilref29_trim.l0]
      rw [if_neg (by rw [toL]; simp), if_pos (by rw [hsz]; omega), show bt (bs (a :: t)) 0 = _ from btl (a :: t) 0 (by simp), List.getElem_cons_zero, blank_ev, Option.bind_some, if_pos ha, if_pos (by rw [hsz]; omega), ext_from]
      rfl
    · rw [List.dropWhile_cons, if_neg ha] at h
      refine Ev.step (f := fun k => codicilref29_trim.j1 k (bs (a :: t))) (fun k => ?_) (Ev.step (f := fun k => codicilref29_trim.l1 k (bs (a :: t))) (fun k => rfl) h)
      simp only [codicilref29_trim.l0]
      rw [if_neg (by rw [toL]; simp), if_pos (by rw [hsz]; omega), show bt (bs (a :: t)) 0 = _ from btl (a :: t) 0 (by simp), List.getElem_cons_zero, blank_ev, Option.bind_some, if_neg ha]
theorem rtrim_ev (l : List UInt8) (hl : l.length ≤ 1048576) : Ev (fun k => codicilref29_trim.f k (bs l)) (trimN (bs l)) := by
  have e : trimN (bs l) = bs (trimR (l.dropWhile blankB)) := by
    unfold trimN
    rw [bs_list, trimS_eq, ← trimR_drop]
    rfl
  rw [e]
  refine rtrimL _ l hl (rtrimR _ _ rfl (Nat.le_trans (dropWhile_len _ l) hl))
theorem rlen0 (l : List UInt8) (hl : l.length ≤ 6) : ∀ d i acc, l.length = i + d → acc < 10 ^ i → Ev (fun k => codicilref29_length.l0 k (bs l) (acc : Nat) (i : Int)) (match digsN acc (l.drop i) with | some n => (n : Int) | none => -1)
  | 0, i, acc, hd, ha => by
    rw [List.drop_of_length_le (by omega)]
    refine Ev.step (f := fun _ => some (acc : Int)) (fun k => ?_) (Ev.now _)
    simp only [codicilref29_length.l0]
    rw [if_neg (by rw [bs_size]; omega)]
  | d + 1, i, acc, hd, ha => by
    have hi : i < l.length := by omega
    rw [List.drop_eq_getElem_cons hi]
    have hg := UInt8.toNat_lt l[i]
    have h6 : 10 ^ (i + 1) ≤ 10 ^ 6 := Nat.pow_le_pow_right (by decide) (by omega)
    have e6 : (10 : Nat) ^ 6 = 1000000 := by decide
    have ep : 10 ^ (i + 1) = 10 ^ i * 10 := Nat.pow_succ ..
    simp only [digsN]
    by_cases hc : 48 ≤ l[i].toNat ∧ l[i].toNat ≤ 57
    · rw [if_pos hc]
      refine Ev.step (fun k => ?_) (rlen0 l hl d (i + 1) (acc * 10 + (l[i].toNat - 48)) (by omega) (by omega))
      simp only [codicilref29_length.l0]
      rw [if_pos (by rw [bs_size]; omega), if_pos (by omega), btl l i hi, if_neg (by omega), if_neg (by omega), wup (by omega)]
      congr 1
      rw [w64 (n := 10 * (acc : Int)) (by omega), w64 (by omega)]
      omega
    · rw [if_neg hc]
      refine Ev.step (f := fun _ => some (-1)) (fun k => ?_) (Ev.now _)
      simp only [codicilref29_length.l0]
      rw [if_pos (by rw [bs_size]; omega), if_pos (by omega), btl l i hi]
      by_cases h1 : l[i].toNat < 48
      · rw [if_pos (by omega)]
      · rw [if_neg (by omega), if_pos (by omega)]
theorem rlen_ev (l : List UInt8) : Ev (fun k => codicilref29_length.f k (bs l)) (match lengthL l with | some n => (n : Int) | none => -1) := by
  rw [lengthL_eq]
  unfold lenR codicilref29_length.f
  have hno : Ev (fun k => codicilref29_length.j0 k (bs l) true) (-1) := Ev.step (f := fun _ => some (-1)) (fun k => rfl) (Ev.now _)
  have hyes : l.length ≤ 6 → Ev (fun k => codicilref29_length.j0 k (bs l) false) (match digsN 0 l with | some n => (n : Int) | none => -1) := fun h6 =>
    Ev.step (f := fun k => codicilref29_length.l0 k (bs l) ((0 : Nat) : Int) ((0 : Nat) : Int)) (fun k => rfl) (by simpa using rlen0 l h6 l.length 0 0 (by omega) (by decide))
  rw [toL]
  by_cases h0 : l = []
  · simp only [if_pos h0]
    rw [if_pos (.inl h0)]
    exact hno
  simp only [if_neg h0]
  rw [bs_size]
  by_cases h6 : 6 < l.length
  · simp only [if_pos (show (l.length : Int) > 6 by omega)]
    rw [if_pos (.inr (.inl h6))]
    exact hno
  simp only [if_neg (show ¬ (l.length : Int) > 6 by omega)]
  by_cases h1 : 1 < l.length
  · simp only [if_pos (show (l.length : Int) > 1 by omega), if_pos (show 0 < (l.length : Int) by omega)]
    rw [show bt (bs l) 0 = _ from btl l 0 (by omega)]
    have hh : l.head? = some (l[0]'(by omega)) := by cases l with | nil => exact absurd rfl h0 | cons a r => rfl
    by_cases hz : l[0]'(by omega) = 48
    · rw [if_pos (.inr (.inr ⟨h1, by rw [hh, hz]⟩)), hz]
      exact hno
    · rw [if_neg (by rintro (h | h | h); exact h0 h; exact h6 h; exact hz (Option.some.inj (hh.symm.trans h.2)))]
      have e : (((l[0]'(by omega)).toNat : Int) == 48) = false := by
        rw [beq_eq_false_iff_ne]
        intro e
        exact hz (UInt8.toNat_inj.1 (by have : (48 : UInt8).toNat = 48 := rfl; omega))
      rw [e]
      exact hyes (by omega)
  · simp only [if_neg (show ¬ (l.length : Int) > 1 by omega)]
    rw [if_neg (by rintro (h | h | h); exact h0 h; exact h6 h; exact h1 h.1)]
    exact hyes (by omega)
end Go.Proofs.YtddjhmelniphgaaGreatDoor.Print
end
section
/- What the reference answers: end, lines. -/
namespace Go.Proofs.YtddjhmelniphgaaGreatDoor.Print
open Go.RowKit Go.Proofs.YtddjhmelniphgaaGreatDoorW.PrintWords Go.Proofs.YtddjhmelniphgaaGreatDoorW.PrintLast
set_option linter.unusedVariables false
set_option linter.unusedSimpArgs false
theorem rend_no (l : List UInt8) (hl : l.length ≤ 1048576) (i : Nat) (hi : i ≤ 1048577) (hn : ∀ j, j < i → Lib.occAt (l.take 8192) crlf2 j = false) (h1 : ¬ (i + 4 ≤ l.length ∧ i + 4 ≤ 8192)) :
    Ev (fun k => codicilref29_end.l0 k (bs l) (i : Int)) (if 0 ≤ Lib.index (l.take 8192) crlf2 then Lib.index (l.take 8192) crlf2 + 4 else 0) := by
  have hw : wrap64 ((i : Int) + 4) = ((i + 4 : Nat) : Int) := by rw [w64 (by omega)]; rfl
  have hi : Lib.index (l.take 8192) crlf2 = -1 := Lib.index_none (fun j hj => by
    by_cases hji : j < i
    · exact hn j hji
    · rw [occ_take, beq_eq_false_iff_ne]
      intro e
      have := congrArg List.length e
      simp only [List.length_take, List.length_drop, crlf2, List.length_cons, List.length_nil] at this
      omega)
  rw [hi, if_neg (by decide)]
  refine Ev.step (f := fun k => codicilref29_end.j1 k (bs l) (i : Int) false) (fun k => ?_) (Ev.step (f := fun _ => some 0) (fun k => ?_) (Ev.now _))
  · simp only [codicilref29_end.l0]
    rw [hw]
    by_cases h2 : i + 4 ≤ l.length
    · rw [if_pos (by rw [bs_size]; omega), decide_eq_false (by omega)]
    · rw [if_neg (by rw [bs_size]; omega)]
  · simp only [codicilref29_end.j1]
    rw [if_neg (by decide)]
theorem rend0 (l : List UInt8) (hl : l.length ≤ 1048576) : ∀ d i, min l.length 8192 + 1 = i + d → (∀ j, j < i → Lib.occAt (l.take 8192) crlf2 j = false) →
    Ev (fun k => codicilref29_end.l0 k (bs l) (i : Int)) (if 0 ≤ Lib.index (l.take 8192) crlf2 then Lib.index (l.take 8192) crlf2 + 4 else 0)
  | 0, i, hd, hn => rend_no l hl i (by omega) hn (by omega)
  | d + 1, i, hd, hn => by
    have hw : wrap64 ((i : Int) + 4) = ((i + 4 : Nat) : Int) := by rw [w64 (by omega)]; rfl
    by_cases h1 : i + 4 ≤ l.length ∧ i + 4 ≤ 8192
    · have ht : ((l.take 8192).drop i).take 4 = (l.drop i).take 4 := by
        rw [List.drop_take, List.take_take, Nat.min_eq_left (by omega)]
      by_cases ho : Lib.occAt (l.take 8192) crlf2 i = true
      · have hx := Lib.index_first (s := l.take 8192) (sub := crlf2) (i := i) (by rw [List.length_take]; omega) ho hn
        rw [hx, if_pos (by omega)]
        have ho2 := ho
        rw [occ_take, ht, beq_iff_eq] at ho2
        refine Ev.step (f := fun k => codicilref29_end.j1 k (bs l) (i : Int) true) (fun k => ?_) (Ev.step (f := fun _ => some ((i + 4 : Nat) : Int)) (fun k => ?_) (by have := Ev.now ((i : Int) + 4); exact this))
        · simp only [codicilref29_end.l0]
          rw [hw, if_pos (by rw [bs_size]; omega), decide_eq_true (by omega)]
        · simp only [codicilref29_end.j1]
          rw [if_pos trivial, if_pos (by omega), hw, if_pos (by omega), if_pos (by rw [bs_size]; omega), Int.toNat_natCast, Int.toNat_natCast, ext_bs, toL, show i + 4 - i = 4 by omega, if_pos ho2]
      · have ho1 : Lib.occAt (l.take 8192) crlf2 i = false := by simpa using ho
        have ho2 := ho1
        rw [occ_take, ht, beq_eq_false_iff_ne] at ho2
        refine Ev.step (f := fun k => codicilref29_end.j1 k (bs l) (i : Int) true) (fun k => ?_) (Ev.step (f := fun k => codicilref29_end.l0 k (bs l) ((i + 1 : Nat) : Int)) (fun k => ?_) (rend0 l hl d (i + 1) (by omega) (fun j hj => ?_)))
        · simp only [codicilref29_end.l0]
          rw [hw, if_pos (by rw [bs_size]; omega), decide_eq_true (by omega)]
        · simp only [codicilref29_end.j1]
          rw [if_pos trivial, if_pos (by omega), hw, if_pos (by omega), if_pos (by rw [bs_size]; omega), Int.toNat_natCast, Int.toNat_natCast, ext_bs, toL, show i + 4 - i = 4 by omega, if_neg ho2, wup (by omega)]
        · by_cases e : j = i
          · rw [e]; exact ho1
          · exact hn j (by omega)
    · exact rend_no l hl i (by omega) hn h1
theorem rend_ev (l : List UInt8) (hl : l.length ≤ 1048576) : Ev (fun k => codicilref29_end.f k (bs l)) (if (headOf l).2.2 = true then (((headOf l).1.length + 4 : Nat) : Int) else 0) := by
  have h := rend0 l hl (min l.length 8192 + 1) 0 (by omega) (fun j hj => absurd hj (Nat.not_lt_zero _))
  have e : (if (headOf l).2.2 = true then (((headOf l).1.length + 4 : Nat) : Int) else 0) = (if 0 ≤ Lib.index (l.take 8192) crlf2 then Lib.index (l.take 8192) crlf2 + 4 else 0) := by
    unfold headOf Lib.cut
    have hf := Lib.index_room (l.take 8192) crlf2
    rcases Lib.index_spec (l.take 8192) crlf2 with ⟨h1, _⟩ | ⟨i, h1, h2, _⟩
    · rw [h1]
      rfl
    · rw [h1] at hf ⊢
      have h4 : crlf2.length = 4 := rfl
      simp only [show (0 : Int) ≤ (i : Int) from by omega, if_true, Int.toNat_natCast, List.length_take]
      rw [List.length_take] at h2
      omega
  rw [e]
  exact h
/-- The reference's loop over a head's bytes. -/
theorem rlines0 (l : List UInt8) (hl : l.length ≤ 1048576) : ∀ d i from_ acc, l.length = i + d → from_ ≤ i → acc.length ≤ i →
    Ev (fun k => codicilref29_lines.l0 k (bs l) (acc.map bs) (from_ : Int) (i : Int)) (match scanL ((l.take i).drop from_) (l.drop i) with | some ps => ((acc ++ ps).map bs, true) | none => ([], false)) := by
  intro d
  induction d using Nat.strongRecOn with
  | _ d ih =>
    intro i from_ acc hd hf ha
    by_cases h0 : d = 0
    · have e : l.drop i = [] := List.drop_of_length_le (by omega)
      rw [e, scan_nil, List.take_of_length_le (by omega)]
      refine Ev.step (f := fun _ => some ((acc ++ [l.drop from_]).map bs, true)) (fun k => ?_) (Ev.now _)
      simp only [codicilref29_lines.l0]
      rw [if_neg (by rw [bs_size]; omega), if_pos (by omega), if_pos (by rw [bs_size]; omega), if_pos (by rw [List.length_map]; omega), Int.toNat_natCast, ext_from, List.map_append]
      rfl
    · have hi : i < l.length := by omega
      rw [List.drop_eq_getElem_cons hi, scan_cons]
      have hcur : (l.take i).drop from_ ++ [l[i]] = (l.take (i + 1)).drop from_ := by
        rw [List.take_succ_eq_append_getElem hi, List.drop_append_of_le_length (by rw [List.length_take]; omega)]
      have hw1 : wrap64 ((i : Int) + 1) = ((i + 1 : Nat) : Int) := wup (by omega)
      have hw2 : wrap64 ((i : Int) + 2) = ((i + 2 : Nat) : Int) := by rw [w64 (by omega)]; rfl
      have hgo : ∀ b : Bool, b = decide (l[i] = 13 ∧ (l.drop (i + 1)).head? = some 10) → ∀ k, codicilref29_lines.j1 (k + 1) (bs l) (acc.map bs) (from_ : Int) (i : Int) b = if l[i] = 13 ∧ (l.drop (i + 1)).head? = some 10 then codicilref29_lines.l0 k (bs l) ((acc ++ [(l.take i).drop from_]).map bs) ((i + 2 : Nat) : Int) ((i + 2 : Nat) : Int)
          else if l[i] = 13 ∨ l[i] = 10 then some (([] : List ByteArray), false) else codicilref29_lines.l0 k (bs l) (acc.map bs) (from_ : Int) ((i + 1 : Nat) : Int) := by
        intro b hb k
        simp only [codicilref29_lines.j1]
        by_cases hc : l[i] = 13 ∧ (l.drop (i + 1)).head? = some 10
        · rw [hb, decide_eq_true hc, if_pos rfl, if_pos hc, if_pos (by omega), if_pos (by omega), if_pos (by rw [bs_size]; omega), if_pos (by rw [List.length_map]; omega), hw1, hw2, Int.toNat_natCast, Int.toNat_natCast, ext_bs, show wrap64 (((i + 1 : Nat) : Int) + 1) = ((i + 2 : Nat) : Int) from wup (by omega), List.map_append, List.drop_take]
          rfl
        · rw [hb, decide_eq_false hc, if_neg (by decide), if_neg hc, if_pos (by omega), if_pos (by rw [bs_size]; omega), btl l i hi, hw1]
          by_cases h13 : l[i] = 13
          · rw [if_pos (by rw [h13]; rfl), if_pos (.inl h13)]
          · have n13 : ¬ ((l[i].toNat : Int) = 13) := fun e => h13 (UInt8.toNat_inj.1 (by have : (13 : UInt8).toNat = 13 := rfl; omega))
            rw [if_neg n13]
            by_cases h10 : l[i] = 10
            · rw [if_pos (by rw [h10]; rfl), if_pos (.inr h10)]
            · have n10 : ¬ ((l[i].toNat : Int) = 10) := fun e => h10 (UInt8.toNat_inj.1 (by have : (10 : UInt8).toNat = 10 := rfl; omega))
              rw [if_neg n10, if_neg (fun e => e.elim h13 h10)]
      have hstart : ∃ b : Bool, b = decide (l[i] = 13 ∧ (l.drop (i + 1)).head? = some 10) ∧ ∀ k, codicilref29_lines.l0 (k + 1) (bs l) (acc.map bs) (from_ : Int) (i : Int) = codicilref29_lines.j1 k (bs l) (acc.map bs) (from_ : Int) (i : Int) b := by
        by_cases h2 : i + 1 < l.length
        · refine ⟨(l.drop i).take 2 == [13, 10], ?_, fun k => ?_⟩
          · rw [List.drop_eq_getElem_cons hi, List.drop_eq_getElem_cons h2, Bool.eq_iff_iff, beq_iff_eq, decide_eq_true_iff]
            simp only [List.take_succ_cons, List.take_zero, List.head?_cons, List.cons.injEq, and_true, Option.some.injEq]
          · simp only [codicilref29_lines.l0]
            rw [if_pos (by rw [bs_size]; omega), hw1, if_pos (by rw [bs_size]; omega), if_pos (by omega), hw2, if_pos (by omega), if_pos (by rw [bs_size]; omega), Int.toNat_natCast, Int.toNat_natCast, ext_bs, toL, show i + 2 - i = 2 by omega]
        · refine ⟨false, ?_, fun k => ?_⟩
          · rw [List.drop_of_length_le (show l.length ≤ i + 1 by omega)]
            symm
            rw [decide_eq_false_iff_not]
            rintro ⟨_, e⟩
            cases e
          · simp only [codicilref29_lines.l0]
            rw [if_pos (by rw [bs_size]; omega), hw1, if_neg (by rw [bs_size]; omega)]
      obtain ⟨b, hb, hs⟩ := hstart
      refine Ev.step hs (Ev.step (hgo b hb) ?_)
      by_cases hc : l[i] = 13 ∧ (l.drop (i + 1)).head? = some 10
      · simp only [if_pos hc]
        have h2 : i + 1 < l.length := by
          rcases Nat.lt_or_ge (i + 1) l.length with h | h
          · exact h
          · rw [List.drop_of_length_le h] at hc; cases hc.2
        have := ih (d - 2) (by omega) (i + 2) (i + 2) (acc ++ [(l.take i).drop from_]) (by omega) (Nat.le_refl _) (by rw [List.length_append, List.length_singleton]; omega)
        have e0 : (l.take (i + 2)).drop (i + 2) = [] := List.drop_of_length_le (by rw [List.length_take]; omega)
        rw [e0] at this
        rw [List.drop_drop]
        cases hsc : scanL [] (l.drop (i + 2)) with
        | none => rw [hsc] at this; exact this
        | some ps => rw [hsc] at this; simpa using this
      · simp only [if_neg hc]
        by_cases h3 : l[i] = 13 ∨ l[i] = 10
        · simp only [if_pos h3]
          exact Ev.now _
        · simp only [if_neg h3]
          rw [hcur]
          exact ih (d - 1) (by omega) (i + 1) from_ acc (by omega) (by omega) (by omega)
theorem rlines_ev (l : List UInt8) (hl : l.length ≤ 1048576) : Ev (fun k => codicilref29_lines.f k (bs l)) (if (partsL [13, 10] l.length l).all noCR = true then ((partsL [13, 10] l.length l).map bs, true) else ([], false)) := by
  have h := rlines0 l hl l.length 0 0 [] (by omega) (Nat.le_refl _) (Nat.le_refl _)
  rw [List.take_zero, List.drop_nil, List.drop_zero, parts_scan l.length l (Nat.le_refl _)] at h
  split
  · rename_i hh
    rw [if_pos hh] at h
    exact h
  · rename_i hh
    rw [if_neg hh] at h
    exact h
end Go.Proofs.YtddjhmelniphgaaGreatDoor.Print
end
section
/- What the reference answers: request, response. -/
namespace Go.Proofs.YtddjhmelniphgaaGreatDoor.Print
open Go.RowKit Go.Proofs.YtddjhmelniphgaaGreatDoorW.PrintWords Go.Proofs.YtddjhmelniphgaaGreatDoorW.PrintLast
set_option linter.unusedVariables false
set_option linter.unusedSimpArgs false
theorem rreq_ev (l : List UInt8) (hl : l.length ≤ 1048576) : Ev (fun k => codicilref29_request.f k (bs l)) (bs (reqM l), bs (reqT l), reqB l) := by
  have hle := reqM_le l
  have h1 := cutB_le 32 l
  have hc1 := rcut_ev l hl 32 32 rfl
  have hc2 := rcut_ev (cutB 32 l).2.1 (by omega) 32 32 rfl
  have e1 : (cutB 32 l).1 = reqM l := by unfold reqM; rw [cutB_eq]
  have e2 : (cutB 32 (cutB 32 l).2.1).1 = reqT l := by unfold reqT; rw [cutB_eq, cutB_eq]
  have e3 : (cutB 32 (cutB 32 l).2.1).2.1 = reqV l := by unfold reqV; rw [cutB_eq, cutB_eq]
  have hf1 : (cutB 32 l).2.2 = false → reqV l = [] := fun h => by
    rw [← e3, (cutB_none 32 l h).1]
    rfl
  have hf2 : (cutB 32 (cutB 32 l).2.1).2.2 = false → reqV l = [] := fun h => by
    rw [← e3, (cutB_none 32 _ h).1]
  have hB : reqB l = (tokP (reqM l) && tgtOk (reqT l) && (reqV l == ([72, 84, 84, 80, 47, 49, 46, 49] : List UInt8))) := by
    unfold reqB
    rw [tokenB_P, targetB_P, toL]
  unfold codicilref29_request.f
  refine Ev.bind hc1 ?_
  dsimp only
  refine Ev.bind hc2 ?_
  dsimp only
  rw [e1, e2, e3, hB]
  cases f1 : (cutB 32 l).2.2 with
  | false =>
    rw [hf1 f1]
    simp only [Bool.false_eq_true, if_false]
    have : (tokP (reqM l) && tgtOk (reqT l) && (([] : List UInt8) == ([72, 84, 84, 80, 47, 49, 46, 49] : List UInt8))) = false := by simp
    rw [this]
    exact Ev.now _
  | true =>
    simp only [if_true]
    cases f2 : (cutB 32 (cutB 32 l).2.1).2.2 with
    | false =>
      rw [hf2 f2]
      simp only [Bool.false_eq_true, if_false]
      have : (tokP (reqM l) && tgtOk (reqT l) && (([] : List UInt8) == ([72, 84, 84, 80, 47, 49, 46, 49] : List UInt8))) = false := by simp
      rw [this]
      exact Ev.now _
    | true =>
      simp only [if_true]
      refine Ev.bind (rtok_ev (reqM l) (by omega)) ?_
      cases tokP (reqM l) with
      | false => exact Ev.now _
      | true =>
        simp only [if_true]
        refine Ev.bind (rtgt_ev (reqT l) (by omega)) ?_
        cases tgtOk (reqT l) with
        | false => exact Ev.now _
        | true => simp only [if_true, Bool.true_and, toL]; exact Ev.now _
theorem rresp_ev (l : List UInt8) (hl : l.length ≤ 1048576) : Ev (fun k => codicilref29_response.f k (bs l)) (if tldB l = true then (puV 16 (tldC l) : Int) else 0) := by
  unfold codicilref29_response.f
  rw [bs_size]
  by_cases h13 : l.length < 13
  · have e : (if tldB l = true then (puV 16 (tldC l) : Int) else 0) = 0 := by rw [tld_short l h13]; rfl
    rw [e]
    simp only [if_pos (show (l.length : Int) < 13 by omega)]
    exact Ev.now _
  simp only [if_neg (show ¬ (l.length : Int) < 13 by omega), if_pos (show (0 : Int) ≤ 9 by decide), if_pos (show (9 : Int) ≤ (l.length : Int) by omega), ext_to, toL]
  by_cases hp : l.take 9 = pre9
  · simp only [if_pos (show l.take 9 = ([72, 84, 84, 80, 47, 49, 46, 49, 32] : List UInt8) from hp), if_pos (show (12 : Int) < (l.length : Int) by omega), if_pos (show (13 : Int) ≤ (l.length : Int) by omega), if_pos (show (9 : Int) < (l.length : Int) by omega), if_pos (show (10 : Int) < (l.length : Int) by omega), if_pos (show (11 : Int) < (l.length : Int) by omega)]
    have b9 : bt (bs l) 9 = _ := btl l 9 (by omega)
    have b10 : bt (bs l) 10 = _ := btl l 10 (by omega)
    have b11 : bt (bs l) 11 = _ := btl l 11 (by omega)
    have b12 : bt (bs l) 12 = _ := btl l 12 (by omega)
    have hsplit : l = pre9 ++ l[9] :: l[10] :: l[11] :: l[12] :: l.drop 13 := by
      rw [← hp, ← List.drop_eq_getElem_cons (show 12 < l.length by omega), ← List.drop_eq_getElem_cons (show 11 < l.length by omega), ← List.drop_eq_getElem_cons (show 10 < l.length by omega), ← List.drop_eq_getElem_cons (show 9 < l.length by omega), List.take_append_drop]
    have hr : (if tldB l = true then (puV 16 (tldC l) : Int) else 0) = if tldP l[9] l[10] l[11] l[12] (l.drop 13) = true then (((l[9].toNat - 48) * 100 + (l[10].toNat - 48) * 10 + (l[11].toNat - 48) : Nat) : Int) else 0 := by
      have := tld_full l[9] l[10] l[11] l[12] (l.drop 13)
      rwa [← hsplit] at this
    rw [hr, b9, b10, b11, b12]
    have g9 := UInt8.toNat_lt l[9]
    have g10 := UInt8.toNat_lt l[10]
    have g11 := UInt8.toNat_lt l[11]
    have hx : (bs l).extract 13 (bs l).size = bs (l.drop 13) := ext_from l 13
    rw [bs_size] at hx
    generalize l[9] = a at *
    generalize l[10] = b at *
    generalize l[11] = c at *
    generalize l[12] = d at *
    unfold tldP dig
    by_cases hd : d = 32
    · simp only [if_pos (show ((d.toNat : Nat) : Int) = 32 by rw [hd]; rfl), decide_eq_true hd, Bool.true_and]
      rw [hx]
      refine Ev.bind (rval_ev (l.drop 13) (by rw [List.length_drop]; omega)) ?_
      cases valP (l.drop 13) with
      | false => exact Ev.now _
      | true =>
        simp only [if_true, Bool.true_and, Bool.and_eq_true, decide_eq_true_iff]
        have h := code_eq a b c
        simp only [h]
        exact Ev.now _
    · have hn : ¬ ((d.toNat : Nat) : Int) = 32 := fun e => hd (UInt8.toNat_inj.1 (by have : (32 : UInt8).toNat = 32 := rfl; omega))
      simp only [if_neg hn, decide_eq_false hd, Bool.false_and, Bool.false_eq_true, if_false]
      exact Ev.now _
  · have hf : tldB l = false := by
      rw [tldB_eq]
      have : Lib.hasPrefix l pre9 = false := by
        rw [Bool.eq_false_iff]
        intro e
        unfold Lib.hasPrefix at e
        rw [List.isPrefixOf_iff_prefix, List.prefix_iff_eq_take] at e
        exact hp e.symm
      rw [this]
      rfl
    simp only [if_neg (show ¬ l.take 9 = ([72, 84, 84, 80, 47, 49, 46, 49, 32] : List UInt8) from hp), hf, Bool.false_eq_true, if_false]
    exact Ev.now _
end Go.Proofs.YtddjhmelniphgaaGreatDoor.Print
end
section
/- What the reference answers: headers. -/
namespace Go.Proofs.YtddjhmelniphgaaGreatDoor.Print
open Go.RowKit Go.Proofs.YtddjhmelniphgaaGreatDoorW.PrintWords Go.Proofs.YtddjhmelniphgaaGreatDoorW.PrintLast
set_option linter.unusedVariables false
set_option linter.unusedSimpArgs false
theorem rhdr0 (ls : List (List UInt8)) (hls : ls.length ≤ 1048576) (hx : ∀ x ∈ ls, x.length ≤ 1048576) : ∀ d i acc n told, ls.length = i + d → acc.length ≤ i →
    Ev (fun k => codicilref29_headers.l0 k (ls.map bs) acc ((n : Nat) : Int) told (i : Int)) (match runH (ls.drop i) (acc, n, told) with | some (hs, m, _) => (hs, ((m : Nat) : Int), true) | none => ([], 0, false))
  | 0, i, acc, n, told, hd, ha => by
    rw [List.drop_of_length_le (by omega)]
    refine Ev.step (f := fun _ => some (acc, ((n : Nat) : Int), true)) (fun k => ?_) (Ev.now _)
    simp only [codicilref29_headers.l0]
    rw [if_neg (by rw [List.length_map]; omega)]
  | d + 1, i, acc, n, told, hd, ha => by
    have hi : i < ls.length := by omega
    rw [List.drop_eq_getElem_cons hi]
    have hxl := hx _ (List.getElem_mem hi)
    have hcl := cutB_le 58 ls[i]
    have ih := fun acc' n' told' (h : acc'.length ≤ i + 1) => rhdr0 ls hls hx d (i + 1) acc' n' told' (by omega) h
    have hrd := rdB ls i hi
    generalize ls[i] = x at *
    have hV := hdVal_eq x
    have hvl : (Lib.trimS (cutB 58 x).2.1 [32, 9]).length ≤ 1048576 := Nat.le_trans (trimS_le _) (by omega)
    have hN : hdName x = (cutB 58 x).1 := by unfold hdName; rw [cutB_eq]
    have hOk : hdOk x = ((cutB 58 x).2.2 && tokP (cutB 58 x).1 && valP (Lib.trimS (cutB 58 x).2.1 [32, 9])) := by
      unfold hdOk
      rw [hV, tokenB_P, valueB_P, hN, cutB_eq]
    have hno : ∀ a b, Ev (fun k => codicilref29_headers.j1 k (ls.map bs) acc ((n : Nat) : Int) told (i : Int) a b true) ([], 0, false) := fun a b =>
      Ev.step (f := fun _ => some (([] : List S59), 0, false)) (fun k => by simp only [codicilref29_headers.j1]; rw [if_pos trivial]) (Ev.now _)
    simp only [runH, stepH]
    refine Ev.step (f := fun k => (codicilref29_cut.f k (bs x) 58).bind fun bt162 => ((codicilref29_trim.f k bt162.2.1).bind fun t165 => (if bt162.2.2 = true then ((codicilref29_token.f k bt162.1).bind fun t166 => (if t166 = true then ((codicilref29_value.f k t165).bind fun t167 => (codicilref29_headers.j1 k (ls.map bs) acc ((n : Nat) : Int) told (i : Int) bt162.1 t165 (!t167))) else (codicilref29_headers.j1 k (ls.map bs) acc ((n : Nat) : Int) told (i : Int) bt162.1 t165 true))) else (codicilref29_headers.j1 k (ls.map bs) acc ((n : Nat) : Int) told (i : Int) bt162.1 t165 true)))) (fun k => ?_) ?_
    · simp only [codicilref29_headers.l0]
      rw [if_pos (by rw [List.length_map]; omega), if_pos (by omega), hrd]
    · refine Ev.bind (rcut_ev x hxl 58 58 rfl) ?_
      dsimp only
      refine Ev.bind (rtrim_ev (cutB 58 x).2.1 (by omega)) ?_
      have ht : trimN (bs (cutB 58 x).2.1) = bs (Lib.trimS (cutB 58 x).2.1 [32, 9]) := rfl
      rw [hOk, hN, hV, bs_list, ht]
      cases (cutB 58 x).2.2 with
      | false => simp only [Bool.false_eq_true, if_false, Bool.false_and, if_true, Option.bind_none]; exact hno _ _
      | true =>
        simp only [if_true, Bool.true_and]
        refine Ev.bind (rtok_ev (cutB 58 x).1 (by omega)) ?_
        cases tokP (cutB 58 x).1 with
        | false => simp only [Bool.false_eq_true, if_false, Bool.false_and, if_true, Option.bind_none]; exact hno _ _
        | true =>
          simp only [if_true, Bool.true_and]
          refine Ev.bind (rval_ev _ hvl) ?_
          cases valP (Lib.trimS (cutB 58 x).2.1 [32, 9]) with
          | false => simp only [Bool.not_false, if_true, Option.bind_none]; exact hno _ _
          | true =>
            simp only [Bool.not_true, Bool.true_eq_false, if_false]
            have hsm := small_is (cutB 58 x).1 (by omega)
            by_cases h1 : lowA (cutB 58 x).1 = clName
            · have hlen := rlen_ev (Lib.trimS (cutB 58 x).2.1 [32, 9])
              simp only [if_pos h1]
              apply Ev.step
              · intro k
                simp only [codicilref29_headers.j1]
                rw [if_neg (by decide), hsm, Option.bind_some, toL, if_pos (show lowA (cutB 58 x).1 = ([99, 111, 110, 116, 101, 110, 116, 45, 108, 101, 110, 103, 116, 104] : List UInt8) from h1)]
              · refine Ev.bind hlen ?_
                cases told with
                | true => simp only [if_true, Option.bind_none]; exact Ev.now _
                | false =>
                  simp only [Bool.false_eq_true, if_false]
                  cases lengthL (Lib.trimS (cutB 58 x).2.1 [32, 9]) with
                  | none => simp only [if_pos (show (-1 : Int) < 0 by decide), Option.map_none, Option.bind_none]; exact Ev.now _
                  | some m =>
                    simp only [if_neg (show ¬ ((m : Nat) : Int) < 0 by omega), Option.map_some, Option.bind_some]
                    rw [wup (by omega)]
                    exact ih acc m true (by omega)
            · simp only [if_neg h1]
              by_cases h2 : lowA (cutB 58 x).1 = teName
              · simp only [if_pos h2, Option.bind_none]
                refine Ev.step (f := fun _ => some (([] : List S59), 0, false)) (fun k => ?_) (Ev.now _)
                simp only [codicilref29_headers.j1]
                rw [if_neg (by decide), hsm, Option.bind_some, toL, if_neg (show ¬ lowA (cutB 58 x).1 = ([99, 111, 110, 116, 101, 110, 116, 45, 108, 101, 110, 103, 116, 104] : List UInt8) from h1), if_pos (show lowA (cutB 58 x).1 = ([116, 114, 97, 110, 115, 102, 101, 114, 45, 101, 110, 99, 111, 100, 105, 110, 103] : List UInt8) from h2)]
              · simp only [if_neg h2, Option.bind_some]
                refine Ev.step (fun k => ?_) (ih (acc ++ [⟨bs (lowA (cutB 58 x).1), bs (Lib.trimS (cutB 58 x).2.1 [32, 9])⟩]) n told (by rw [List.length_append, List.length_singleton]; omega))
                simp only [codicilref29_headers.j1]
                rw [if_neg (by decide), hsm, Option.bind_some, toL, if_neg (show ¬ lowA (cutB 58 x).1 = ([99, 111, 110, 116, 101, 110, 116, 45, 108, 101, 110, 103, 116, 104] : List UInt8) from h1), if_neg (show ¬ lowA (cutB 58 x).1 = ([116, 114, 97, 110, 115, 102, 101, 114, 45, 101, 110, 99, 111, 100, 105, 110, 103] : List UInt8) from h2), Option.bind_some, if_pos (by omega), wup (by omega)]
theorem rhdr_ev (ls : List (List UInt8)) (hls : ls.length ≤ 1048576) (hx : ∀ x ∈ ls, x.length ≤ 1048576) :
    Ev (fun k => codicilref29_headers.f k (ls.map bs)) (if 64 < ls.length then ([], 0, false) else match runH ls ([], 0, false) with | some (hs, m, _) => (hs, ((m : Nat) : Int), true) | none => ([], 0, false)) := by
  unfold codicilref29_headers.f
  rw [List.length_map]
  by_cases h : 64 < ls.length
  · simp only [if_pos (show (ls.length : Int) > 64 by omega), if_pos h]
    exact Ev.now _
  · simp only [if_neg (show ¬ (ls.length : Int) > 64 by omega), if_neg h]
    have := rhdr0 ls hls hx ls.length 0 [] 0 false (by omega) (Nat.le_refl _)
    rw [List.drop_zero] at this
    exact this
end Go.Proofs.YtddjhmelniphgaaGreatDoor.Print
end
section
/- Two lists of headers that are the same. -/
namespace Go.Proofs.YtddjhmelniphgaaGreatDoor.Print
open Go.RowKit Go.Proofs.YtddjhmelniphgaaGreatDoorW.PrintWords Go.Proofs.YtddjhmelniphgaaGreatDoorW.PrintLast
set_option linter.unusedVariables false
set_option linter.unusedSimpArgs false
theorem heads0 (l : List S59) (hl : l.length ≤ 1048576) : ∀ d i, l.length = i + d → Ev (fun k => codicillaw29_heads.l0 k l l (i : Int)) true
  | 0, i, hd => by
    refine Ev.step (f := fun _ => some true) (fun k => ?_) (Ev.now _)
    simp only [codicillaw29_heads.l0]
    rw [if_neg (by omega)]
  | d + 1, i, hd => by
    refine Ev.step (fun k => ?_) (heads0 l hl d (i + 1) (by omega))
    simp only [codicillaw29_heads.l0]
    rw [if_pos (by omega), if_pos (by omega), if_pos (by omega), if_neg (by simp), wup (by omega)]
theorem heads_ev (l : List S59) (hl : l.length ≤ 1048576) : Ev (fun k => codicillaw29_heads.f k l l) true := by
  unfold codicillaw29_heads.f
  simp only [if_true]
  exact heads0 l hl l.length 0 (by omega)
end Go.Proofs.YtddjhmelniphgaaGreatDoor.Print
end
section
/- Two requests that are the same. -/
namespace Go.Proofs.YtddjhmelniphgaaGreatDoor.Print
open Go.RowKit Go.Proofs.YtddjhmelniphgaaGreatDoorW.PrintWords Go.Proofs.YtddjhmelniphgaaGreatDoorW.PrintLast
set_option linter.unusedVariables false
set_option linter.unusedSimpArgs false
theorem requests_ev (m t b : ByteArray) (l : List S59) (hl : l.length ≤ 1048576) : Ev (fun k => codicillaw29_Requests.f k m t l b m t l b) true := by
  unfold codicillaw29_Requests.f
  simp only [if_true]
  exact Ev.bind (heads_ev l hl) (Ev.now _)
end Go.Proofs.YtddjhmelniphgaaGreatDoor.Print
end
section
/- What the reference's Read answers. -/
namespace Go.Proofs.YtddjhmelniphgaaGreatDoor.Print
open Go.RowKit Go.Proofs.YtddjhmelniphgaaGreatDoorW.PrintWords Go.Proofs.YtddjhmelniphgaaGreatDoorW.PrintLast
set_option linter.unusedVariables false
set_option linter.unusedSimpArgs false
theorem rfirst_ev (l : List UInt8) (hl : l.length ≤ 1048576) : Ev (fun k => codicilref29_first.f k (bs l)) (firstB l) := by
  unfold codicilref29_first.f firstB
  refine Ev.bind (rreq_ev l hl) ?_
  dsimp only
  cases reqB l with
  | true => simp only [if_true, Bool.true_or]; exact Ev.now _
  | false =>
    simp only [Bool.false_eq_true, if_false, Bool.false_or]
    refine Ev.bind (rresp_ev l hl) ?_
    cases h : tldB l with
    | false => simp only [Bool.false_eq_true, if_false]; exact Ev.now _
    | true =>
      have := tldB_code h
      simp only [if_true, show decide (((puV 16 (tldC l) : Nat) : Int) > 0) = true from decide_eq_true (by omega)]
      exact Ev.now _
theorem rlines_head (s : List UInt8) (hs : s.length ≤ 1048576) (hf : (headOf s).2.2 = true) (l0 : List UInt8) (ls : List (List UInt8)) (hp : partsL [13, 10] (headOf s).1.length (headOf s).1 = l0 :: ls) :
    Ev (fun k => codicilref29_lines.f k ((bs s).extract 0 ((wrap64 ((((headOf s).1.length + 4 : Nat) : Int) - 4)) : Int).toNat)) (if (l0 :: ls).all noCR = true then ((l0 :: ls).map bs, true) else ([], false)) := by
  obtain ⟨h1, h2⟩ := head_pre s hf
  have hw : wrap64 ((((headOf s).1.length + 4 : Nat) : Int) - 4) = (((headOf s).1.length : Nat) : Int) := by rw [w64 (by omega)]; omega
  rw [hw, Int.toNat_natCast, ext_to, h2]
  have := rlines_ev (headOf s).1 (by omega)
  rw [hp] at this
  exact this
theorem rhead_ev (s : List UInt8) (hs : s.length ≤ 1048576) : Ev (fun k => codicilref29_Head.f k (bs s)) (headR s) := by
  unfold codicilref29_Head.f
  refine Ev.bind (rend_ev s hs) ?_
  unfold headR
  rw [bs_size]
  cases hf : (headOf s).2.2 with
  | false =>
    simp only [Bool.false_eq_true, if_false, if_true]
    rw [read_none firstB s hf]
    by_cases h : s.length < 8192
    · simp only [if_neg (show ¬ (s.length : Int) ≥ 8192 by omega), if_pos h]; exact Ev.now _
    · simp only [if_pos (show (s.length : Int) ≥ 8192 by omega), if_neg h]; exact Ev.now _
  | true =>
    obtain ⟨l0, ls, hp⟩ := parts_cons (headOf s).1.length (headOf s).1
    obtain ⟨h1, h2⟩ := head_pre s hf
    have hpl := partsL_len [13, 10] (headOf s).1.length (headOf s).1
    rw [hp, List.length_cons] at hpl
    have hx := part_le hp
    have hw : wrap64 ((((headOf s).1.length + 4 : Nat) : Int) - 4) = (((headOf s).1.length : Nat) : Int) := by rw [w64 (by omega)]; omega
    have hlines := rlines_head s hs hf l0 ls hp
    rw [hw] at hlines
    simp only [if_true, if_neg (show ¬ (((headOf s).1.length + 4 : Nat) : Int) = 0 by omega)]
    rw [hw]
    simp only [if_pos (show (0 : Int) ≤ (((headOf s).1.length : Nat) : Int) by omega), if_pos (show (((headOf s).1.length : Nat) : Int) ≤ (s.length : Int) by omega)]
    refine Ev.bind hlines ?_
    rw [read_form firstB s l0 ls hf hp]
    have hno : ∀ x7 x8 x10 x11, Ev (fun k => codicilref29_Head.j0 k (bs s) x7 x8 x10 x11 true) ((⟨#[]⟩ : ByteArray), ([] : List S59), (⟨#[]⟩ : ByteArray), (0 : Int), (291 : Int)) := fun _ _ _ _ =>
      Ev.step (f := fun _ => some ((⟨#[]⟩ : ByteArray), ([] : List S59), (⟨#[]⟩ : ByteArray), (0 : Int), (291 : Int))) (fun k => by simp only [codicilref29_Head.j0]; rw [if_pos trivial]) (Ev.now _)
    cases hall : (l0 :: ls).all noCR with
    | false =>
      have hk : okHead firstB l0 ls = false := by unfold okHead; rw [hall]; rfl
      simp only [hk, Bool.false_eq_true, if_false, finL]
      exact Ev.now _
    | true =>
      have hk : okHead firstB l0 ls = (firstB l0 && decide (ls.length ≤ 64)) := by unfold okHead; rw [hall, Bool.true_and]
      have hh := rhdr_ev ls (by omega) (fun x hm => Nat.le_trans (hx x (List.mem_cons_of_mem _ hm)) (by omega))
      have e1 : ((l0 :: ls).map bs).drop 1 = ls.map bs := rfl
      have e2 : rdOf ByteArray.empty ((l0 :: ls).map bs) 0 = bs l0 := rfl
      simp only [if_true, List.length_map, List.length_cons, if_pos (show (1 : Int) ≤ ((ls.length + 1 : Nat) : Int) by omega), if_pos (show (0 : Int) < ((ls.length + 1 : Nat) : Int) by omega), e1, e2, hk]
      refine Ev.bind hh ?_
      by_cases h64 : 64 < ls.length
      · simp only [if_pos h64, decide_eq_false (show ¬ ls.length ≤ 64 by omega), Bool.and_false, Bool.false_eq_true, if_false, finL]
        exact hno _ _ _ _
      · simp only [if_neg h64, decide_eq_true (show ls.length ≤ 64 by omega), Bool.and_true]
        cases hr : runH ls ([], 0, false) with
        | none => simp only [Bool.false_eq_true, if_false, ite_self, finL]; exact hno _ _ _ _
        | some st =>
          obtain ⟨hs', body, tt⟩ := st
          simp only [if_true]
          refine Ev.bind (rfirst_ev l0 (Nat.le_trans (hx l0 (List.mem_cons_self ..)) (by omega))) ?_
          cases firstB l0 with
          | false => simp only [Bool.not_false, Bool.false_eq_true, if_false, finL]; exact hno _ _ _ _
          | true =>
            simp only [Bool.not_true, if_true, finL]
            by_cases hb : 65536 < body
            · simp only [if_pos hb]
              refine Ev.step (f := fun _ => some _) (fun k => ?_) (Ev.now _)
              simp only [codicilref29_Head.j0]
              rw [if_neg (by decide), if_pos (by omega)]
            · have hwk : wrap64 ((((headOf s).1.length + 4 : Nat) : Int) + ((body : Nat) : Int)) = (((headOf s).1.length + 4 + body : Nat) : Int) := by rw [w64 (by omega)]; rfl
              simp only [if_neg hb]
              by_cases hn : s.length < (headOf s).1.length + 4 + body
              · simp only [if_pos hn]
                refine Ev.step (f := fun _ => some _) (fun k => ?_) (Ev.now _)
                simp only [codicilref29_Head.j0]
                rw [if_neg (by decide), if_neg (by omega), hwk, if_pos (by rw [bs_size]; omega)]
              · simp only [if_neg hn]
                refine Ev.step (f := fun _ => some _) (fun k => ?_) (Ev.now _)
                simp only [codicilref29_Head.j0]
                rw [if_neg (by decide), if_neg (by omega), hwk, if_neg (by rw [bs_size]; omega), if_pos (by simp only [List.length_map, List.length_cons]; omega), if_pos (by omega), if_pos (by omega), if_pos (by rw [bs_size]; omega), Int.toNat_natCast, Int.toNat_natCast, ext_bs, lineOf_is hp]
                rw [show (headOf s).1.length + 4 + body - ((headOf s).1.length + 4) = body by omega]
                rfl
theorem rread_ev (s : List UInt8) (hs : s.length ≤ 1048576) : Ev (fun k => codicilref29_Read.f k (bs s)) (reqR s) := by
  unfold codicilref29_Read.f
  refine Ev.bind (rhead_ev s hs) ?_
  refine Ev.bind (rend_ev s hs) ?_
  have hfin : ∀ (l : List S59) (b : ByteArray) (n e t : Int) (m tg : ByteArray), Ev (fun k => codicilref29_Read.j0 k (bs s) l b n e t m tg false) (if e = 0 then (m, tg, l, b, n, 0) else ((⟨#[]⟩ : ByteArray), (⟨#[]⟩ : ByteArray), ([] : List S59), (⟨#[]⟩ : ByteArray), (0 : Int), e)) := fun l b n e t m tg => by
    refine Ev.step (f := fun _ => some _) (fun k => ?_) (Ev.now _)
    simp only [codicilref29_Read.j0]
    rw [if_neg (by decide)]
    split <;> rfl
  cases hf : (headOf s).2.2 with
  | false =>
    have e1 : headR s = ((⟨#[]⟩ : ByteArray), ([] : List S59), (⟨#[]⟩ : ByteArray), (0 : Int), if s.length < 8192 then 290 else 292) := by unfold headR; rw [read_none firstB s hf]
    have e2 : reqR s = ((⟨#[]⟩ : ByteArray), (⟨#[]⟩ : ByteArray), ([] : List S59), (⟨#[]⟩ : ByteArray), (0 : Int), if s.length < 8192 then 290 else 292) := by unfold reqR; rw [read_none reqB s hf]; rfl
    obtain ⟨er, her⟩ : ∃ er : Int, er = if s.length < 8192 then 290 else 292 := ⟨_, rfl⟩
    have he0 : er ≠ 0 := by rw [her]; split <;> decide
    rw [← her] at e1 e2
    rw [e1, e2]
    simp only [Bool.false_eq_true, if_false]
    refine Ev.bind (rreq_ev [] (by simp)) ?_
    simp only [if_neg (show ¬ (0 : Int) > 0 by decide)]
    have := hfin [] ⟨#[]⟩ 0 er 0 (bs (reqM [])) (bs (reqT []))
    rw [if_neg he0] at this
    exact this
  | true =>
    obtain ⟨l0, ls, hp⟩ := parts_cons (headOf s).1.length (headOf s).1
    obtain ⟨k1, k2⟩ := read_kind reqB s l0 ls hf hp (fun h => by unfold firstB; rw [h]; rfl)
    have hl0 := line_le s l0 ls hf hp
    have hli := lineOf_is hp
    simp only [if_true]
    cases hr : readL firstB s with
    | error e =>
      have he := readL_err0 hr
      have e1 : headR s = ((⟨#[]⟩ : ByteArray), ([] : List S59), (⟨#[]⟩ : ByteArray), (0 : Int), e) := by unfold headR; rw [hr]
      rw [e1]
      refine Ev.bind (rreq_ev [] (by simp)) ?_
      simp only [if_pos (show (((headOf s).1.length + 4 : Nat) : Int) > 0 by omega)]
      by_cases h291 : e = 291
      · have e2 : reqR s = ((⟨#[]⟩ : ByteArray), (⟨#[]⟩ : ByteArray), ([] : List S59), (⟨#[]⟩ : ByteArray), (0 : Int), (291 : Int)) := by unfold reqR; rw [k1, hr, h291, ite_self]; rfl
        rw [e2, h291]
        have := hfin [] ⟨#[]⟩ 0 291 (((headOf s).1.length + 4 : Nat) : Int) (bs (reqM [])) (bs (reqT []))
        rw [if_neg (by decide)] at this
        exact this
      · have hall := k2 (by rw [hr]; intro h; injection h with h; exact h291 h)
        have hlines := rlines_head s hs hf l0 ls hp
        rw [if_pos hall] at hlines
        rw [show ((e : Int) != 291) = true from bne_iff_ne.2 h291]
        have hj : Ev (fun k => (codicilref29_lines.f k ((bs s).extract 0 ((wrap64 ((((headOf s).1.length + 4 : Nat) : Int) - 4)) : Int).toNat)).bind fun bt216 => (if 0 < (bt216.1.length : Int) then ((codicilref29_request.f k (rdOf ByteArray.empty bt216.1 0)).bind fun bt221 => (if bt221.2.2 = true then (if e = 0 then (some (bs (reqM []), bs (reqT []), ([] : List S59), (⟨#[]⟩ : ByteArray), (0 : Int), (0 : Int))) else (some ((⟨#[]⟩ : ByteArray), (⟨#[]⟩ : ByteArray), ([] : List (S59)), (⟨#[]⟩ : ByteArray), 0, e))) else (some ((⟨#[]⟩ : ByteArray), (⟨#[]⟩ : ByteArray), ([] : List (S59)), (⟨#[]⟩ : ByteArray), 0, 291)))) else (none))) (reqR s) := by
          refine Ev.bind hlines ?_
          simp only [List.length_map, List.length_cons, if_pos (show (0 : Int) < ((ls.length + 1 : Nat) : Int) by omega)]
          refine Ev.bind (rreq_ev l0 (by omega)) ?_
          unfold reqR
          rw [k1, hr]
          cases reqB l0 with
          | true => simp only [if_true, if_neg he]; exact Ev.now _
          | false => simp only [Bool.false_eq_true, if_false]; exact Ev.now _
        refine Ev.step (fun k => ?_) hj
        simp only [codicilref29_Read.j0]
        have hw : wrap64 ((((headOf s).1.length + 4 : Nat) : Int) - 4) = (((headOf s).1.length : Nat) : Int) := by have := (head_pre s hf).1; rw [w64 (by omega)]; omega
        rw [if_pos trivial, hw, if_pos (by omega), if_pos (by have := (head_pre s hf).1; rw [bs_size]; omega)]
    | ok q =>
      obtain ⟨hs', b, n⟩ := q
      have e1 : headR s = (bs l0, hs', bs b, ((n : Nat) : Int), 0) := by unfold headR; rw [hr, hli]
      rw [e1]
      refine Ev.bind (rreq_ev l0 (by omega)) ?_
      simp only [if_pos (show (((headOf s).1.length + 4 : Nat) : Int) > 0 by omega)]
      have hall := k2 (by rw [hr]; intro h; cases h)
      have hlines := rlines_head s hs hf l0 ls hp
      rw [if_pos hall] at hlines
      rw [show ((0 : Int) != 291) = true from rfl]
      have hj : Ev (fun k => (codicilref29_lines.f k ((bs s).extract 0 ((wrap64 ((((headOf s).1.length + 4 : Nat) : Int) - 4)) : Int).toNat)).bind fun bt216 => (if 0 < (bt216.1.length : Int) then ((codicilref29_request.f k (rdOf ByteArray.empty bt216.1 0)).bind fun bt221 => (if bt221.2.2 = true then (if (0 : Int) = 0 then (some (bs (reqM l0), bs (reqT l0), hs', bs b, ((n : Nat) : Int), (0 : Int))) else (some ((⟨#[]⟩ : ByteArray), (⟨#[]⟩ : ByteArray), ([] : List (S59)), (⟨#[]⟩ : ByteArray), 0, 0))) else (some ((⟨#[]⟩ : ByteArray), (⟨#[]⟩ : ByteArray), ([] : List (S59)), (⟨#[]⟩ : ByteArray), 0, 291)))) else (none))) (reqR s) := by
        refine Ev.bind hlines ?_
        simp only [List.length_map, List.length_cons, if_pos (show (0 : Int) < ((ls.length + 1 : Nat) : Int) by omega)]
        refine Ev.bind (rreq_ev l0 (by omega)) ?_
        unfold reqR
        rw [k1, hr, hli]
        cases reqB l0 with
        | true => simp only [if_true]; exact Ev.now _
        | false => simp only [Bool.false_eq_true, if_false]; exact Ev.now _
      refine Ev.step (fun k => ?_) hj
      simp only [codicilref29_Read.j0]
      have hw : wrap64 ((((headOf s).1.length + 4 : Nat) : Int) - 4) = (((headOf s).1.length : Nat) : Int) := by have := (head_pre s hf).1; rw [w64 (by omega)]; omega
      rw [if_pos trivial, hw, if_pos (by omega), if_pos (by have := (head_pre s hf).1; rw [bs_size]; omega)]
end Go.Proofs.YtddjhmelniphgaaGreatDoor.Print
end
section
/- What the reference answers: Ask, Write, Get. -/
namespace Go.Proofs.YtddjhmelniphgaaGreatDoor.Print
open Go.RowKit Go.Proofs.YtddjhmelniphgaaGreatDoorW.PrintWords Go.Proofs.YtddjhmelniphgaaGreatDoorW.PrintLast
set_option linter.unusedVariables false
set_option linter.unusedSimpArgs false
theorem rfields0 (l : List S59) (hl : l.length ≤ 1048576) (hx : ∀ x ∈ l, x.f0.size ≤ 1048576 ∧ x.f1.size ≤ 1048576) : ∀ d i, l.length = i + d → Ev (fun k => codicilref29_fields.l0 k l (i : Int)) ((l.drop i).all okHd && decide (l.length < 64))
  | 0, i, hd => by
    rw [List.drop_of_length_le (by omega)]
    refine Ev.step (f := fun _ => some (decide ((l.length : Int) < 64))) (fun k => ?_) ?_
    · simp only [codicilref29_fields.l0]
      rw [if_neg (by omega)]
    · have e : decide ((l.length : Int) < 64) = decide (l.length < 64) := by rw [decide_eq_decide]; omega
      rw [e]
      exact Ev.now _
  | d + 1, i, hd => by
    have hi : i < l.length := by omega
    rw [List.drop_eq_getElem_cons hi, List.all_cons]
    have hr := rdH l i hi
    obtain ⟨b0, b1⟩ := hx _ (List.getElem_mem hi)
    have ih := rfields0 l hl hx d (i + 1) (by omega)
    generalize l[i] = h at *
    rw [okHd_eq]
    have l0 : h.f0.data.toList.length ≤ 1048576 := by rw [Array.length_toList]; exact b0
    have l1 : h.f1.data.toList.length ≤ 1048576 := by rw [Array.length_toList]; exact b1
    have ht := rtok_ev h.f0.data.toList l0
    have hv := rval_ev h.f1.data.toList l1
    have hsm := small_is h.f0.data.toList l0
    rw [bs_of] at ht hv hsm
    have e3 : h.f0.toList = h.f0.data.toList := ByteArray.toList_eq _
    refine Ev.step (f := fun k => (codicilref29_token.f k h.f0).bind fun t352 => (if t352 = true then (if lowA h.f0.data.toList = h.f0.data.toList then (if h.f0.data.toList = clT then (some false) else (if h.f0.data.toList = teT then (some false) else ((codicilref29_value.f k h.f1).bind fun t355 => (if t355 = true then (codicilref29_fields.l0 k l ((i + 1 : Nat) : Int)) else (some false))))) else (some false)) else (some false))) (fun k => ?_) (Ev.bind ht ?_)
    · simp only [codicilref29_fields.l0]
      rw [if_pos (by omega), if_pos (by omega), hr, hsm, wup (by omega)]
      simp only [Option.bind_some, toL, e3]
    · cases tokP h.f0.data.toList with
      | false => simp only [Bool.false_eq_true, if_false, Bool.false_and]; exact Ev.now _
      | true =>
        simp only [if_true, Bool.true_and]
        by_cases c1 : lowA h.f0.data.toList = h.f0.data.toList
        · simp only [if_pos c1, beq_iff_eq.2 c1, Bool.true_and]
          by_cases c2 : h.f0.data.toList = clT
          · simp only [if_pos c2, beq_iff_eq.2 c2, Bool.not_true, Bool.false_and]; exact Ev.now _
          · simp only [if_neg c2, beq_eq_false_iff_ne.2 c2, Bool.not_false, Bool.true_and]
            by_cases c3 : h.f0.data.toList = teT
            · simp only [if_pos c3, beq_iff_eq.2 c3, Bool.not_true, Bool.false_and]; exact Ev.now _
            · simp only [if_neg c3, beq_eq_false_iff_ne.2 c3, Bool.not_false, Bool.true_and]
              refine Ev.bind hv ?_
              cases valP h.f1.data.toList with
              | false => exact Ev.now _
              | true => exact ih
        · simp only [if_neg c1, beq_eq_false_iff_ne.2 c1, Bool.false_and]; exact Ev.now _
theorem rfields_ev (l : List S59) (hl : l.length ≤ 1048576) (hx : ∀ x ∈ l, x.f0.size ≤ 1048576 ∧ x.f1.size ≤ 1048576) : Ev (fun k => codicilref29_fields.f k l) (l.all okHd && decide (l.length < 64)) := by
  have := rfields0 l hl hx l.length 0 (by omega)
  rw [List.drop_zero] at this
  exact this
theorem rbytes0 (l : List S59) (hl : l.length ≤ 1048576) (body : ByteArray) (hb : body.size ≤ 1048576) : ∀ d i (x : List UInt8), l.length = i + d → x.length + (hdsL (l.drop i)).length ≤ 4194304 →
    Ev (fun k => codicilref29_bytes.l0 k l body (bs x) (i : Int)) (bs (x ++ hdsL (l.drop i) ++ (lenT body).data.toList) ++ body, decide ((x ++ hdsL (l.drop i) ++ (lenT body).data.toList).length ≤ 8192))
  | 0, i, x, hd, hx => by
    rw [List.drop_of_length_le (by omega)]
    have hit : strconv_Itoa.f (body.size : Int) = some (itoaN body.size) := by unfold strconv_Itoa.f; rw [if_pos (by omega)]
    have hil : (itoaN body.size).size ≤ 32 := itoa_small body.size (by omega)
    have e : bs (x ++ hdsL [] ++ (lenT body).data.toList) = ((bs x ++ (⟨#[99, 111, 110, 116, 101, 110, 116, 45, 108, 101, 110, 103, 116, 104, 58, 32]⟩ : ByteArray)) ++ itoaN body.size) ++ (⟨#[13, 10, 13, 10]⟩ : ByteArray) := by
      rw [ap_l, ap_l, ap_l]
      congr 1
      unfold lenT
      simp only [ByteArray.data_append, Array.toList_append, hdsL, List.flatMap_nil, List.append_nil, List.append_assoc]
    have hxl : x.length ≤ 4194304 := by omega
    have z1 : (⟨#[99, 111, 110, 116, 101, 110, 116, 45, 108, 101, 110, 103, 116, 104, 58, 32]⟩ : ByteArray).size = 16 := rfl
    have z2 : (⟨#[13, 10, 13, 10]⟩ : ByteArray).size = 4 := rfl
    have hsz : (x ++ hdsL [] ++ (lenT body).data.toList).length = ((((bs x ++ (⟨#[99, 111, 110, 116, 101, 110, 116, 45, 108, 101, 110, 103, 116, 104, 58, 32]⟩ : ByteArray)) ++ itoaN body.size) ++ (⟨#[13, 10, 13, 10]⟩ : ByteArray))).size := by rw [← e]; rfl
    rw [hsz, e]
    refine Ev.step (f := fun _ => some ((((bs x ++ (⟨#[99, 111, 110, 116, 101, 110, 116, 45, 108, 101, 110, 103, 116, 104, 58, 32]⟩ : ByteArray)) ++ itoaN body.size) ++ (⟨#[13, 10, 13, 10]⟩ : ByteArray)) ++ body, decide (((((bs x ++ (⟨#[99, 111, 110, 116, 101, 110, 116, 45, 108, 101, 110, 103, 116, 104, 58, 32]⟩ : ByteArray)) ++ itoaN body.size) ++ (⟨#[13, 10, 13, 10]⟩ : ByteArray)).size : Int) ≤ 8192))) (fun k => ?_) ?_
    · simp only [codicilref29_bytes.l0]
      rw [if_neg (by omega), if_pos (by rw [bs_size]; omega), hit, Option.bind_some, if_pos (by rw [ByteArray.size_append, bs_size, z1]; omega), if_pos (by rw [ByteArray.size_append, ByteArray.size_append, bs_size, z1]; omega), if_pos (by rw [ByteArray.size_append, ByteArray.size_append, ByteArray.size_append, bs_size, z1, z2]; omega)]
    · have e2 : ∀ n : Nat, decide ((n : Int) ≤ 8192) = decide (n ≤ 8192) := fun n => by rw [decide_eq_decide]; omega
      rw [e2]
      exact Ev.now _
  | d + 1, i, x, hd, hx => by
    have hi : i < l.length := by omega
    have hh := hds_drop l i hi
    have hr := rdH l i hi
    have hT := hdT_len4 l[i]
    rw [hh, List.length_append] at hx
    have ih := rbytes0 l hl body hb d (i + 1) (x ++ (hdT l[i]).data.toList) (by omega) (by rw [List.length_append]; omega)
    rw [List.append_assoc x, ← hh] at ih
    refine Ev.step (fun k => ?_) ih
    generalize l[i] = h at *
    have z1 : (⟨#[58, 32]⟩ : ByteArray).size = 2 := rfl
    simp only [codicilref29_bytes.l0]
    rw [if_pos (by omega), if_pos (by omega), hr, if_pos (by rw [bs_size]; omega), if_pos (by rw [ByteArray.size_append, bs_size]; omega), if_pos (by rw [ByteArray.size_append, ByteArray.size_append, bs_size, z1]; omega), if_pos (by rw [ByteArray.size_append, ByteArray.size_append, ByteArray.size_append, bs_size, z1]; omega), wup (by omega), hdT_list]
    congr 1
    rw [ap_l, ap_l, ap_l, ap_l]
    congr 1
    simp only [List.append_assoc]
theorem rwrite_ev (line : ByteArray) (l : List S59) (body : ByteArray) (hline : line.size ≤ 1048576) (hl : l.length ≤ 1048576) (hx : ∀ x ∈ l, x.f0.size ≤ 1048576 ∧ x.f1.size ≤ 1048576) (hs : (hdsL l).length ≤ 2097152) (hb : body.size ≤ 1048576) :
    Ev (fun k => (codicilref29_bytes.f k line l body).bind fun bt => (if bt.2 = true then (some (bt.1, (0 : Int))) else (some ((⟨#[]⟩ : ByteArray), (2 : Int))))) (writeN line l body) := by
  have hw : writeN line l body = if (l.all okHd && decide (l.length < 64)) = true then (if decide (body.size ≤ 65536) = true then (if decide ((headT line l body).length ≤ 8192) = true then (bs (headT line l body) ++ body, 0) else (ByteArray.empty, 2)) else (ByteArray.empty, 2)) else (ByteArray.empty, 2) := by
    unfold writeN
    cases l.all okHd <;> cases decide (l.length < 64) <;> cases decide (body.size ≤ 65536) <;> cases decide ((headT line l body).length ≤ 8192) <;> rfl
  have hno : Ev (fun k => codicilref29_bytes.j0 k line l body true) ((⟨#[]⟩ : ByteArray), false) := Ev.step (f := fun _ => some ((⟨#[]⟩ : ByteArray), false)) (fun k => by simp only [codicilref29_bytes.j0]; rw [if_pos trivial]) (Ev.now _)
  rw [hw]
  have hbytes : Ev (fun k => codicilref29_bytes.f k line l body) (if (l.all okHd && decide (l.length < 64)) = true then (if decide (body.size ≤ 65536) = true then (bs (headT line l body) ++ body, decide ((headT line l body).length ≤ 8192)) else ((⟨#[]⟩ : ByteArray), false)) else ((⟨#[]⟩ : ByteArray), false)) := by
    unfold codicilref29_bytes.f
    refine Ev.bind (rfields_ev l hl hx) ?_
    cases (l.all okHd && decide (l.length < 64)) with
    | false => simp only [Bool.false_eq_true, if_false]; exact hno
    | true =>
      simp only [if_true]
      by_cases h : body.size ≤ 65536
      · rw [decide_eq_false (show ¬ (body.size : Int) > 65536 by omega), decide_eq_true h, if_pos rfl]
        have e : line ++ (⟨#[13, 10]⟩ : ByteArray) = bs (line ++ (⟨#[13, 10]⟩ : ByteArray)).data.toList := rfl
        have hsz : (line ++ (⟨#[13, 10]⟩ : ByteArray)).data.toList.length = line.size + 2 := by rw [Array.length_toList]; show (line ++ (⟨#[13, 10]⟩ : ByteArray)).size = _; rw [ByteArray.size_append]; rfl
        have := rbytes0 l hl body hb l.length 0 (line ++ (⟨#[13, 10]⟩ : ByteArray)).data.toList (by omega) (by rw [hsz, List.drop_zero]; omega)
        rw [List.drop_zero] at this
        refine Ev.step (fun k => ?_) this
        simp only [codicilref29_bytes.j0]
        rw [if_neg (by decide), if_pos (by omega)]
        rfl
      · rw [decide_eq_true (show (body.size : Int) > 65536 by omega), decide_eq_false h, if_neg (by decide)]
        exact hno
  refine Ev.bind hbytes ?_
  cases (l.all okHd && decide (l.length < 64)) with
  | false => simp only [Bool.false_eq_true, if_false]; exact Ev.now _
  | true =>
    simp only [if_true]
    cases decide (body.size ≤ 65536) with
    | false => simp only [Bool.false_eq_true, if_false]; exact Ev.now _
    | true =>
      simp only [if_true]
      cases decide ((headT line l body).length ≤ 8192) with
      | false => simp only [Bool.false_eq_true, if_false]; exact Ev.now _
      | true => simp only [if_true]; exact Ev.now _
theorem rask_ev (m t : ByteArray) (l : List S59) (body : ByteArray) (hm : m.size ≤ 500000) (ht : t.size ≤ 500000) (hf : fits l body) : Ev (fun k => codicilref29_Ask.f k m t l body) (askN m t l body) := by
  obtain ⟨h1, h2, h3, h4⟩ := hf
  have z1 : (⟨#[32]⟩ : ByteArray).size = 1 := rfl
  have z2 : (⟨#[32, 72, 84, 84, 80, 47, 49, 46, 49]⟩ : ByteArray).size = 9 := rfl
  have e1 : tokenB m = tokP m.data.toList := tokenB_P m.data.toList
  have e2 : targetB t = tgtOk t.data.toList := targetB_P t.data.toList
  have ht1 := rtok_ev m.data.toList (by rw [Array.length_toList]; show m.size ≤ _; omega)
  have ht2 := rtgt_ev t.data.toList (by rw [Array.length_toList]; show t.size ≤ _; omega)
  rw [bs_of] at ht1 ht2
  have hno : Ev (fun k => codicilref29_Ask.j0 k true m t l body) ((⟨#[]⟩ : ByteArray), (2 : Int)) := Ev.step (f := fun _ => some ((⟨#[]⟩ : ByteArray), (2 : Int))) (fun k => by simp only [codicilref29_Ask.j0]; rw [if_pos trivial]) (Ev.now _)
  unfold codicilref29_Ask.f askN
  rw [e1, e2]
  refine Ev.bind ht1 ?_
  cases tokP m.data.toList with
  | false => simp only [Bool.false_eq_true, if_false, Bool.false_and]; exact hno
  | true =>
    simp only [if_true, Bool.true_and]
    refine Ev.bind ht2 ?_
    cases tgtOk t.data.toList with
    | false => exact hno
    | true =>
      rw [if_pos rfl]
      have hsz : (m ++ (⟨#[32]⟩ : ByteArray) ++ t ++ (⟨#[32, 72, 84, 84, 80, 47, 49, 46, 49]⟩ : ByteArray)).size ≤ 1048576 := by
        rw [ByteArray.size_append, ByteArray.size_append, ByteArray.size_append, z1, z2]
        omega
      have hw := rwrite_ev (m ++ (⟨#[32]⟩ : ByteArray) ++ t ++ (⟨#[32, 72, 84, 84, 80, 47, 49, 46, 49]⟩ : ByteArray)) l body hsz h1 h2 (by omega) h4
      refine Ev.step (fun k => ?_) hw
      simp only [codicilref29_Ask.j0]
      rw [if_neg (by decide), if_pos (by omega), if_pos (by rw [ByteArray.size_append, z1]; omega), if_pos (by rw [ByteArray.size_append, ByteArray.size_append, z1]; omega)]
end Go.Proofs.YtddjhmelniphgaaGreatDoor.Print
end
section
/- What was written is read as itself: in plain words. -/
namespace Go.Proofs.YtddjhmelniphgaaGreatDoor.Print
open Go.RowKit Go.Proofs.YtddjhmelniphgaaGreatDoorW.PrintWords Go.Proofs.YtddjhmelniphgaaGreatDoorW.PrintLast
set_option linter.unusedVariables false
set_option linter.unusedSimpArgs false
/-! ### lines one behind the other -/
theorem noCR_cons (c : UInt8) (r : List UInt8) : noCR (c :: r) = (!(c == 13) && !(c == 10) && noCR r) := by unfold noCR; rw [List.all_cons]
theorem noCR_app (a b : List UInt8) : noCR (a ++ b) = (noCR a && noCR b) := by unfold noCR; rw [List.all_append]
theorem idx_pass (s' : List UInt8) (Y : List UInt8) : ∀ x : List UInt8, noCR x = true → Lib.index (x ++ Y) (13 :: s') = if Lib.index Y (13 :: s') = -1 then -1 else (x.length : Int) + Lib.index Y (13 :: s')
  | [], _ => by
    have := Lib.index_ge Y (13 :: s')
    rw [List.nil_append, List.length_nil]
    split <;> omega
  | c :: r, h => by
    rw [noCR_cons, Bool.and_eq_true, Bool.and_eq_true, Bool.not_eq_true', beq_eq_false_iff_ne] at h
    have ih := idx_pass s' Y r h.2
    have hg := Lib.index_ge Y (13 :: s')
    have hp : (13 :: s').isPrefixOf (c :: (r ++ Y)) = false := by
      simp only [List.isPrefixOf, Bool.and_eq_false_iff, beq_eq_false_iff_ne]
      exact .inl (fun e => h.1.1 e.symm)
    rw [List.cons_append, Lib.index, hp, ih, List.length_cons]
    simp only [Bool.false_eq_true, if_false]
    by_cases hY : Lib.index Y (13 :: s') = -1
    · simp [hY]
    · rw [if_neg hY, if_neg hY, if_neg (by simp only [beq_iff_eq]; omega)]
      omega
def joinL : List (List UInt8) → List UInt8
  | [] => []
  | [x] => x
  | x :: y :: r => x ++ 13 :: 10 :: joinL (y :: r)
theorem joinL_cons (x : List UInt8) (ls : List (List UInt8)) (h : ls ≠ []) : joinL (x :: ls) = x ++ 13 :: 10 :: joinL ls := by
  cases ls with
  | nil => exact absurd rfl h
  | cons y r => rfl
theorem joinL_snoc (c : List UInt8) : ∀ hl : List (List UInt8), joinL (hl ++ [c]) = (hl.flatMap fun x => x ++ [13, 10]) ++ c
  | [] => rfl
  | x :: r => by
    rw [List.cons_append, joinL_cons x _ (by simp), joinL_snoc c r, List.flatMap_cons]
    simp
theorem joinL_head {ls : List (List UInt8)} (h1 : ls ≠ []) (h2 : ∀ x ∈ ls, x ≠ [] ∧ noCR x = true) (Y : List UInt8) : ∃ c r, joinL ls ++ Y = c :: r ∧ c ≠ 13 := by
  cases ls with
  | nil => exact absurd rfl h1
  | cons x t =>
    obtain ⟨hx, hn⟩ := h2 x (List.mem_cons_self ..)
    cases x with
    | nil => exact absurd rfl hx
    | cons c r =>
      have hc : c ≠ 13 := by
        rw [noCR_cons, Bool.and_eq_true, Bool.and_eq_true, Bool.not_eq_true', beq_eq_false_iff_ne] at hn
        exact hn.1.1
      cases t with
      | nil => exact ⟨c, _, rfl, hc⟩
      | cons y q => exact ⟨c, _, rfl, hc⟩
/-- The first place where a head ends. -/
theorem idx_join (rest : List UInt8) : ∀ ls : List (List UInt8), ls ≠ [] → (∀ x ∈ ls, x ≠ [] ∧ noCR x = true) → Lib.index (joinL ls ++ (crlf2 ++ rest)) crlf2 = ((joinL ls).length : Int)
  | [], h, _ => absurd rfl h
  | [x], _, h => by
    have h0 : Lib.index (crlf2 ++ rest) crlf2 = 0 := by
      show Lib.index (13 :: 10 :: 13 :: 10 :: rest) crlf2 = 0
      rw [Lib.index]
      simp [List.isPrefixOf]
    show Lib.index (x ++ (crlf2 ++ rest)) (13 :: [10, 13, 10]) = _
    rw [idx_pass _ _ x (h x (List.mem_cons_self ..)).2, show (13 :: [10, 13, 10] : List UInt8) = crlf2 from rfl, h0, if_neg (by decide)]
    show (x.length : Int) + 0 = (x.length : Int)
    omega
  | x :: y :: r, _, h => by
    have ih := idx_join rest (y :: r) (by simp) (fun z hz => h z (List.mem_cons_of_mem _ hz))
    obtain ⟨c, q, hq, hc⟩ := joinL_head (ls := y :: r) (by simp) (fun z hz => h z (List.mem_cons_of_mem _ hz)) (crlf2 ++ rest)
    have e : joinL (x :: y :: r) ++ (crlf2 ++ rest) = x ++ (13 :: 10 :: (joinL (y :: r) ++ (crlf2 ++ rest))) := by simp [joinL]
    have h2 : Lib.index (13 :: 10 :: (joinL (y :: r) ++ (crlf2 ++ rest))) crlf2 = ((joinL (y :: r)).length : Int) + 2 := by
      have p1 : crlf2.isPrefixOf (13 :: 10 :: (joinL (y :: r) ++ (crlf2 ++ rest))) = false := by
        rw [hq]
        simp only [crlf2, List.isPrefixOf, Bool.and_eq_false_iff, beq_eq_false_iff_ne]
        exact .inr (.inr (.inl (fun e => hc e.symm)))
      have p2 : crlf2.isPrefixOf (10 :: (joinL (y :: r) ++ (crlf2 ++ rest))) = false := rfl
      rw [Lib.index, p1, Lib.index, p2, ih]
      simp only [Bool.false_eq_true, if_false]
      rw [if_neg (by simp only [beq_iff_eq]; omega), if_neg (by simp only [beq_iff_eq]; omega)]
      omega
    rw [e]
    show Lib.index _ (13 :: [10, 13, 10]) = _
    rw [idx_pass _ _ x (h x (List.mem_cons_self ..)).2, show (13 :: [10, 13, 10] : List UInt8) = crlf2 from rfl, h2, if_neg (by omega)]
    have : (joinL (x :: y :: r)).length = x.length + 2 + (joinL (y :: r)).length := by simp [joinL]; omega
    rw [this]
    omega
theorem cut_pass (x Y : List UInt8) (hx : noCR x = true) : Lib.cut (x ++ 13 :: 10 :: Y) [13, 10] = (x, Y, true) := by
  have h0 : Lib.index (13 :: 10 :: Y) [13, 10] = 0 := by rw [Lib.index]; simp [List.isPrefixOf]
  have h1 := idx_pass [10] (13 :: 10 :: Y) x hx
  rw [h0, if_neg (by decide)] at h1
  unfold Lib.cut
  have e : (13 :: [10] : List UInt8) = [13, 10] := rfl
  rw [e] at h1
  rw [h1, if_pos (by omega)]
  have e2 : ((x.length : Int) + 0).toNat = x.length := by omega
  rw [e2, List.take_left]
  have e3 : (x ++ 13 :: 10 :: Y).drop (x.length + [13, 10].length) = Y := by
    rw [← List.drop_drop, List.drop_left]
    rfl
  exact congrArg (fun z => (x, z, true)) e3
theorem cut_end (x : List UInt8) (hx : noCR x = true) : (Lib.cut x [13, 10]).2.2 = false := by
  have h1 := idx_pass [10] [] x hx
  rw [List.append_nil] at h1
  have h0 : Lib.index [] (13 :: [10]) = -1 := rfl
  rw [h0, if_pos rfl] at h1
  unfold Lib.cut
  rw [show ([13, 10] : List UInt8) = 13 :: [10] from rfl, h1]
  rfl
theorem parts_join : ∀ (ls : List (List UInt8)) (f : Nat), ls ≠ [] → (∀ x ∈ ls, noCR x = true) → (joinL ls).length ≤ f → partsL [13, 10] f (joinL ls) = ls
  | [], _, h, _, _ => absurd rfl h
  | [x], f, _, h, _ => by
    cases f with
    | zero => rfl
    | succ f =>
      have hx := cut_end x (h x (List.mem_cons_self ..))
      show partsL [13, 10] (f + 1) x = [x]
      simp only [partsL]
      rw [if_neg (by rw [hx]; decide)]
  | x :: y :: r, f, _, h, hf => by
    have hl : (joinL (x :: y :: r)).length = x.length + 2 + (joinL (y :: r)).length := by simp [joinL]; omega
    obtain ⟨f, rfl⟩ : ∃ m, f = m + 1 := ⟨f - 1, by omega⟩
    have hc : Lib.cut (joinL (x :: y :: r)) [13, 10] = (x, joinL (y :: r), true) := cut_pass x _ (h x (List.mem_cons_self ..))
    simp only [partsL]
    rw [hc, if_pos rfl, parts_join (y :: r) f (by simp) (fun z hz => h z (List.mem_cons_of_mem _ hz)) (by omega)]
/-- A head of lines, with anything behind it. -/
theorem head_join (ls : List (List UInt8)) (rest : List UInt8) (h1 : ls ≠ []) (h2 : ∀ x ∈ ls, x ≠ [] ∧ noCR x = true) (h3 : (joinL ls).length + 4 ≤ 8192) :
    (headOf (joinL ls ++ (crlf2 ++ rest))).1 = joinL ls ∧ (headOf (joinL ls ++ (crlf2 ++ rest))).2.2 = true := by
  have e : (joinL ls ++ (crlf2 ++ rest)).take 8192 = joinL ls ++ (crlf2 ++ rest.take (8192 - (joinL ls).length - 4)) := by
    have h4 : crlf2.length = 4 := rfl
    rw [List.take_append, List.take_append, List.take_of_length_le (by omega), List.take_of_length_le (by rw [h4]; omega), h4]
  unfold headOf Lib.cut
  rw [e, show ([13, 10, 13, 10] : List UInt8) = crlf2 from rfl, idx_join _ ls h1 h2, if_pos (by omega), Int.toNat_natCast]
  exact ⟨List.take_left, rfl⟩
/-- A head that is cut ahead of its end. -/
theorem head_cut (ls : List (List UInt8)) (rest : List UInt8) (h1 : ls ≠ []) (h2 : ∀ x ∈ ls, x ≠ [] ∧ noCR x = true) (c : Nat) (hc : c < (joinL ls).length + 4) : (headOf ((joinL ls ++ (crlf2 ++ rest)).take c)).2.2 = false := by
  unfold headOf
  rw [show ([13, 10, 13, 10] : List UInt8) = crlf2 from rfl]
  rcases cut_cases (((joinL ls ++ (crlf2 ++ rest)).take c).take 8192) crlf2 (by simp) with ⟨e, _⟩ | ⟨a, b, e, e2, _⟩
  · rw [e]
  · exfalso
    have hlen := congrArg List.length e2
    simp only [List.length_append, List.length_take, List.length_cons, List.length_nil] at hlen
    rw [List.take_take] at e2
    have hX : joinL ls ++ (crlf2 ++ rest) = a ++ (crlf2 ++ (b ++ (joinL ls ++ (crlf2 ++ rest)).drop (min 8192 c))) := by
      conv => lhs; rw [← List.take_append_drop (min 8192 c) (joinL ls ++ (crlf2 ++ rest)), e2]
      simp
    have hi := idx_join rest ls h1 h2
    rcases Lib.index_spec (joinL ls ++ (crlf2 ++ rest)) crlf2 with ⟨k1, _⟩ | ⟨i, k1, k2, k3, k4⟩
    · omega
    · have hia : a.length < i := by omega
      have := k4 a.length hia
      unfold Lib.occAt at this
      rw [hX, List.drop_left] at this
      simp [List.isPrefixOf] at this
/-! ### what a written head holds -/
theorem tok_noCR : ∀ l : List UInt8, l.all isTok = true → noCR l = true ∧ (58 : UInt8) ∉ l ∧ (32 : UInt8) ∉ l
  | [], _ => ⟨rfl, by simp, by simp⟩
  | c :: r, h => by
    rw [List.all_cons, Bool.and_eq_true] at h
    obtain ⟨h1, h2, h3⟩ := tok_noCR r h.2
    have hc : ∀ b : Fin 256, isTok (UInt8.ofNat b.val) = true → UInt8.ofNat b.val ≠ 13 ∧ UInt8.ofNat b.val ≠ 10 ∧ UInt8.ofNat b.val ≠ 58 ∧ UInt8.ofNat b.val ≠ 32 := by decide +kernel
    have := hc ⟨c.toNat, UInt8.toNat_lt c⟩ (by simpa using h.1)
    simp only [UInt8.ofNat_toNat] at this
    refine ⟨?_, ?_, ?_⟩
    · rw [noCR_cons, h1, beq_eq_false_iff_ne.2 this.1, beq_eq_false_iff_ne.2 this.2.1]; rfl
    · simp [h2, Ne.symm this.2.2.1]
    · simp [h3, Ne.symm this.2.2.2]
theorem val_noCR : ∀ l : List UInt8, l.all isVal = true → noCR l = true
  | [], _ => rfl
  | c :: r, h => by
    rw [List.all_cons, Bool.and_eq_true] at h
    have hc : ∀ b : Fin 256, isVal (UInt8.ofNat b.val) = true → UInt8.ofNat b.val ≠ 13 ∧ UInt8.ofNat b.val ≠ 10 := by decide +kernel
    have := hc ⟨c.toNat, UInt8.toNat_lt c⟩ (by simpa using h.1)
    simp only [UInt8.ofNat_toNat] at this
    rw [noCR_cons, val_noCR r h.2, beq_eq_false_iff_ne.2 this.1, beq_eq_false_iff_ne.2 this.2]
    rfl
theorem tgt_noCR : ∀ l : List UInt8, l.all isTgt = true → noCR l = true ∧ (32 : UInt8) ∉ l
  | [], _ => ⟨rfl, by simp⟩
  | c :: r, h => by
    rw [List.all_cons, Bool.and_eq_true] at h
    obtain ⟨h1, h2⟩ := tgt_noCR r h.2
    have hc : ∀ b : Fin 256, isTgt (UInt8.ofNat b.val) = true → UInt8.ofNat b.val ≠ 13 ∧ UInt8.ofNat b.val ≠ 10 ∧ UInt8.ofNat b.val ≠ 32 := by decide +kernel
    have := hc ⟨c.toNat, UInt8.toNat_lt c⟩ (by simpa using h.1)
    simp only [UInt8.ofNat_toNat] at this
    exact ⟨by rw [noCR_cons, h1, beq_eq_false_iff_ne.2 this.1, beq_eq_false_iff_ne.2 this.2.1]; rfl, by simp [h2, Ne.symm this.2.2]⟩
theorem cutB_at (c : UInt8) (r : List UInt8) : ∀ a : List UInt8, c ∉ a → cutB c (a ++ c :: r) = (a, r, true)
  | [], _ => by simp [cutB]
  | x :: a, h => by
    have hx : ¬ x = c := fun e => h (by rw [e]; exact List.mem_cons_self ..)
    rw [List.cons_append, cutB, if_neg hx, cutB_at c r a (fun e => h (List.mem_cons_of_mem _ e))]
theorem cutB_no (c : UInt8) (a : List UInt8) (h : c ∉ a) : cutB c a = (a, [], false) := by
  cases hf : (cutB c a).2.2 with
  | false => exact (cutB_none c a hf).1
  | true =>
    have := (cutB_some c a hf).1
    exact absurd (by rw [this]; simp) h
/-- The line of a header. -/
def lineH (n v : List UInt8) : List UInt8 := n ++ 58 :: 32 :: v
theorem trim_ends_eq {v : List UInt8} (h : endsP v = true) : Lib.trimS v [32, 9] = v := by
  rw [← trim_ends, beq_iff_eq] at h
  exact h
theorem trim_blank (v : List UInt8) : Lib.trimS (32 :: v) [32, 9] = Lib.trimS v [32, 9] := by
  rw [trimS_eq, trimS_eq, trimR_cons]
  have hb : blankB 32 = true := by decide
  split
  · rename_i h; rw [h.1]
  · rw [List.dropWhile_cons, if_pos hb]
theorem lineH_is {n v : List UInt8} (hn : n.all isTok = true) (hv : endsP v = true) : hdName (lineH n v) = n ∧ hdVal (lineH n v) = bs v ∧ (Lib.cut (lineH n v) [58]).2.2 = true := by
  have hc := cutB_at 58 (32 :: v) n (tok_noCR n hn).2.1
  have e : cutB 58 (lineH n v) = (n, 32 :: v, true) := hc
  refine ⟨?_, ?_, ?_⟩
  · unfold hdName; rw [cutB_eq, e]
  · rw [hdVal_eq, e]
    simp only
    rw [trim_blank, trim_ends_eq hv]
  · rw [cutB_eq, e]
theorem stepH_line {n v : List UInt8} (hn : tokP n = true) (hv : valP v = true) (st : RS) : stepH (lineH n v) st = if lowA n = clName then (if st.2.2 = true then none else (lengthL v).map fun k => (st.1, k, true)) else if lowA n = teName then none else some (st.1 ++ [⟨bs (lowA n), bs v⟩], st.2.1, st.2.2) := by
  have hn2 := hn
  unfold tokP at hn2
  rw [Bool.and_eq_true] at hn2
  have hv2 := hv
  unfold valP at hv2
  rw [Bool.and_eq_true] at hv2
  obtain ⟨e1, e2, e3⟩ := lineH_is hn2.2 hv2.2
  have hok : hdOk (lineH n v) = true := by
    unfold hdOk
    rw [e1, e2, e3, tokenB_P, valueB_P, hn, hv]
    rfl
  unfold stepH
  rw [hok, e1, e2, bs_list, if_neg (by decide)]
def hLine (h : S59) : List UInt8 := lineH h.f0.data.toList h.f1.data.toList
theorem okHd_parts {h : S59} (hk : okHd h = true) : tokP h.f0.data.toList = true ∧ lowA h.f0.data.toList = h.f0.data.toList ∧ h.f0.data.toList ≠ clT ∧ h.f0.data.toList ≠ teT ∧ valP h.f1.data.toList = true := by
  rw [okHd_eq] at hk
  simp only [Bool.and_eq_true, beq_iff_eq, Bool.not_eq_true', beq_eq_false_iff_ne] at hk
  exact ⟨hk.1, hk.2.1, hk.2.2.1, hk.2.2.2.1, hk.2.2.2.2⟩
theorem runH_app : ∀ (a b : List (List UInt8)) (st : RS), runH (a ++ b) st = (runH a st).bind (runH b)
  | [], b, st => rfl
  | x :: a, b, st => by
    simp only [List.cons_append, runH]
    cases stepH x st with
    | none => rfl
    | some s => simp only [Option.bind_some]; exact runH_app a b s
theorem runH_lines : ∀ (l : List S59) (acc : List Hd) (n : Nat) (t : Bool), l.all okHd = true → runH (l.map hLine) (acc, n, t) = some (acc ++ l, n, t)
  | [], acc, n, t, _ => by simp [runH]
  | h :: r, acc, n, t, hk => by
    rw [List.all_cons, Bool.and_eq_true] at hk
    obtain ⟨k1, k2, k3, k4, k5⟩ := okHd_parts hk.1
    simp only [List.map_cons, runH]
    rw [show hLine h = lineH h.f0.data.toList h.f1.data.toList from rfl, stepH_line k1 k5, k2, if_neg (show ¬ h.f0.data.toList = clName from k3), if_neg (show ¬ h.f0.data.toList = teName from k4), Option.bind_some, runH_lines r _ n t hk.2]
    simp only [List.append_assoc]
    rfl
def clLine (n : Nat) : List UInt8 := lineH clName (Lib.decDigits n)
theorem dec_all : ∀ (f n : Nat), n ≤ f → (Lib.decDigits n).all (fun c => decide (48 ≤ c.toNat) && decide (c.toNat ≤ 57)) = true := by
  intro f
  induction f with
  | zero => intro n h; obtain rfl := Nat.le_zero.1 h; rw [Lib.decDigits_one (by decide)]; decide
  | succ f ih =>
    intro n h
    by_cases h10 : n < 10
    · rw [Lib.decDigits_one h10, List.all_cons, List.all_nil, Bool.and_true]
      have : (UInt8.ofNat (48 + n)).toNat = 48 + n := by rw [UInt8.toNat_ofNat']; omega
      rw [this, decide_eq_true (by omega), decide_eq_true (by omega)]
      rfl
    · have e := dec_step (a := n / 10) (d := n % 10) (by omega) (by omega)
      rw [show n / 10 * 10 + n % 10 = n by omega] at e
      rw [e, List.all_append, ih (n / 10) (by omega), List.all_cons, List.all_nil]
      have : (UInt8.ofNat (48 + n % 10)).toNat = 48 + n % 10 := by rw [UInt8.toNat_ofNat']; omega
      rw [this, decide_eq_true (by omega), decide_eq_true (by omega)]
      rfl
theorem digs_of_dec : ∀ (f n : Nat), n ≤ f → digsN 0 (Lib.decDigits n) = some n := by
  intro f
  induction f with
  | zero => intro n h; obtain rfl := Nat.le_zero.1 h; rw [Lib.decDigits_one (by decide)]; decide
  | succ f ih =>
    intro n h
    by_cases h10 : n < 10
    · rw [Lib.decDigits_one h10]
      have : (UInt8.ofNat (48 + n)).toNat = 48 + n := by rw [UInt8.toNat_ofNat']; omega
      simp only [digsN]
      rw [this, if_pos (by omega)]
      congr 1
      omega
    · have e := dec_step (a := n / 10) (d := n % 10) (by omega) (by omega)
      rw [show n / 10 * 10 + n % 10 = n by omega] at e
      have : (UInt8.ofNat (48 + n % 10)).toNat = 48 + n % 10 := by rw [UInt8.toNat_ofNat']; omega
      rw [e, digsN_snoc, ih (n / 10) (by omega), Option.bind_some, this, if_pos (by omega)]
      congr 1
      omega
theorem dec_ne (n : Nat) : Lib.decDigits n ≠ [] := by
  intro e
  have := digs_of_dec n n (Nat.le_refl _)
  have h2 := congrArg List.length e
  rw [Lib.decDigits_length] at h2
  unfold Lib.nDigits at h2
  split at h2 <;> simp at h2
theorem dec_len6 {n : Nat} (h : n ≤ 65536) : (Lib.decDigits n).length ≤ 6 := by
  rw [Lib.decDigits_length]
  rcases Nat.lt_or_ge n 10 with h1 | h1
  · rw [Lib.nDigits_small h1]; omega
  rw [Lib.nDigits_big (by omega)]
  rcases Nat.lt_or_ge (n / 10) 10 with h2 | h2
  · rw [Lib.nDigits_small h2]; omega
  rw [Lib.nDigits_big (by omega)]
  rcases Nat.lt_or_ge (n / 10 / 10) 10 with h3 | h3
  · rw [Lib.nDigits_small h3]; omega
  rw [Lib.nDigits_big (by omega)]
  rcases Nat.lt_or_ge (n / 10 / 10 / 10) 10 with h4 | h4
  · rw [Lib.nDigits_small h4]; omega
  rw [Lib.nDigits_big (by omega), Lib.nDigits_small (by omega)]
  omega
theorem lenR_dec {n : Nat} (h : n ≤ 65536) : lengthL (Lib.decDigits n) = some n := by
  rw [lengthL_eq]
  unfold lenR
  have hd := digs_of_dec n n (Nat.le_refl _)
  rw [if_neg, hd]
  rintro (h1 | h1 | ⟨h1, h2⟩)
  · exact dec_ne n h1
  · have := dec_len6 h; omega
  · rcases (dec_iff (dec_ne n) hd).1 rfl with h3 | h3
    · omega
    · exact h3 h2
theorem dec_valP (n : Nat) : valP (Lib.decDigits n) = true := by
  have h := dec_all n n (Nat.le_refl _)
  unfold valP
  rw [Bool.and_eq_true]
  have hall : ∀ c ∈ Lib.decDigits n, 48 ≤ c.toNat ∧ c.toNat ≤ 57 := fun c hc => by
    have := List.all_eq_true.1 h c hc
    simpa only [Bool.and_eq_true, decide_eq_true_iff] using this
  have hnb : ∀ c ∈ Lib.decDigits n, blankB c = false := fun c hc => by
    have := hall c hc
    unfold blankB
    rw [decide_eq_false (by omega), decide_eq_false (by omega)]
    rfl
  refine ⟨List.all_eq_true.2 (fun c hc => ?_), ?_⟩
  · have := hall c hc
    unfold isVal
    rw [decide_eq_true (show 32 ≤ c.toNat by omega), decide_eq_true (show c.toNat ≤ 126 by omega)]
    rfl
  · cases hd : Lib.decDigits n with
    | nil => rfl
    | cons a r =>
      rw [hd] at hnb
      unfold endsP
      simp only
      rw [hnb a (List.mem_cons_self ..), hnb _ (List.getElem_mem _)]
      rfl
/-! ### a whole message -/
/-- The lines of a written head. -/
def linesH (line : List UInt8) (l : List S59) (n : Nat) : List (List UInt8) := line :: (l.map hLine ++ [clLine n])
theorem hLine_list (h : S59) : (hdT h).data.toList = hLine h ++ [13, 10] := by
  rw [hdT_list]
  unfold hLine lineH
  simp
theorem head_is (line : ByteArray) (l : List S59) (body : ByteArray) : headT line l body = joinL (linesH line.data.toList l body.size) ++ crlf2 := by
  unfold headT linesH
  rw [joinL_cons _ _ (by simp), joinL_snoc]
  have e1 : hdsL l = (l.map hLine).flatMap fun x => x ++ [13, 10] := by
    unfold hdsL
    rw [List.flatMap_map]
    congr 1
    funext h
    exact hLine_list h
  have e2 : (lenT body).data.toList = clLine body.size ++ crlf2 := by
    unfold lenT clLine lineH
    simp only [ByteArray.data_append, Array.toList_append]
    have : (itoaN (body.size : Int)).data.toList = Lib.decDigits body.size := by
      unfold itoaN Lib.itoa
      rw [if_neg (by omega)]
      rfl
    rw [this]
    simp [clName]
  rw [e1, e2]
  simp only [ByteArray.data_append, Array.toList_append]
  simp
theorem lines_ok {line : List UInt8} {l : List S59} (n : Nat) (h0 : line ≠ [] ∧ noCR line = true) (hl : l.all okHd = true) : ∀ x ∈ linesH line l n, x ≠ [] ∧ noCR x = true := by
  intro x hx
  unfold linesH at hx
  rw [List.mem_cons, List.mem_append, List.mem_singleton] at hx
  have hline : ∀ a b : List UInt8, a.all isTok = true → b.all isVal = true → lineH a b ≠ [] ∧ noCR (lineH a b) = true := fun a b ha hb => by
    refine ⟨by unfold lineH; simp, ?_⟩
    unfold lineH
    rw [noCR_app, (tok_noCR a ha).1, noCR_cons, noCR_cons, val_noCR b hb]
    rfl
  rcases hx with rfl | hx | rfl
  · exact h0
  · obtain ⟨h, hm, rfl⟩ := List.mem_map.1 hx
    obtain ⟨k1, _, _, _, k5⟩ := okHd_parts (List.all_eq_true.1 hl h hm)
    unfold tokP at k1
    unfold valP at k5
    rw [Bool.and_eq_true] at k1 k5
    exact hline _ _ k1.2 k5.1
  · have k5 := dec_valP n
    unfold valP at k5
    rw [Bool.and_eq_true] at k5
    exact hline _ _ (by decide) k5.1
theorem runH_all {l : List S59} (hl : l.all okHd = true) {n : Nat} (hn : n ≤ 65536) : runH (l.map hLine ++ [clLine n]) ([], 0, false) = some (l, n, true) := by
  rw [runH_app, runH_lines l [] 0 false hl, Option.bind_some, List.nil_append]
  simp only [runH]
  rw [show clLine n = lineH clName (Lib.decDigits n) from rfl, stepH_line (by decide) (dec_valP n), if_pos (by decide), if_neg (by simp), lenR_dec hn]
  rfl
/-- What was written is read as itself, and of what is cut it is told that more is wanted. -/
theorem back_read (p : List UInt8 → Bool) (line : ByteArray) (l : List S59) (body : ByteArray) (h0 : line.data.toList ≠ [] ∧ noCR line.data.toList = true) (hp : p line.data.toList = true) (s : ByteArray) (hw : writeN line l body = (s, 0)) :
    s.size = (headT line l body).length + body.size ∧ (∀ more : List UInt8, readL p (s.data.toList ++ more) = .ok (l, body.data.toList, s.size) ∧ lineOf (s.data.toList ++ more) = line.data.toList) ∧ (∀ c, c < s.size → readL p (s.data.toList.take c) = .error 290) := by
  unfold writeN at hw
  split at hw
  case isFalse => exact absurd (congrArg Prod.snd hw) (by simp)
  case isTrue hc =>
  simp only [Bool.and_eq_true, decide_eq_true_iff] at hc
  obtain ⟨⟨⟨c1, c2⟩, c3⟩, c4⟩ := hc
  have hs : s = bs (headT line l body) ++ body := (congrArg Prod.fst hw).symm
  obtain ⟨ls, hls⟩ : ∃ ls, ls = linesH line.data.toList l body.size := ⟨_, rfl⟩
  have hok := lines_ok body.size h0 c3
  have hH := head_is line l body
  rw [← hls] at hok hH
  have hne : ls ≠ [] := by rw [hls]; unfold linesH; simp
  have hHl : (headT line l body).length = (joinL ls).length + 4 := by rw [hH, List.length_append]; rfl
  have hsl : s.data.toList = joinL ls ++ (crlf2 ++ body.data.toList) := by
    rw [hs, ap_l, bs_list, hH, List.append_assoc]
  have hsz : s.size = (headT line l body).length + body.size := by
    have h1 : s.data.toList.length = (joinL ls).length + (4 + body.data.toList.length) := by rw [hsl, List.length_append, List.length_append]; rfl
    have e1 : s.data.toList.length = s.size := by rw [Array.length_toList]; rfl
    have e2 : body.data.toList.length = body.size := by rw [Array.length_toList]; rfl
    omega
  have hpl : partsL [13, 10] (joinL ls).length (joinL ls) = ls := parts_join ls _ hne (fun x hx => (hok x hx).2) (Nat.le_refl _)
  have hkk : okHead p line.data.toList (l.map hLine ++ [clLine body.size]) = true := by
    unfold okHead
    rw [hp, Bool.and_true, Bool.and_eq_true, decide_eq_true_iff]
    refine ⟨List.all_eq_true.2 (fun x hx => (hok x (by rw [hls]; exact hx)).2), by simp; omega⟩
  have hrun := runH_all c3 c2
  have hb : body.data.toList.length = body.size := by rw [Array.length_toList]; rfl
  have found : ∀ r : List UInt8, headOf (joinL ls ++ (crlf2 ++ r)) = ((joinL ls), (headOf (joinL ls ++ (crlf2 ++ r))).2.1, true) := fun r => by
    obtain ⟨e1, e2⟩ := head_join ls r hne hok (by omega)
    exact Prod.ext e1 (Prod.ext rfl e2)
  have hread : ∀ r : List UInt8, readL p (joinL ls ++ (crlf2 ++ r)) = if r.length < body.size then .error 290 else .ok (l, r.take body.size, s.size) := fun r => by
    have hf := found r
    have e1 : (headOf (joinL ls ++ (crlf2 ++ r))).1 = joinL ls := by rw [hf]
    have e2 : (headOf (joinL ls ++ (crlf2 ++ r))).2.2 = true := by rw [hf]
    have hpp : partsL [13, 10] (headOf (joinL ls ++ (crlf2 ++ r))).1.length (headOf (joinL ls ++ (crlf2 ++ r))).1 = line.data.toList :: (l.map hLine ++ [clLine body.size]) := by rw [e1, hpl, hls]; rfl
    rw [read_form p _ _ _ e2 hpp, if_pos hkk, hrun]
    unfold finL
    simp only
    rw [e1, if_neg (by omega)]
    have hlen : (joinL ls ++ (crlf2 ++ r)).length = (joinL ls).length + 4 + r.length := by simp; omega
    rw [hlen]
    have hd : (joinL ls ++ (crlf2 ++ r)).drop ((joinL ls).length + 4) = r := by
      rw [← List.drop_drop, List.drop_left]
      rfl
    by_cases h : r.length < body.size
    · rw [if_pos (by omega), if_pos h]
    · rw [if_neg (by omega), if_neg h, hd, hsz, hHl]
  refine ⟨hsz, fun more => ⟨?_, ?_⟩, fun c hc => ?_⟩
  · rw [hsl, List.append_assoc, List.append_assoc, hread, if_neg (by rw [List.length_append]; omega), ← hb, List.take_left]
  · rw [hsl, List.append_assoc, List.append_assoc]
    unfold lineOf linesOf
    rw [found, hpl, hls]
    rfl
  · by_cases h : c < (joinL ls).length + 4
    · rw [hsl, read_none p _ (head_cut ls body.data.toList hne hok c h), if_pos (by rw [List.length_take]; omega)]
    · have e : s.data.toList.take c = joinL ls ++ (crlf2 ++ body.data.toList.take (c - ((joinL ls).length + 4))) := by
        have h4 : crlf2.length = 4 := rfl
        rw [hsl, List.take_append, List.take_append, List.take_of_length_le (by omega), List.take_of_length_le (by rw [h4]; omega), h4]
        congr 3
      rw [e, hread, if_pos (by rw [List.length_take]; omega)]
end Go.Proofs.YtddjhmelniphgaaGreatDoor.Print
end
section
/- What was written is read as itself: requests, responses. -/
namespace Go.Proofs.YtddjhmelniphgaaGreatDoor.Print
open Go.RowKit Go.Proofs.YtddjhmelniphgaaGreatDoorW.PrintWords Go.Proofs.YtddjhmelniphgaaGreatDoorW.PrintLast
set_option linter.unusedVariables false
set_option linter.unusedSimpArgs false
/-! ### a request's first line -/
theorem sp_noCR (a b : List UInt8) (ha : noCR a = true) (hb : noCR b = true) : noCR (a ++ 32 :: b) = true := by
  rw [noCR_app, ha, noCR_cons, hb]
  rfl
theorem req_line (m t : ByteArray) (h : (tokenB m && targetB t) = true) : (m ++ (⟨#[32]⟩ : ByteArray) ++ t ++ (⟨#[32, 72, 84, 84, 80, 47, 49, 46, 49]⟩ : ByteArray)).data.toList ≠ [] ∧ noCR (m ++ (⟨#[32]⟩ : ByteArray) ++ t ++ (⟨#[32, 72, 84, 84, 80, 47, 49, 46, 49]⟩ : ByteArray)).data.toList = true ∧
    reqB (m ++ (⟨#[32]⟩ : ByteArray) ++ t ++ (⟨#[32, 72, 84, 84, 80, 47, 49, 46, 49]⟩ : ByteArray)).data.toList = true ∧ reqM (m ++ (⟨#[32]⟩ : ByteArray) ++ t ++ (⟨#[32, 72, 84, 84, 80, 47, 49, 46, 49]⟩ : ByteArray)).data.toList = m.data.toList ∧ reqT (m ++ (⟨#[32]⟩ : ByteArray) ++ t ++ (⟨#[32, 72, 84, 84, 80, 47, 49, 46, 49]⟩ : ByteArray)).data.toList = t.data.toList := by
  have e : (m ++ (⟨#[32]⟩ : ByteArray) ++ t ++ (⟨#[32, 72, 84, 84, 80, 47, 49, 46, 49]⟩ : ByteArray)).data.toList = m.data.toList ++ 32 :: (t.data.toList ++ 32 :: [72, 84, 84, 80, 47, 49, 46, 49]) := by
    simp only [ByteArray.data_append, Array.toList_append]
    simp
  rw [e]
  rw [Bool.and_eq_true] at h
  have h1 : tokP m.data.toList = true := (tokenB_P m.data.toList).symm.trans h.1
  have h2 : tgtOk t.data.toList = true := (targetB_P t.data.toList).symm.trans h.2
  generalize m.data.toList = a at *
  generalize t.data.toList = b at *
  have k1 := h1
  have k2 := h2
  unfold tokP at k1
  unfold tgtOk at k2
  rw [Bool.and_eq_true] at k1 k2
  obtain ⟨n1, _, n3⟩ := tok_noCR a k1.2
  obtain ⟨n4, n5⟩ := tgt_noCR b k2.1
  have c1 := cutB_at 32 (b ++ 32 :: [72, 84, 84, 80, 47, 49, 46, 49]) a n3
  have c2 := cutB_at 32 [72, 84, 84, 80, 47, 49, 46, 49] b n5
  have m1 : reqM (a ++ 32 :: (b ++ 32 :: [72, 84, 84, 80, 47, 49, 46, 49])) = a := by unfold reqM; rw [cutB_eq, c1]
  have m2 : reqT (a ++ 32 :: (b ++ 32 :: [72, 84, 84, 80, 47, 49, 46, 49])) = b := by unfold reqT; rw [cutB_eq, cutB_eq, c1, c2]
  have m3 : reqV (a ++ 32 :: (b ++ 32 :: [72, 84, 84, 80, 47, 49, 46, 49])) = [72, 84, 84, 80, 47, 49, 46, 49] := by unfold reqV; rw [cutB_eq, cutB_eq, c1, c2]
  refine ⟨by simp, sp_noCR _ _ n1 (sp_noCR _ _ n4 (by decide)), ?_, m1, m2⟩
  unfold reqB
  rw [m1, m2, m3, tokenB_P, targetB_P, h1, h2, toL]
  rfl
theorem req_back (m t : ByteArray) (l : List S59) (body s : ByteArray) (h : askN m t l body = (s, 0)) : (∀ more : ByteArray, reqR (s ++ more).data.toList = (m, t, l, body, (s.size : Int), 0)) ∧
    (∀ c, c < s.size → reqR (s.extract 0 c).data.toList = (ByteArray.empty, ByteArray.empty, [], ByteArray.empty, 0, 290)) := by
  unfold askN at h
  split at h
  case isFalse => exact absurd (congrArg Prod.snd h) (by simp)
  case isTrue hc =>
  obtain ⟨r1, r2, r3, r4, r5⟩ := req_line m t hc
  obtain ⟨hsz, b1, b2⟩ := back_read reqB _ l body ⟨r1, r2⟩ r3 s h
  constructor
  · intro more
    obtain ⟨e1, e2⟩ := b1 more.data.toList
    have ea : (s ++ more).data.toList = s.data.toList ++ more.data.toList := by rw [ByteArray.data_append, Array.toList_append]
    unfold reqR
    rw [ea, e1]
    simp only
    rw [e2, r4, r5]
    rfl
  · intro c hc
    have e : (s.extract 0 c).data.toList = s.data.toList.take c := by
      rw [of_toL s, ext_to, bs_list, bs_list]
    unfold reqR
    rw [e, b2 c hc]
/-! ### a response's first line -/
theorem reason_val (x : Int) : valP (reasonT x).data.toList = true := by
  unfold reasonT
  cases h : reasonRows.find? fun p => p.1 == x with
  | none => rfl
  | some p =>
    have hm := List.mem_of_find?_eq_some h
    have : ∀ q ∈ reasonRows, valP q.2.data.toList = true := by decide +kernel
    exact this p hm
theorem dec3 (n : Nat) (h1 : 100 ≤ n) (h2 : n ≤ 599) : ∃ a b c : UInt8, Lib.decDigits n = [a, b, c] ∧ 49 ≤ a.toNat ∧ a.toNat ≤ 53 ∧ dig b = true ∧ dig c = true ∧ (a.toNat - 48) * 100 + (b.toNat - 48) * 10 + (c.toNat - 48) = n := by
  have e1 := dec_step (a := n / 10) (d := n % 10) (by omega) (by omega)
  rw [show n / 10 * 10 + n % 10 = n by omega] at e1
  have e2 := dec_step (a := n / 10 / 10) (d := n / 10 % 10) (by omega) (by omega)
  rw [show n / 10 / 10 * 10 + n / 10 % 10 = n / 10 by omega] at e2
  have e3 := Lib.decDigits_one (i := n / 10 / 10) (by omega)
  have t1 : (UInt8.ofNat (48 + n / 10 / 10)).toNat = 48 + n / 10 / 10 := by rw [UInt8.toNat_ofNat']; omega
  have t2 : (UInt8.ofNat (48 + n / 10 % 10)).toNat = 48 + n / 10 % 10 := by rw [UInt8.toNat_ofNat']; omega
  have t3 : (UInt8.ofNat (48 + n % 10)).toNat = 48 + n % 10 := by rw [UInt8.toNat_ofNat']; omega
  refine ⟨UInt8.ofNat (48 + n / 10 / 10), UInt8.ofNat (48 + n / 10 % 10), UInt8.ofNat (48 + n % 10), by rw [e1, e2, e3]; rfl, by omega, by omega, ?_, ?_, by omega⟩
  · unfold dig; rw [decide_eq_true (by omega), decide_eq_true (by omega)]; rfl
  · unfold dig; rw [decide_eq_true (by omega), decide_eq_true (by omega)]; rfl
theorem say_line (c : Int) (h1 : 100 ≤ c) (h2 : c ≤ 599) : (lineT c).data.toList ≠ [] ∧ noCR (lineT c).data.toList = true ∧ tldB (lineT c).data.toList = true ∧ ((puV 16 (tldC (lineT c).data.toList) : Nat) : Int) = c := by
  obtain ⟨a, b, d, e, ha, ha2, hb, hd, hv⟩ := dec3 c.toNat (by omega) (by omega)
  have hi : (itoaN c).data.toList = [a, b, d] := by
    unfold itoaN Lib.itoa
    rw [if_neg (by omega), e]
  have el : (lineT c).data.toList = pre9 ++ a :: b :: d :: 32 :: (reasonT c).data.toList := by
    unfold lineT
    simp only [ByteArray.data_append, Array.toList_append, hi]
    simp [pre9]
  have hr := reason_val c
  have hP : tldP a b d 32 (reasonT c).data.toList = true := by
    unfold tldP
    rw [hr, hb, hd, decide_eq_true ha, decide_eq_true ha2]
    rfl
  have hf := tld_full a b d 32 (reasonT c).data.toList
  rw [← el, if_pos hP] at hf
  have hB : tldB (lineT c).data.toList = true := by
    cases hx : tldB (lineT c).data.toList with
    | true => rfl
    | false => rw [hx] at hf; simp only [Bool.false_eq_true, if_false] at hf; omega
  rw [hB, if_pos rfl] at hf
  refine ⟨by rw [el]; simp, ?_, hB, by omega⟩
  have hr2 := hr
  unfold valP at hr2
  rw [Bool.and_eq_true] at hr2
  have hne : ∀ x : UInt8, (49 ≤ x.toNat ∧ x.toNat ≤ 53) ∨ dig x = true → (x == 13) = false ∧ (x == 10) = false := fun x hx => by
    have : 48 ≤ x.toNat := by
      rcases hx with hx | hx
      · omega
      · unfold dig at hx; simp only [Bool.and_eq_true, decide_eq_true_iff] at hx; omega
    refine ⟨beq_eq_false_iff_ne.2 (fun e => ?_), beq_eq_false_iff_ne.2 (fun e => ?_)⟩
    · rw [e] at this; exact absurd this (by decide)
    · rw [e] at this; exact absurd this (by decide)
  obtain ⟨a1, a2⟩ := hne a (.inl ⟨ha, ha2⟩)
  obtain ⟨b1, b2⟩ := hne b (.inr hb)
  obtain ⟨d1, d2⟩ := hne d (.inr hd)
  rw [el, noCR_app, noCR_cons, noCR_cons, noCR_cons, noCR_cons, val_noCR _ hr2.1, a1, a2, b1, b2, d1, d2]
  rfl
theorem say_back (c : Int) (l : List S59) (body s : ByteArray) (h : sayN c l body = (s, 0)) : (∀ more : ByteArray, tldRes (s ++ more).data.toList = (c, l, body, (s.size : Int), 0)) ∧
    (∀ k, k < s.size → tldRes (s.extract 0 k).data.toList = (0, [], ByteArray.empty, 0, 290)) := by
  unfold sayN at h
  split at h
  case isFalse => exact absurd (congrArg Prod.snd h) (by simp)
  case isTrue hc =>
  obtain ⟨r1, r2, r3, r4⟩ := say_line c hc.1 hc.2
  obtain ⟨hsz, b1, b2⟩ := back_read tldB _ l body ⟨r1, r2⟩ r3 s h
  constructor
  · intro more
    obtain ⟨e1, e2⟩ := b1 more.data.toList
    have ea : (s ++ more).data.toList = s.data.toList ++ more.data.toList := by rw [ByteArray.data_append, Array.toList_append]
    unfold tldRes
    rw [ea, e1]
    simp only
    rw [e2, r4]
    rfl
  · intro k hk
    have e : (s.extract 0 k).data.toList = s.data.toList.take k := by
      rw [of_toL s, ext_to, bs_list, bs_list]
    unfold tldRes
    rw [e, b2 k hk]
/-! ### the law -/
theorem write_le (line : ByteArray) (l : List S59) (body s : ByteArray) (h : writeN line l body = (s, 0)) : s.size ≤ 131072 := by
  unfold writeN at h
  split at h
  case isFalse => exact absurd (congrArg Prod.snd h) (by simp)
  case isTrue hc =>
  simp only [Bool.and_eq_true, decide_eq_true_iff] at hc
  have e := (congrArg Prod.fst h).symm
  simp only at e
  rw [e, ByteArray.size_append]
  have : (⟨(headT line l body).toArray⟩ : ByteArray).size = (headT line l body).length := rfl
  omega
theorem ask_le (m t : ByteArray) (l : List S59) (body s : ByteArray) (h : askN m t l body = (s, 0)) : s.size ≤ 131072 := by
  unfold askN at h
  split at h
  · exact write_le _ _ _ _ h
  · exact absurd (congrArg Prod.snd h) (by simp)
theorem say_le (c : Int) (l : List S59) (body s : ByteArray) (h : sayN c l body = (s, 0)) : s.size ≤ 131072 := by
  unfold sayN at h
  split at h
  · exact write_le _ _ _ _ h
  · exact absurd (congrArg Prod.snd h) (by simp)
theorem cut_at (at_ n : Nat) (hn : 0 < n) (h : n ≤ 131072) (ha : at_ ≤ 65535) : (Int.tmod (wrap64 (at_ : Int)) (n : Int)) = ((at_ % n : Nat) : Int) := by
  rw [w64 (by omega)]
  exact (Int.ofNat_tmod at_ n).symm
end Go.Proofs.YtddjhmelniphgaaGreatDoor.Print
end
