/- What was written is read as itself: in plain words. -/
import Derived.Test.YtddjhmelniphgaaGreatDoorQTP
namespace Go.Proofs.YtddjhmelniphgaaGreatDoor.Print
open Go.RowKit Go.Proofs.YtddjhmelniphgaaGreatDoorW.PrintWords Go.Proofs.YtddjhmelniphgaaGreatDoorW.PrintLast
set_option linter.unusedVariables false
set_option linter.unusedSimpArgs false
/-! ### lines one behind the other -/
theorem noCR_cons (c : UInt8) (r : List UInt8) : noCR (c :: r) = (!(c == 13) && !(c == 10) && noCR r) := by unfold noCR; rw [List.all_cons]
theorem noCR_app (a b : List UInt8) : noCR (a ++ b) = (noCR a && noCR b) := by unfold noCR; rw [List.all_append]
theorem idx_pass (s' : List UInt8) (Y : List UInt8) : ∀ x : List UInt8, noCR x = true → Lib.index (x ++ Y) (13 :: s') = if Lib.index Y (13 :: s') = -1 then -1 else (x.length : Int) + Lib.index Y (13 :: s')
  | [], _ => by
    have := Lib.index_ge Y (13 :: s')
    rw [List.nil_append, List.length_nil]
    split <;> omega
  | c :: r, h => by
    rw [noCR_cons, Bool.and_eq_true, Bool.and_eq_true, Bool.not_eq_true', beq_eq_false_iff_ne] at h
    have ih := idx_pass s' Y r h.2
    have hg := Lib.index_ge Y (13 :: s')
    have hp : (13 :: s').isPrefixOf (c :: (r ++ Y)) = false := by
      simp only [List.isPrefixOf, Bool.and_eq_false_iff, beq_eq_false_iff_ne]
      exact .inl (fun e => h.1.1 e.symm)
    rw [List.cons_append, Lib.index, hp, ih, List.length_cons]
    simp only [Bool.false_eq_true, if_false]
    by_cases hY : Lib.index Y (13 :: s') = -1
    · simp [hY]
    · rw [if_neg hY, if_neg hY, if_neg (by simp only [beq_iff_eq]; omega)]
      omega
def joinL : List (List UInt8) → List UInt8
  | [] => []
  | [x] => x
  | x :: y :: r => x ++ 13 :: 10 :: joinL (y :: r)
theorem joinL_cons (x : List UInt8) (ls : List (List UInt8)) (h : ls ≠ []) : joinL (x :: ls) = x ++ 13 :: 10 :: joinL ls := by
  cases ls with
  | nil => exact absurd rfl h
  | cons y r => rfl
theorem joinL_snoc (c : List UInt8) : ∀ hl : List (List UInt8), joinL (hl ++ [c]) = (hl.flatMap fun x => x ++ [13, 10]) ++ c
  | [] => rfl
  | x :: r => by
    rw [List.cons_append, joinL_cons x _ (by simp), joinL_snoc c r, List.flatMap_cons]
    simp
theorem joinL_head {ls : List (List UInt8)} (h1 : ls ≠ []) (h2 : ∀ x ∈ ls, x ≠ [] ∧ noCR x = true) (Y : List UInt8) : ∃ c r, joinL ls ++ Y = c :: r ∧ c ≠ 13 := by
  cases ls with
  | nil => exact absurd rfl h1
  | cons x t =>
    obtain ⟨hx, hn⟩ := h2 x (List.mem_cons_self ..)
    cases x with
    | nil => exact absurd rfl hx
    | cons c r =>
      have hc : c ≠ 13 := by
        rw [noCR_cons, Bool.and_eq_true, Bool.and_eq_true, Bool.not_eq_true', beq_eq_false_iff_ne] at hn
        exact hn.1.1
      cases t with
      | nil => exact ⟨c, _, rfl, hc⟩
      | cons y q => exact ⟨c, _, rfl, hc⟩
/-- The first place where a head ends. -/
theorem idx_join (rest : List UInt8) : ∀ ls : List (List UInt8), ls ≠ [] → (∀ x ∈ ls, x ≠ [] ∧ noCR x = true) → Lib.index (joinL ls ++ (crlf2 ++ rest)) crlf2 = ((joinL ls).length : Int)
  | [], h, _ => absurd rfl h
  | [x], _, h => by
    have h0 : Lib.index (crlf2 ++ rest) crlf2 = 0 := by
      show Lib.index (13 :: 10 :: 13 :: 10 :: rest) crlf2 = 0
      rw [Lib.index]
      simp [List.isPrefixOf]
    show Lib.index (x ++ (crlf2 ++ rest)) (13 :: [10, 13, 10]) = _
    rw [idx_pass _ _ x (h x (List.mem_cons_self ..)).2, show (13 :: [10, 13, 10] : List UInt8) = crlf2 from rfl, h0, if_neg (by decide)]
    show (x.length : Int) + 0 = (x.length : Int)
    omega
  | x :: y :: r, _, h => by
    have ih := idx_join rest (y :: r) (by simp) (fun z hz => h z (List.mem_cons_of_mem _ hz))
    obtain ⟨c, q, hq, hc⟩ := joinL_head (ls := y :: r) (by simp) (fun z hz => h z (List.mem_cons_of_mem _ hz)) (crlf2 ++ rest)
    have e : joinL (x :: y :: r) ++ (crlf2 ++ rest) = x ++ (13 :: 10 :: (joinL (y :: r) ++ (crlf2 ++ rest))) := by simp [joinL]
    have h2 : Lib.index (13 :: 10 :: (joinL (y :: r) ++ (crlf2 ++ rest))) crlf2 = ((joinL (y :: r)).length : Int) + 2 := by
      have p1 : crlf2.isPrefixOf (13 :: 10 :: (joinL (y :: r) ++ (crlf2 ++ rest))) = false := by
        rw [hq]
        simp only [crlf2, List.isPrefixOf, Bool.and_eq_false_iff, beq_eq_false_iff_ne]
        exact .inr (.inr (.inl (fun e => hc e.symm)))
      have p2 : crlf2.isPrefixOf (10 :: (joinL (y :: r) ++ (crlf2 ++ rest))) = false := rfl
      rw [Lib.index, p1, Lib.index, p2, ih]
      simp only [Bool.false_eq_true, if_false]
      rw [if_neg (by simp only [beq_iff_eq]; omega), if_neg (by simp only [beq_iff_eq]; omega)]
      omega
    rw [e]
    show Lib.index _ (13 :: [10, 13, 10]) = _
    rw [idx_pass _ _ x (h x (List.mem_cons_self ..)).2, show (13 :: [10, 13, 10] : List UInt8) = crlf2 from rfl, h2, if_neg (by omega)]
    have : (joinL (x :: y :: r)).length = x.length + 2 + (joinL (y :: r)).length := by simp [joinL]; omega
    rw [this]
    omega
theorem cut_pass (x Y : List UInt8) (hx : noCR x = true) : Lib.cut (x ++ 13 :: 10 :: Y) [13, 10] = (x, Y, true) := by
  have h0 : Lib.index (13 :: 10 :: Y) [13, 10] = 0 := by rw [Lib.index]; simp [List.isPrefixOf]
  have h1 := idx_pass [10] (13 :: 10 :: Y) x hx
  rw [h0, if_neg (by decide)] at h1
  unfold Lib.cut
  have e : (13 :: [10] : List UInt8) = [13, 10] := rfl
  rw [e] at h1
  rw [h1, if_pos (by omega)]
  have e2 : ((x.length : Int) + 0).toNat = x.length := by omega
  rw [e2, List.take_left]
  have e3 : (x ++ 13 :: 10 :: Y).drop (x.length + [13, 10].length) = Y := by
    rw [← List.drop_drop, List.drop_left]
    rfl
  exact congrArg (fun z => (x, z, true)) e3
theorem cut_end (x : List UInt8) (hx : noCR x = true) : (Lib.cut x [13, 10]).2.2 = false := by
  have h1 := idx_pass [10] [] x hx
  rw [List.append_nil] at h1
  have h0 : Lib.index [] (13 :: [10]) = -1 := rfl
  rw [h0, if_pos rfl] at h1
  unfold Lib.cut
  rw [show ([13, 10] : List UInt8) = 13 :: [10] from rfl, h1]
  rfl
theorem parts_join : ∀ (ls : List (List UInt8)) (f : Nat), ls ≠ [] → (∀ x ∈ ls, noCR x = true) → (joinL ls).length ≤ f → partsL [13, 10] f (joinL ls) = ls
  | [], _, h, _, _ => absurd rfl h
  | [x], f, _, h, _ => by
    cases f with
    | zero => rfl
    | succ f =>
      have hx := cut_end x (h x (List.mem_cons_self ..))
      show partsL [13, 10] (f + 1) x = [x]
      simp only [partsL]
      rw [if_neg (by rw [hx]; decide)]
  | x :: y :: r, f, _, h, hf => by
    have hl : (joinL (x :: y :: r)).length = x.length + 2 + (joinL (y :: r)).length := by simp [joinL]; omega
    obtain ⟨f, rfl⟩ : ∃ m, f = m + 1 := ⟨f - 1, by omega⟩
    have hc : Lib.cut (joinL (x :: y :: r)) [13, 10] = (x, joinL (y :: r), true) := cut_pass x _ (h x (List.mem_cons_self ..))
    simp only [partsL]
    rw [hc, if_pos rfl, parts_join (y :: r) f (by simp) (fun z hz => h z (List.mem_cons_of_mem _ hz)) (by omega)]
/-- A head of lines, with anything behind it. -/
theorem head_join (ls : List (List UInt8)) (rest : List UInt8) (h1 : ls ≠ []) (h2 : ∀ x ∈ ls, x ≠ [] ∧ noCR x = true) (h3 : (joinL ls).length + 4 ≤ 8192) :
    (headOf (joinL ls ++ (crlf2 ++ rest))).1 = joinL ls ∧ (headOf (joinL ls ++ (crlf2 ++ rest))).2.2 = true := by
  have e : (joinL ls ++ (crlf2 ++ rest)).take 8192 = joinL ls ++ (crlf2 ++ rest.take (8192 - (joinL ls).length - 4)) := by
    have h4 : crlf2.length = 4 := rfl
    rw [List.take_append, List.take_append, List.take_of_length_le (by omega), List.take_of_length_le (by rw [h4]; omega), h4]
  unfold headOf Lib.cut
  rw [e, show ([13, 10, 13, 10] : List UInt8) = crlf2 from rfl, idx_join _ ls h1 h2, if_pos (by omega), Int.toNat_natCast]
  exact ⟨List.take_left, rfl⟩
/-- A head that is cut ahead of its end. -/
theorem head_cut (ls : List (List UInt8)) (rest : List UInt8) (h1 : ls ≠ []) (h2 : ∀ x ∈ ls, x ≠ [] ∧ noCR x = true) (c : Nat) (hc : c < (joinL ls).length + 4) : (headOf ((joinL ls ++ (crlf2 ++ rest)).take c)).2.2 = false := by
  unfold headOf
  rw [show ([13, 10, 13, 10] : List UInt8) = crlf2 from rfl]
  rcases cut_cases (((joinL ls ++ (crlf2 ++ rest)).take c).take 8192) crlf2 (by simp) with ⟨e, _⟩ | ⟨a, b, e, e2, _⟩
  · rw [e]
  · exfalso
    have hlen := congrArg List.length e2
    simp only [List.length_append, List.length_take, List.length_cons, List.length_nil] at hlen
    rw [List.take_take] at e2
    have hX : joinL ls ++ (crlf2 ++ rest) = a ++ (crlf2 ++ (b ++ (joinL ls ++ (crlf2 ++ rest)).drop (min 8192 c))) := by
      conv => lhs; rw [← List.take_append_drop (min 8192 c) (joinL ls ++ (crlf2 ++ rest)), e2]
      simp
    have hi := idx_join rest ls h1 h2
    rcases Lib.index_spec (joinL ls ++ (crlf2 ++ rest)) crlf2 with ⟨k1, _⟩ | ⟨i, k1, k2, k3, k4⟩
    · omega
    · have hia : a.length < i := by omega
      have := k4 a.length hia
      unfold Lib.occAt at this
      rw [hX, List.drop_left] at this
      simp [List.isPrefixOf] at this
/-! ### what a written head holds -/
theorem tok_noCR : ∀ l : List UInt8, l.all isTok = true → noCR l = true ∧ (58 : UInt8) ∉ l ∧ (32 : UInt8) ∉ l
  | [], _ => ⟨rfl, by simp, by simp⟩
  | c :: r, h => by
    rw [List.all_cons, Bool.and_eq_true] at h
    obtain ⟨h1, h2, h3⟩ := tok_noCR r h.2
    have hc : ∀ b : Fin 256, isTok (UInt8.ofNat b.val) = true → UInt8.ofNat b.val ≠ 13 ∧ UInt8.ofNat b.val ≠ 10 ∧ UInt8.ofNat b.val ≠ 58 ∧ UInt8.ofNat b.val ≠ 32 := by decide +kernel
    have := hc ⟨c.toNat, UInt8.toNat_lt c⟩ (by simpa using h.1)
    simp only [UInt8.ofNat_toNat] at this
    refine ⟨?_, ?_, ?_⟩
    · rw [noCR_cons, h1, beq_eq_false_iff_ne.2 this.1, beq_eq_false_iff_ne.2 this.2.1]; rfl
    · simp [h2, Ne.symm this.2.2.1]
    · simp [h3, Ne.symm this.2.2.2]
theorem val_noCR : ∀ l : List UInt8, l.all isVal = true → noCR l = true
  | [], _ => rfl
  | c :: r, h => by
    rw [List.all_cons, Bool.and_eq_true] at h
    have hc : ∀ b : Fin 256, isVal (UInt8.ofNat b.val) = true → UInt8.ofNat b.val ≠ 13 ∧ UInt8.ofNat b.val ≠ 10 := by decide +kernel
    have := hc ⟨c.toNat, UInt8.toNat_lt c⟩ (by simpa using h.1)
    simp only [UInt8.ofNat_toNat] at this
    rw [noCR_cons, val_noCR r h.2, beq_eq_false_iff_ne.2 this.1, beq_eq_false_iff_ne.2 this.2]
    rfl
theorem tgt_noCR : ∀ l : List UInt8, l.all isTgt = true → noCR l = true ∧ (32 : UInt8) ∉ l
  | [], _ => ⟨rfl, by simp⟩
  | c :: r, h => by
    rw [List.all_cons, Bool.and_eq_true] at h
    obtain ⟨h1, h2⟩ := tgt_noCR r h.2
    have hc : ∀ b : Fin 256, isTgt (UInt8.ofNat b.val) = true → UInt8.ofNat b.val ≠ 13 ∧ UInt8.ofNat b.val ≠ 10 ∧ UInt8.ofNat b.val ≠ 32 := by decide +kernel
    have := hc ⟨c.toNat, UInt8.toNat_lt c⟩ (by simpa using h.1)
    simp only [UInt8.ofNat_toNat] at this
    exact ⟨by rw [noCR_cons, h1, beq_eq_false_iff_ne.2 this.1, beq_eq_false_iff_ne.2 this.2.1]; rfl, by simp [h2, Ne.symm this.2.2]⟩
theorem cutB_at (c : UInt8) (r : List UInt8) : ∀ a : List UInt8, c ∉ a → cutB c (a ++ c :: r) = (a, r, true)
  | [], _ => by simp [cutB]
  | x :: a, h => by
    have hx : ¬ x = c := fun e => h (by rw [e]; exact List.mem_cons_self ..)
    rw [List.cons_append, cutB, if_neg hx, cutB_at c r a (fun e => h (List.mem_cons_of_mem _ e))]
theorem cutB_no (c : UInt8) (a : List UInt8) (h : c ∉ a) : cutB c a = (a, [], false) := by
  cases hf : (cutB c a).2.2 with
  | false => exact (cutB_none c a hf).1
  | true =>
    have := (cutB_some c a hf).1
    exact absurd (by rw [this]; simp) h
/-- The line of a header. -/
def lineH (n v : List UInt8) : List UInt8 := n ++ 58 :: 32 :: v
theorem trim_ends_eq {v : List UInt8} (h : endsP v = true) : Lib.trimS v [32, 9] = v := by
  rw [← trim_ends, beq_iff_eq] at h
  exact h
theorem trim_blank (v : List UInt8) : Lib.trimS (32 :: v) [32, 9] = Lib.trimS v [32, 9] := by
  rw [trimS_eq, trimS_eq, trimR_cons]
  have hb : blankB 32 = true := by decide
  split
  · rename_i h; rw [h.1]
  · rw [List.dropWhile_cons, if_pos hb]
theorem lineH_is {n v : List UInt8} (hn : n.all isTok = true) (hv : endsP v = true) : hdName (lineH n v) = n ∧ hdVal (lineH n v) = bs v ∧ (Lib.cut (lineH n v) [58]).2.2 = true := by
  have hc := cutB_at 58 (32 :: v) n (tok_noCR n hn).2.1
  have e : cutB 58 (lineH n v) = (n, 32 :: v, true) := hc
  refine ⟨?_, ?_, ?_⟩
  · unfold hdName; rw [cutB_eq, e]
  · rw [hdVal_eq, e]
    simp only
    rw [trim_blank, trim_ends_eq hv]
  · rw [cutB_eq, e]
theorem stepH_line {n v : List UInt8} (hn : tokP n = true) (hv : valP v = true) (st : RS) : stepH (lineH n v) st = if lowA n = clName then (if st.2.2 = true then none else (lengthL v).map fun k => (st.1, k, true)) else if lowA n = teName then none else some (st.1 ++ [⟨bs (lowA n), bs v⟩], st.2.1, st.2.2) := by
  have hn2 := hn
  unfold tokP at hn2
  rw [Bool.and_eq_true] at hn2
  have hv2 := hv
  unfold valP at hv2
  rw [Bool.and_eq_true] at hv2
  obtain ⟨e1, e2, e3⟩ := lineH_is hn2.2 hv2.2
  have hok : hdOk (lineH n v) = true := by
    unfold hdOk
    rw [e1, e2, e3, tokenB_P, valueB_P, hn, hv]
    rfl
  unfold stepH
  rw [hok, e1, e2, bs_list, if_neg (by decide)]
def hLine (h : S59) : List UInt8 := lineH h.f0.data.toList h.f1.data.toList
theorem okHd_parts {h : S59} (hk : okHd h = true) : tokP h.f0.data.toList = true ∧ lowA h.f0.data.toList = h.f0.data.toList ∧ h.f0.data.toList ≠ clT ∧ h.f0.data.toList ≠ teT ∧ valP h.f1.data.toList = true := by
  rw [okHd_eq] at hk
  simp only [Bool.and_eq_true, beq_iff_eq, Bool.not_eq_true', beq_eq_false_iff_ne] at hk
  exact ⟨hk.1, hk.2.1, hk.2.2.1, hk.2.2.2.1, hk.2.2.2.2⟩
theorem runH_app : ∀ (a b : List (List UInt8)) (st : RS), runH (a ++ b) st = (runH a st).bind (runH b)
  | [], b, st => rfl
  | x :: a, b, st => by
    simp only [List.cons_append, runH]
    cases stepH x st with
    | none => rfl
    | some s => simp only [Option.bind_some]; exact runH_app a b s
theorem runH_lines : ∀ (l : List S59) (acc : List Hd) (n : Nat) (t : Bool), l.all okHd = true → runH (l.map hLine) (acc, n, t) = some (acc ++ l, n, t)
  | [], acc, n, t, _ => by simp [runH]
  | h :: r, acc, n, t, hk => by
    rw [List.all_cons, Bool.and_eq_true] at hk
    obtain ⟨k1, k2, k3, k4, k5⟩ := okHd_parts hk.1
    simp only [List.map_cons, runH]
    rw [show hLine h = lineH h.f0.data.toList h.f1.data.toList from rfl, stepH_line k1 k5, k2, if_neg (show ¬ h.f0.data.toList = clName from k3), if_neg (show ¬ h.f0.data.toList = teName from k4), Option.bind_some, runH_lines r _ n t hk.2]
    simp only [List.append_assoc]
    rfl
def clLine (n : Nat) : List UInt8 := lineH clName (Lib.decDigits n)
theorem dec_all : ∀ (f n : Nat), n ≤ f → (Lib.decDigits n).all (fun c => decide (48 ≤ c.toNat) && decide (c.toNat ≤ 57)) = true := by
  intro f
  induction f with
  | zero => intro n h; obtain rfl := Nat.le_zero.1 h; rw [Lib.decDigits_one (by decide)]; decide
  | succ f ih =>
    intro n h
    by_cases h10 : n < 10
    · rw [Lib.decDigits_one h10, List.all_cons, List.all_nil, Bool.and_true]
      have : (UInt8.ofNat (48 + n)).toNat = 48 + n := by rw [UInt8.toNat_ofNat']; omega
      rw [this, decide_eq_true (by omega), decide_eq_true (by omega)]
      rfl
    · have e := dec_step (a := n / 10) (d := n % 10) (by omega) (by omega)
      rw [show n / 10 * 10 + n % 10 = n by omega] at e
      rw [e, List.all_append, ih (n / 10) (by omega), List.all_cons, List.all_nil]
      have : (UInt8.ofNat (48 + n % 10)).toNat = 48 + n % 10 := by rw [UInt8.toNat_ofNat']; omega
      rw [this, decide_eq_true (by omega), decide_eq_true (by omega)]
      rfl
theorem digs_of_dec : ∀ (f n : Nat), n ≤ f → digsN 0 (Lib.decDigits n) = some n := by
  intro f
  induction f with
  | zero => intro n h; obtain rfl := Nat.le_zero.1 h; rw [Lib.decDigits_one (by decide)]; decide
  | succ f ih =>
    intro n h
    by_cases h10 : n < 10
    · rw [Lib.decDigits_one h10]
      have : (UInt8.ofNat (48 + n)).toNat = 48 + n := by rw [UInt8.toNat_ofNat']; omega
      simp only [digsN]
      rw [this, if_pos (by omega)]
      congr 1
      omega
    · have e := dec_step (a := n / 10) (d := n % 10) (by omega) (by omega)
      rw [show n / 10 * 10 + n % 10 = n by omega] at e
      have : (UInt8.ofNat (48 + n % 10)).toNat = 48 + n % 10 := by rw [UInt8.toNat_ofNat']; omega
      rw [e, digsN_snoc, ih (n / 10) (by omega), Option.bind_some, this, if_pos (by omega)]
      congr 1
      omega
theorem dec_ne (n : Nat) : Lib.decDigits n ≠ [] := by
  intro e
  have := digs_of_dec n n (Nat.le_refl _)
  have h2 := congrArg List.length e
  rw [Lib.decDigits_length] at h2
  unfold Lib.nDigits at h2
  split at h2 <;> simp at h2
theorem dec_len6 {n : Nat} (h : n ≤ 65536) : (Lib.decDigits n).length ≤ 6 := by
  rw [Lib.decDigits_length]
  rcases Nat.lt_or_ge n 10 with h1 | h1
  · rw [Lib.nDigits_small h1]; omega
  rw [Lib.nDigits_big (by omega)]
  rcases Nat.lt_or_ge (n / 10) 10 with h2 | h2
  · rw [Lib.nDigits_small h2]; omega
  rw [Lib.nDigits_big (by omega)]
  rcases Nat.lt_or_ge (n / 10 / 10) 10 with h3 | h3
  · rw [Lib.nDigits_small h3]; omega
  rw [Lib.nDigits_big (by omega)]
  rcases Nat.lt_or_ge (n / 10 / 10 / 10) 10 with h4 | h4
  · rw [Lib.nDigits_small h4]; omega
  rw [Lib.nDigits_big (by omega), Lib.nDigits_small (by omega)]
  omega
theorem lenR_dec {n : Nat} (h : n ≤ 65536) : lengthL (Lib.decDigits n) = some n := by
  rw [lengthL_eq]
  unfold lenR
  have hd := digs_of_dec n n (Nat.le_refl _)
  rw [if_neg, hd]
  rintro (h1 | h1 | ⟨h1, h2⟩)
  · exact dec_ne n h1
  · have := dec_len6 h; omega
  · rcases (dec_iff (dec_ne n) hd).1 rfl with h3 | h3
    · omega
    · exact h3 h2
theorem dec_valP (n : Nat) : valP (Lib.decDigits n) = true := by
  have h := dec_all n n (Nat.le_refl _)
  unfold valP
  rw [Bool.and_eq_true]
  have hall : ∀ c ∈ Lib.decDigits n, 48 ≤ c.toNat ∧ c.toNat ≤ 57 := fun c hc => by
    have := List.all_eq_true.1 h c hc
    simpa only [Bool.and_eq_true, decide_eq_true_iff] using this
  have hnb : ∀ c ∈ Lib.decDigits n, blankB c = false := fun c hc => by
    have := hall c hc
    unfold blankB
    rw [decide_eq_false (by omega), decide_eq_false (by omega)]
    rfl
  refine ⟨List.all_eq_true.2 (fun c hc => ?_), ?_⟩
  · have := hall c hc
    unfold isVal
    rw [decide_eq_true (show 32 ≤ c.toNat by omega), decide_eq_true (show c.toNat ≤ 126 by omega)]
    rfl
  · cases hd : Lib.decDigits n with
    | nil => rfl
    | cons a r =>
      rw [hd] at hnb
      unfold endsP
      simp only
      rw [hnb a (List.mem_cons_self ..), hnb _ (List.getElem_mem _)]
      rfl
/-! ### a whole message -/
/-- The lines of a written head. -/
def linesH (line : List UInt8) (l : List S59) (n : Nat) : List (List UInt8) := line :: (l.map hLine ++ [clLine n])
theorem hLine_list (h : S59) : (hdT h).data.toList = hLine h ++ [13, 10] := by
  rw [hdT_list]
  unfold hLine lineH
  simp
theorem head_is (line : ByteArray) (l : List S59) (body : ByteArray) : headT line l body = joinL (linesH line.data.toList l body.size) ++ crlf2 := by
  unfold headT linesH
  rw [joinL_cons _ _ (by simp), joinL_snoc]
  have e1 : hdsL l = (l.map hLine).flatMap fun x => x ++ [13, 10] := by
    unfold hdsL
    rw [List.flatMap_map]
    congr 1
    funext h
    exact hLine_list h
  have e2 : (lenT body).data.toList = clLine body.size ++ crlf2 := by
    unfold lenT clLine lineH
    simp only [ByteArray.data_append, Array.toList_append]
    have : (itoaN (body.size : Int)).data.toList = Lib.decDigits body.size := by
      unfold itoaN Lib.itoa
      rw [if_neg (by omega)]
      rfl
    rw [this]
    simp [clName]
  rw [e1, e2]
  simp only [ByteArray.data_append, Array.toList_append]
  simp
theorem lines_ok {line : List UInt8} {l : List S59} (n : Nat) (h0 : line ≠ [] ∧ noCR line = true) (hl : l.all okHd = true) : ∀ x ∈ linesH line l n, x ≠ [] ∧ noCR x = true := by
  intro x hx
  unfold linesH at hx
  rw [List.mem_cons, List.mem_append, List.mem_singleton] at hx
  have hline : ∀ a b : List UInt8, a.all isTok = true → b.all isVal = true → lineH a b ≠ [] ∧ noCR (lineH a b) = true := fun a b ha hb => by
    refine ⟨by unfold lineH; simp, ?_⟩
    unfold lineH
    rw [noCR_app, (tok_noCR a ha).1, noCR_cons, noCR_cons, val_noCR b hb]
    rfl
  rcases hx with rfl | hx | rfl
  · exact h0
  · obtain ⟨h, hm, rfl⟩ := List.mem_map.1 hx
    obtain ⟨k1, _, _, _, k5⟩ := okHd_parts (List.all_eq_true.1 hl h hm)
    unfold tokP at k1
    unfold valP at k5
    rw [Bool.and_eq_true] at k1 k5
    exact hline _ _ k1.2 k5.1
  · have k5 := dec_valP n
    unfold valP at k5
    rw [Bool.and_eq_true] at k5
    exact hline _ _ (by decide) k5.1
theorem runH_all {l : List S59} (hl : l.all okHd = true) {n : Nat} (hn : n ≤ 65536) : runH (l.map hLine ++ [clLine n]) ([], 0, false) = some (l, n, true) := by
  rw [runH_app, runH_lines l [] 0 false hl, Option.bind_some, List.nil_append]
  simp only [runH]
  rw [show clLine n = lineH clName (Lib.decDigits n) from rfl, stepH_line (by decide) (dec_valP n), if_pos (by decide), if_neg (by simp), lenR_dec hn]
  rfl
/-- What was written is read as itself, and of what is cut it is told that more is wanted. -/
theorem back_read (p : List UInt8 → Bool) (line : ByteArray) (l : List S59) (body : ByteArray) (h0 : line.data.toList ≠ [] ∧ noCR line.data.toList = true) (hp : p line.data.toList = true) (s : ByteArray) (hw : writeN line l body = (s, 0)) :
    s.size = (headT line l body).length + body.size ∧ (∀ more : List UInt8, readL p (s.data.toList ++ more) = .ok (l, body.data.toList, s.size) ∧ lineOf (s.data.toList ++ more) = line.data.toList) ∧ (∀ c, c < s.size → readL p (s.data.toList.take c) = .error 290) := by
  unfold writeN at hw
  split at hw
  case isFalse => exact absurd (congrArg Prod.snd hw) (by simp)
  case isTrue hc =>
  simp only [Bool.and_eq_true, decide_eq_true_iff] at hc
  obtain ⟨⟨⟨c1, c2⟩, c3⟩, c4⟩ := hc
  have hs : s = bs (headT line l body) ++ body := (congrArg Prod.fst hw).symm
  obtain ⟨ls, hls⟩ : ∃ ls, ls = linesH line.data.toList l body.size := ⟨_, rfl⟩
  have hok := lines_ok body.size h0 c3
  have hH := head_is line l body
  rw [← hls] at hok hH
  have hne : ls ≠ [] := by rw [hls]; unfold linesH; simp
  have hHl : (headT line l body).length = (joinL ls).length + 4 := by rw [hH, List.length_append]; rfl
  have hsl : s.data.toList = joinL ls ++ (crlf2 ++ body.data.toList) := by
    rw [hs, ap_l, bs_list, hH, List.append_assoc]
  have hsz : s.size = (headT line l body).length + body.size := by
    have h1 : s.data.toList.length = (joinL ls).length + (4 + body.data.toList.length) := by rw [hsl, List.length_append, List.length_append]; rfl
    have e1 : s.data.toList.length = s.size := by rw [Array.length_toList]; rfl
    have e2 : body.data.toList.length = body.size := by rw [Array.length_toList]; rfl
    omega
  have hpl : partsL [13, 10] (joinL ls).length (joinL ls) = ls := parts_join ls _ hne (fun x hx => (hok x hx).2) (Nat.le_refl _)
  have hkk : okHead p line.data.toList (l.map hLine ++ [clLine body.size]) = true := by
    unfold okHead
    rw [hp, Bool.and_true, Bool.and_eq_true, decide_eq_true_iff]
    refine ⟨List.all_eq_true.2 (fun x hx => (hok x (by rw [hls]; exact hx)).2), by simp; omega⟩
  have hrun := runH_all c3 c2
  have hb : body.data.toList.length = body.size := by rw [Array.length_toList]; rfl
  have found : ∀ r : List UInt8, headOf (joinL ls ++ (crlf2 ++ r)) = ((joinL ls), (headOf (joinL ls ++ (crlf2 ++ r))).2.1, true) := fun r => by
    obtain ⟨e1, e2⟩ := head_join ls r hne hok (by omega)
    exact Prod.ext e1 (Prod.ext rfl e2)
  have hread : ∀ r : List UInt8, readL p (joinL ls ++ (crlf2 ++ r)) = if r.length < body.size then .error 290 else .ok (l, r.take body.size, s.size) := fun r => by
    have hf := found r
    have e1 : (headOf (joinL ls ++ (crlf2 ++ r))).1 = joinL ls := by rw [hf]
    have e2 : (headOf (joinL ls ++ (crlf2 ++ r))).2.2 = true := by rw [hf]
    have hpp : partsL [13, 10] (headOf (joinL ls ++ (crlf2 ++ r))).1.length (headOf (joinL ls ++ (crlf2 ++ r))).1 = line.data.toList :: (l.map hLine ++ [clLine body.size]) := by rw [e1, hpl, hls]; rfl
    rw [read_form p _ _ _ e2 hpp, if_pos hkk, hrun]
    unfold finL
    simp only
    rw [e1, if_neg (by omega)]
    have hlen : (joinL ls ++ (crlf2 ++ r)).length = (joinL ls).length + 4 + r.length := by simp; omega
    rw [hlen]
    have hd : (joinL ls ++ (crlf2 ++ r)).drop ((joinL ls).length + 4) = r := by
      rw [← List.drop_drop, List.drop_left]
      rfl
    by_cases h : r.length < body.size
    · rw [if_pos (by omega), if_pos h]
    · rw [if_neg (by omega), if_neg h, hd, hsz, hHl]
  refine ⟨hsz, fun more => ⟨?_, ?_⟩, fun c hc => ?_⟩
  · rw [hsl, List.append_assoc, List.append_assoc, hread, if_neg (by rw [List.length_append]; omega), ← hb, List.take_left]
  · rw [hsl, List.append_assoc, List.append_assoc]
    unfold lineOf linesOf
    rw [found, hpl, hls]
    rfl
  · by_cases h : c < (joinL ls).length + 4
    · rw [hsl, read_none p _ (head_cut ls body.data.toList hne hok c h), if_pos (by rw [List.length_take]; omega)]
    · have e : s.data.toList.take c = joinL ls ++ (crlf2 ++ body.data.toList.take (c - ((joinL ls).length + 4))) := by
        have h4 : crlf2.length = 4 := rfl
        rw [hsl, List.take_append, List.take_append, List.take_of_length_le (by omega), List.take_of_length_le (by rw [h4]; omega), h4]
        congr 3
      rw [e, hread, if_pos (by rw [List.length_take]; omega)]
end Go.Proofs.YtddjhmelniphgaaGreatDoor.Print
