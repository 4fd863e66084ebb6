/- The plain law of HttpPaths: which parts and which query a target has. -/
import Derived.Test.YtddjhmelniphgaaGreatDoorQTCut
import Derived.Test.YtddjhmelniphgaaGreatDoorQTTgt
import Derived.Test.YtddjhmelniphgaaGreatDoorQTHeads
import Derived.Test.YtddjhmelniphgaaGreatDoorHAlive29
import Derived.Test.YtddjhmelniphgaaGreatDoorHTPath
import Derived.Test.YtddjhmelniphgaaGreatDoorPrint4
import Derived.Test.YtddjhmelniphgaaGreatDoorPrint5
namespace Go.Proofs.YtddjhmelniphgaaGreatDoor.Print
open Go.RowKit Go.Proofs.YtddjhmelniphgaaGreatDoorW.PrintWords Go.Proofs.YtddjhmelniphgaaGreatDoorW.PrintLast
set_option linter.unusedVariables false
set_option linter.unusedSimpArgs false
/-! ### a text in which each % and two digits are a byte -/
def hexB (c : UInt8) : Option Nat := hexD c.toNat
def decS : List UInt8 → Option (List UInt8)
  | [] => some []
  | c :: r => if c = 37 then (match r with
      | a :: b :: t => (hexB a).bind fun x => (hexB b).bind fun y => (decS t).map (UInt8.ofNat (16 * x + y) :: ·)
      | _ => none) else (decS r).map (c :: ·)
theorem decS_other (c : UInt8) (r : List UInt8) (hc : ¬ c = 37) : decS (c :: r) = (decS r).map (c :: ·) := by
  match r with
  | [] => simp [decS, hc]
  | [_] => simp [decS, hc]
  | _ :: _ :: _ => simp [decS, hc]
theorem decS_pass : ∀ (a r : List UInt8), (37 : UInt8) ∉ a → decS (a ++ r) = (decS r).map (a ++ ·)
  | [], r, _ => by cases h : decS r <;> simp [h]
  | c :: a, r, h => by
    have hc : ¬ c = 37 := fun e => h (by rw [e]; exact List.mem_cons_self ..)
    have ha : (37 : UInt8) ∉ a := fun e => h (List.mem_cons_of_mem _ e)
    rw [List.cons_append, decS_other c _ hc, decS_pass a r ha]
    cases decS r <;> simp
theorem decS_own (a : List UInt8) (h : (37 : UInt8) ∉ a) : decS a = some a := by
  have := decS_pass a [] h
  rw [List.append_nil] at this
  rw [this]
  simp [decS]
theorem hex37 : hexB 37 = none := by decide
theorem decS_37 (r : List UInt8) : decS (37 :: r) = match r with
    | a :: b :: t => (hexB a).bind fun x => (hexB b).bind fun y => (decS t).map (UInt8.ofNat (16 * x + y) :: ·)
    | _ => none := by
  cases r with
  | nil => simp [decS]
  | cons a r => cases r <;> simp [decS]
theorem stepD_pos (i : Nat) (x acc : List UInt8) (hi : 1 ≤ i) : stepD (i, x) acc = if x.length < 2 then none else match hexFrom 0 (x.take 2) with
    | none => none
    | some n => some (acc ++ [UInt8.ofNat n] ++ x.drop 2) := by
  unfold stepD
  rw [if_neg (show ¬ i = 0 by omega)]
  rfl
theorem hexP (a b : UInt8) : hexFrom 0 [a, b] = (hexB a).bind fun x => (hexB b).bind fun y => some (16 * x + y) := by
  simp only [hexFrom, hexB]
  cases hexD a.toNat with
  | none => rfl
  | some x =>
    simp only [Option.bind_some]
    cases hexD b.toNat with
    | none => rfl
    | some y => simp only [Option.bind_some]; congr 1; omega
theorem part_none (c : UInt8) (f : Nat) (l : List UInt8) (h : (cutB c l).2.2 = false) : partsL [c] f l = [l] := by
  cases f with
  | zero => rfl
  | succ f => simp only [partsL]; rw [cutB_eq, h]; rfl
theorem part_some (c : UInt8) (f : Nat) (l : List UInt8) (h : (cutB c l).2.2 = true) : partsL [c] (f + 1) l = (cutB c l).1 :: partsL [c] f (cutB c l).2.1 := by
  simp only [partsL]
  rw [cutB_eq, h]
  rfl
/-- What stands behind a %. -/
theorem dec_behind : ∀ (n : Nat) (l : List UInt8), l.length ≤ n → ∀ (f i : Nat) (acc : List UInt8), l.length ≤ f → 1 ≤ i → runD (enumL i (partsL [37] f l)) acc = (decS (37 :: l)).map (acc ++ ·) := by
  intro n
  induction n with
  | zero =>
    intro l hn f i acc hf hi
    obtain rfl := List.length_eq_zero_iff.1 (Nat.le_zero.1 hn)
    rw [part_none 37 f [] rfl]
    simp only [enumL, runD]
    rw [stepD_pos i [] acc hi, if_pos (by simp), decS_37]
    rfl
  | succ n ih =>
    intro l hn f i acc hf hi
    cases hc : (cutB 37 l).2.2 with
    | false =>
      have hn37 := (cutB_none 37 l hc).2
      rw [part_none 37 f l hc]
      simp only [enumL, runD]
      rw [stepD_pos i l acc hi, decS_37]
      match l, hn37 with
      | [], _ => rfl
      | [x], _ => rfl
      | x :: y :: t, hn37 =>
        have ht : (37 : UInt8) ∉ t := fun e => hn37 (List.mem_cons_of_mem _ (List.mem_cons_of_mem _ e))
        rw [if_neg (by simp), show (x :: y :: t).take 2 = [x, y] from rfl, hexP]
        dsimp only
        rw [decS_own t ht]
        cases hexB x with
        | none => rfl
        | some a =>
          cases hexB y with
          | none => rfl
          | some b => simp
    | true =>
      obtain ⟨hl, hm⟩ := cutB_some 37 l hc
      obtain ⟨f, rfl⟩ : ∃ m, f = m + 1 := ⟨f - 1, by have := congrArg List.length hl; simp at this; omega⟩
      rw [part_some 37 f l hc]
      have hb : (cutB 37 l).2.1.length ≤ n := by have := congrArg List.length hl; simp at this; omega
      have ihb := fun acc' => ih (cutB 37 l).2.1 hb f (i + 1) acc' (by have := congrArg List.length hl; simp at this; omega) (by omega)
      simp only [enumL, runD]
      have hl2 : decS (37 :: l) = decS (37 :: ((cutB 37 l).1 ++ 37 :: (cutB 37 l).2.1)) := by rw [← hl]
      rw [stepD_pos i _ acc hi, hl2]
      clear hl hl2 hc
      generalize (cutB 37 l).1 = a at *
      generalize (cutB 37 l).2.1 = b at *
      match a, hm with
      | [], _ =>
        rw [List.nil_append, if_pos (by simp), decS_37]
        cases b with
        | nil => rfl
        | cons c t => simp [hex37]
      | [x], _ =>
        rw [if_pos (by simp), decS_37]
        simp only [List.cons_append, List.nil_append, hex37]
        cases hexB x <;> simp
      | x :: y :: t, hm =>
        have ht : (37 : UInt8) ∉ t := fun e => hm (List.mem_cons_of_mem _ (List.mem_cons_of_mem _ e))
        rw [if_neg (by simp), show (x :: y :: t).take 2 = [x, y] from rfl, hexP, decS_37]
        simp only [List.cons_append, List.drop_succ_cons, List.drop_zero]
        cases hexB x with
        | none => rfl
        | some p =>
          cases hexB y with
          | none => rfl
          | some q =>
            simp only [Option.bind_some]
            rw [ihb, decS_pass t _ ht]
            cases decS (37 :: b) <;> simp
theorem decL_S (l : List UInt8) : decL l = decS l := by
  unfold decL
  cases hc : (cutB 37 l).2.2 with
  | false =>
    rw [part_none 37 _ l hc, decS_own l (cutB_none 37 l hc).2]
    simp [enumL, runD, stepD]
  | true =>
    obtain ⟨hl, hm⟩ := cutB_some 37 l hc
    have hlen := congrArg List.length hl
    rw [List.length_append, List.length_cons] at hlen
    obtain ⟨f, hf⟩ : ∃ m, l.length = m + 1 := ⟨l.length - 1, by omega⟩
    rw [hf, part_some 37 f l hc]
    have e : runD (enumL 0 ((cutB 37 l).1 :: partsL [37] f (cutB 37 l).2.1)) [] = runD (enumL 1 (partsL [37] f (cutB 37 l).2.1)) (cutB 37 l).1 := by
      simp [enumL, runD, stepD]
    rw [e, dec_behind _ _ (Nat.le_refl _) f 1 _ (by omega) (by omega)]
    conv => rhs; rw [hl]
    rw [decS_pass _ _ hm]
/-! ### the reference's loop -/
def digI (o : Option Nat) : Int := match o with | some d => (d : Int) | none => -1
theorem digit_eq (c : UInt8) : Ev (fun k => codicilref29_digit.f k (c.toNat : Int)) (digI (hexB c)) := by
  have hg := UInt8.toNat_lt c
  refine ⟨2, fun k hk => ?_⟩
  obtain ⟨k, rfl⟩ : ∃ m, k = m + 2 := ⟨k - 2, by omega⟩
  show codicilref29_digit.f (k + 2) _ = _
  unfold codicilref29_digit.f hexB hexD digI
  by_cases h1 : 48 ≤ c.toNat ∧ c.toNat ≤ 57
  · rw [if_pos h1, if_pos (by omega)]
    simp only [codicilref29_digit.j0]
    rw [if_pos (decide_eq_true (by omega))]
    congr 1
    omega
  · have hj : (if ((c.toNat : Nat) : Int) ≥ 48 then (codicilref29_digit.j0 (k + 2) (c.toNat : Int) (decide (((c.toNat : Nat) : Int) ≤ 57))) else (codicilref29_digit.j0 (k + 2) (c.toNat : Int) false)) = codicilref29_digit.j0 (k + 2) (c.toNat : Int) false := by
      split
      · rw [decide_eq_false (by omega)]
      · rfl
    rw [hj, if_neg h1]
    simp only [codicilref29_digit.j0]
    rw [if_neg (by decide)]
    by_cases h2 : 97 ≤ c.toNat ∧ c.toNat ≤ 102
    · rw [if_pos (by omega), if_pos h2]
      simp only [codicilref29_digit.j1]
      rw [if_pos (decide_eq_true (by omega))]
      congr 1
      (try simp only)
      omega
    · have hj2 : (if ((c.toNat : Nat) : Int) ≥ 97 then (codicilref29_digit.j1 (k + 1) (c.toNat : Int) (decide (((c.toNat : Nat) : Int) ≤ 102))) else (codicilref29_digit.j1 (k + 1) (c.toNat : Int) false)) = codicilref29_digit.j1 (k + 1) (c.toNat : Int) false := by
        split
        · rw [decide_eq_false (by omega)]
        · rfl
      rw [hj2, if_neg h2]
      simp only [codicilref29_digit.j1]
      rw [if_neg (by decide)]
      by_cases h3 : 65 ≤ c.toNat ∧ c.toNat ≤ 70
      · rw [if_pos (by omega), if_pos (by omega), if_pos h3]
        congr 1
        (try simp only)
        omega
      · rw [if_neg h3]
        split
        · rw [if_neg (by omega)]
        · rfl
theorem hexB_lt {c : UInt8} {d : Nat} (h : hexB c = some d) : d ≤ 15 := hexD_lt h
def nums (l : List UInt8) : List Int := l.map fun b => ((b.toNat : Nat) : Int)
theorem nums_str (l : List UInt8) : strOfNums (nums l) = bs l := by
  unfold strOfNums nums bs
  congr 2
  rw [List.map_map]
  conv => rhs; rw [← List.map_id l]
  apply List.map_congr_left
  intro b _
  simp
theorem rdec0 (s : List UInt8) (hs : s.length ≤ 1048576) : ∀ d i acc, s.length ≤ i + d → acc.length ≤ i → Ev (fun k => codicilref29_decoded.l0 k (bs s) (nums acc) (i : Int)) (match decS (s.drop i) with | some r => (bs (acc ++ r), true) | none => ((⟨#[]⟩ : ByteArray), false)) := by
  intro d
  induction d using Nat.strongRecOn with
  | _ d ih =>
    intro i acc hd ha
    by_cases h0 : s.length ≤ i
    · rw [List.drop_of_length_le h0]
      refine Ev.step (f := fun _ => some (bs acc, true)) (fun k => ?_) (by simp only [decS, List.append_nil]; exact Ev.now _)
      simp only [codicilref29_decoded.l0]
      rw [if_neg (by rw [bs_size]; omega), nums_str]
    · have hi : i < s.length := by omega
      have hal : (nums acc).length = acc.length := by unfold nums; rw [List.length_map]
      have hw1 : wrap64 ((i : Int) + 1) = ((i + 1 : Nat) : Int) := wup (by omega)
      have hw2 : wrap64 ((i : Int) + 2) = ((i + 2 : Nat) : Int) := by rw [w64 (by omega)]; rfl
      have hg := UInt8.toNat_lt s[i]
      rw [List.drop_eq_getElem_cons hi]
      by_cases hc : s[i] = 37
      · rw [hc, decS_37]
        have hbad : Ev (fun k => codicilref29_decoded.j1 k (bs s) (nums acc) (i : Int) true) ((⟨#[]⟩ : ByteArray), false) :=
          Ev.step (f := fun _ => some ((⟨#[]⟩ : ByteArray), false)) (fun k => by simp only [codicilref29_decoded.j1]; rw [if_pos trivial]) (Ev.now _)
        have hbt : bt (bs s) (i : Int) = 37 := by rw [btl s i hi, hc]; rfl
        by_cases h2 : i + 2 < s.length
        · have h1 : i + 1 < s.length := by omega
          rw [List.drop_eq_getElem_cons h1, List.drop_eq_getElem_cons h2]
          have d1 := digit_eq s[i + 1]
          have d2 := digit_eq s[i + 2]
          simp only
          refine Ev.step (f := fun k => (codicilref29_digit.f k ((s[i + 1].toNat : Nat) : Int)).bind fun t296 => (if t296 < 0 then (codicilref29_decoded.j1 k (bs s) (nums acc) (i : Int) true) else ((codicilref29_digit.f k ((s[i + 2].toNat : Nat) : Int)).bind fun t297 => (codicilref29_decoded.j1 k (bs s) (nums acc) (i : Int) (decide (t297 < 0)))))) (fun k => ?_) ?_
          · simp only [codicilref29_decoded.l0]
            rw [if_pos (by rw [bs_size]; omega), if_pos (by omega), hbt, if_pos rfl, hw2, if_neg (by rw [bs_size]; omega), hw1, if_pos (by omega), if_pos (by rw [bs_size]; omega), btl s (i + 1) h1, btl s (i + 2) h2]
            simp only [if_pos (show (0 : Int) ≤ ((i + 2 : Nat) : Int) by omega), if_pos (show ((i + 2 : Nat) : Int) < ((bs s).size : Int) by rw [bs_size]; omega)]
          · cases e1 : hexB s[i + 1] with
            | none =>
              have d1' : Ev (fun k => codicilref29_digit.f k ((s[i + 1].toNat : Nat) : Int)) (-1) := by rw [e1] at d1; exact d1
              refine Ev.bind d1' ?_
              simp only [if_pos (show (-1 : Int) < 0 by decide), Option.bind_none]; exact hbad
            | some x =>
              have hx := hexB_lt e1
              have d1' : Ev (fun k => codicilref29_digit.f k ((s[i + 1].toNat : Nat) : Int)) ((x : Nat) : Int) := by rw [e1] at d1; exact d1
              refine Ev.bind d1' ?_
              simp only [if_neg (show ¬ ((x : Nat) : Int) < 0 by omega), Option.bind_some]
              cases e2 : hexB s[i + 2] with
              | none =>
                have d2' : Ev (fun k => codicilref29_digit.f k ((s[i + 2].toNat : Nat) : Int)) (-1) := by rw [e2] at d2; exact d2
                refine Ev.bind d2' ?_
                exact hbad
              | some y =>
                have hy := hexB_lt e2
                have d2' : Ev (fun k => codicilref29_digit.f k ((s[i + 2].toNat : Nat) : Int)) ((y : Nat) : Int) := by rw [e2] at d2; exact d2
                refine Ev.bind d2' ?_
                rw [decide_eq_false (show ¬ ((y : Nat) : Int) < 0 by omega)]
                have hval : (wrap64 ((wrap64 (16 * ((x : Nat) : Int))) + ((y : Nat) : Int))) % 256 = ((UInt8.ofNat (16 * x + y)).toNat : Int) := by
                  rw [w64 (n := 16 * ((x : Nat) : Int)) (by omega), w64 (by omega), UInt8.toNat_ofNat']
                  omega
                have hnx : nums acc ++ [((UInt8.ofNat (16 * x + y)).toNat : Int)] = nums (acc ++ [UInt8.ofNat (16 * x + y)]) := by simp [nums]
                refine Ev.step (f := fun k => (codicilref29_digit.f k ((s[i + 1].toNat : Nat) : Int)).bind fun t298 => ((codicilref29_digit.f k ((s[i + 2].toNat : Nat) : Int)).bind fun t299 => codicilref29_decoded.l0 k (bs s) (nums acc ++ [(wrap64 ((wrap64 (16 * t298)) + t299)) % 256]) ((i + 3 : Nat) : Int))) (fun k => ?_) ?_
                · simp only [codicilref29_decoded.j1]
                  rw [if_neg (by decide), hw1, if_pos (by omega), if_pos (by rw [bs_size]; omega), btl s (i + 1) h1, hw2, btl s (i + 2) h2, wup (n := i + 2) (by omega)]
                  simp only [if_pos (show (0 : Int) ≤ ((i + 2 : Nat) : Int) by omega), if_pos (show ((i + 2 : Nat) : Int) < ((bs s).size : Int) by rw [bs_size]; omega), if_pos (show (nums acc).length < 140737488355328 by omega)]
                · refine Ev.bind d1' (Ev.bind d2' ?_)
                  rw [hval, hnx]
                  have := ih (d - 3) (by omega) (i + 3) (acc ++ [UInt8.ofNat (16 * x + y)]) (by omega) (by rw [List.length_append, List.length_singleton]; omega)
                  cases hr : decS (s.drop (i + 2 + 1)) with
                  | none => rw [show i + 3 = i + 2 + 1 from rfl, hr] at this; exact this
                  | some r => rw [show i + 3 = i + 2 + 1 from rfl, hr] at this; simp only [List.append_assoc] at this; exact this
        · have e : (match s.drop (i + 1) with
              | a :: b :: t => (hexB a).bind fun x => (hexB b).bind fun y => (decS t).map (UInt8.ofNat (16 * x + y) :: ·)
              | _ => none) = none := by
            have hl : (s.drop (i + 1)).length < 2 := by rw [List.length_drop]; omega
            match s.drop (i + 1), hl with
            | [], _ => rfl
            | [_], _ => rfl
            | _ :: _ :: _, hl => simp at hl; omega
          rw [e]
          refine Ev.step (fun k => ?_) hbad
          simp only [codicilref29_decoded.l0]
          rw [if_pos (by rw [bs_size]; omega), if_pos (by omega), hbt, if_pos rfl, hw2, if_pos (by rw [bs_size]; omega)]
      · have hn : ¬ ((s[i].toNat : Nat) : Int) = 37 := fun e => hc (UInt8.toNat_inj.1 (by have : (37 : UInt8).toNat = 37 := rfl; omega))
        have hx : nums acc ++ [((s[i].toNat : Nat) : Int)] = nums (acc ++ [s[i]]) := by simp [nums]
        refine Ev.step (f := fun k => codicilref29_decoded.l0 k (bs s) (nums (acc ++ [s[i]])) ((i + 1 : Nat) : Int)) (fun k => ?_) ?_
        · simp only [codicilref29_decoded.l0]
          rw [if_pos (by rw [bs_size]; omega), if_pos (by omega), btl s i hi, if_neg hn, if_pos (by omega), hx, hw1]
        · have := ih (d - 1) (by omega) (i + 1) (acc ++ [s[i]]) (by omega) (by rw [List.length_append, List.length_singleton]; omega)
          rw [decS_other _ _ hc]
          cases hr : decS (s.drop (i + 1)) with
          | none => rw [hr] at this; exact this
          | some r => rw [hr] at this; simp only [List.append_assoc] at this; exact this
theorem rdec_ev (s : List UInt8) (hs : s.length ≤ 1048576) : Ev (fun k => codicilref29_decoded.f k (bs s)) (match decL s with | some r => (bs r, true) | none => ((⟨#[]⟩ : ByteArray), false)) := by
  have := rdec0 s hs s.length 0 [] (by omega) (Nat.le_refl _)
  rw [List.drop_zero, ← decL_S] at this
  exact this
/-! ### split -/
theorem rsplit0 (c : UInt8) (ci : Int) (hci : ci = (c.toNat : Int)) : ∀ (n : Nat) (l : List UInt8) (acc : List (List UInt8)), l.length ≤ n → l.length ≤ 1048576 → acc.length + l.length ≤ 2097152 →
    Ev (fun k => codicilref29_split.l0 k (bs l) ci (acc.map bs) true) ((acc ++ partsL [c] n l).map bs) := by
  intro n
  induction n with
  | zero =>
    intro l acc hn hl ha
    obtain rfl := List.length_eq_zero_iff.1 (Nat.le_zero.1 hn)
    refine Ev.step (f := fun k => (codicilref29_cut.f k (bs []) ci).bind fun bt287 => codicilref29_split.l0 k bt287.2.1 ci (acc.map bs ++ [bt287.1]) bt287.2.2) (fun k => ?_) ?_
    · simp only [codicilref29_split.l0]
      rw [if_pos trivial]
      simp only [if_pos (show (acc.map bs).length < 8796093022208 by rw [List.length_map]; simp at ha; omega)]
    · have hc0 := rcut_ev [] hl c ci hci
      rw [show cutB c [] = ([], [], false) from rfl] at hc0
      refine Ev.bind hc0 ?_
      dsimp only
      refine Ev.step (f := fun _ => some ((acc ++ [[]]).map bs)) (fun k => ?_) (Ev.now _)
      simp only [codicilref29_split.l0]
      rw [if_neg (by decide), List.map_append]
      rfl
  | succ n ih =>
    intro l acc hn hl ha
    refine Ev.step (f := fun k => (codicilref29_cut.f k (bs l) ci).bind fun bt287 => codicilref29_split.l0 k bt287.2.1 ci (acc.map bs ++ [bt287.1]) bt287.2.2) (fun k => ?_) ?_
    · simp only [codicilref29_split.l0]
      rw [if_pos trivial]
      simp only [if_pos (show (acc.map bs).length < 8796093022208 by rw [List.length_map]; omega)]
    · refine Ev.bind (rcut_ev l hl c ci hci) ?_
      dsimp only
      cases hc : (cutB c l).2.2 with
      | false =>
        rw [part_none c _ l hc, (cutB_none c l hc).1]
        refine Ev.step (f := fun _ => some ((acc ++ [l]).map bs)) (fun k => ?_) (Ev.now _)
        simp only [codicilref29_split.l0]
        rw [if_neg (by decide), List.map_append]
        rfl
      | true =>
        have hlen := congrArg List.length (cutB_some c l hc).1
        rw [List.length_append, List.length_cons] at hlen
        rw [part_some c n l hc]
        have := ih (cutB c l).2.1 (acc ++ [(cutB c l).1]) (by omega) (by omega) (by rw [List.length_append, List.length_singleton]; omega)
        rw [List.map_append, List.append_assoc] at this
        exact this
theorem rsplit_ev (l : List UInt8) (hl : l.length ≤ 1048576) (c : UInt8) (ci : Int) (hci : ci = (c.toNat : Int)) : Ev (fun k => codicilref29_split.f k (bs l) ci) ((partsL [c] l.length l).map bs) := by
  have := rsplit0 c ci hci l.length l [] (Nat.le_refl _) hl (by simp; omega)
  exact this
/-! ### Path -/
theorem rdBL (ls : List (List UInt8)) (i : Nat) (hi : i < ls.length) : rdOf ByteArray.empty (ls.map bs) (i : Int) = bs ls[i] := rdB ls i hi
abbrev PthR := List ByteArray × List S59 × Int
def badP : PthR := ([], [], 291)
def pthO : Option (List ByteArray × List Hd) → PthR
  | none => ([], [], 291)
  | some (ls, qs) => (ls, qs, 0)
theorem rpath1 (x8 : List ByteArray) (q : List UInt8) (hq : q ≠ []) (ls : List (List UInt8)) (hls : ls.length ≤ 1048577) (hx : ∀ x ∈ ls, x.length ≤ 1048576) : ∀ d i j acc, ls.length = i + d → acc.length ≤ i →
    Ev (fun k => codicilref29_Path.l1 k x8 acc (ls.map bs) (i : Int)) (match runO (stepQ q) (enumL j (ls.drop i)) acc with | some qs => (x8, qs, 0) | none => badP)
  | 0, i, j, acc, hd, ha => by
    rw [List.drop_of_length_le (by omega)]
    refine Ev.step (f := fun _ => some (x8, acc, 0)) (fun k => ?_) (Ev.now _)
    simp only [codicilref29_Path.l1]
    rw [if_neg (by rw [List.length_map]; omega)]
  | d + 1, i, j, acc, hd, ha => by
    have hi : i < ls.length := by omega
    rw [List.drop_eq_getElem_cons hi]
    have hxl := hx _ (List.getElem_mem hi)
    have hcl := cutB_le 61 ls[i]
    have ih := fun acc' (h : acc'.length ≤ i + 1) => rpath1 x8 q hq ls hls hx d (i + 1) (j + 1) acc' (by omega) h
    have hrd := rdBL ls i hi
    generalize ls[i] = x at *
    have hst : stepQ q (j, x) acc = (decL (cutB 61 x).1).bind fun a => (decL (cutB 61 x).2.1).map fun b => acc ++ [⟨bs a, bs b⟩] := by
      unfold stepQ
      rw [if_neg hq]
      simp only [cutB_eq]
    have da := rdec_ev (cutB 61 x).1 (by omega)
    have db := rdec_ev (cutB 61 x).2.1 (by omega)
    simp only [enumL, runO]
    rw [hst]
    refine Ev.step (f := fun k => (codicilref29_cut.f k (bs x) 61).bind fun bt320 => ((codicilref29_decoded.f k bt320.1).bind fun bt323 => ((codicilref29_decoded.f k bt320.2.1).bind fun bt325 => (if bt323.2 = true then (if bt325.2 = true then (codicilref29_Path.l1 k x8 (acc ++ [(⟨bt323.1, bt325.1⟩ : S59)]) (ls.map bs) ((i + 1 : Nat) : Int)) else (some badP)) else (some badP))))) (fun k => ?_) ?_
    · simp only [codicilref29_Path.l1]
      rw [if_pos (by rw [List.length_map]; omega), if_pos (by omega), hrd, wup (by omega)]
      simp only [if_pos (show acc.length < 4398046511104 by omega)]
      rfl
    · refine Ev.bind (rcut_ev x hxl 61 61 rfl) ?_
      dsimp only
      refine Ev.bind da ?_
      refine Ev.bind db ?_
      cases decL (cutB 61 x).1 with
      | none => simp only [Bool.false_eq_true, if_false, Option.bind_none]; exact Ev.now _
      | some a =>
        simp only [if_true, Option.bind_some]
        cases decL (cutB 61 x).2.1 with
        | none => simp only [Bool.false_eq_true, if_false, Option.map_none, Option.bind_none]; exact Ev.now _
        | some b =>
          simp only [if_true, Option.map_some, Option.bind_some]
          exact ih (acc ++ [⟨bs a, bs b⟩]) (by rw [List.length_append, List.length_singleton]; omega)
theorem runQ_nil (ls : List (Nat × List UInt8)) : ∀ acc, runO (stepQ []) ls acc = some acc := by
  induction ls with
  | nil => intro acc; rfl
  | cons x r ih =>
    intro acc
    simp only [runO]
    have : stepQ [] x acc = some acc := by unfold stepQ; rw [if_pos rfl]
    rw [this, Option.bind_some, ih]
theorem rpath0 (q : List UInt8) (hq : q.length ≤ 1048576) (ls : List (List UInt8)) (hls : ls.length ≤ 1048577) (hx : ∀ x ∈ ls, x.length ≤ 1048576) : ∀ d i j acc, ls.length = i + d → acc.length ≤ i →
    Ev (fun k => codicilref29_Path.l0 k (bs q) acc (ls.map bs) (i : Int)) (pthO ((runO stepS (enumL j (ls.drop i)) acc).bind fun l => (runO (stepQ q) (enumL 0 (partsL [38] q.length q)) []).map fun qs => (l, qs)))
  | 0, i, j, acc, hd, ha => by
    rw [List.drop_of_length_le (by omega)]
    simp only [enumL, runO, Option.bind_some]
    by_cases h0 : q = []
    · subst h0
      rw [runQ_nil]
      refine Ev.step (f := fun _ => some (acc, ([] : List S59), 0)) (fun k => ?_) (Ev.now _)
      simp only [codicilref29_Path.l0]
      rw [if_neg (by rw [List.length_map]; omega), if_pos (toL [])]
    · have hsp := rsplit_ev q hq 38 38 rfl
      refine Ev.step (f := fun k => (codicilref29_split.f k (bs q) 38).bind fun t316 => codicilref29_Path.l1 k acc ([] : List S59) t316 0) (fun k => ?_) (Ev.bind hsp ?_)
      · simp only [codicilref29_Path.l0]
        rw [if_neg (by rw [List.length_map]; omega), if_neg (by rw [toL]; exact h0)]
      · have h2 := partsL_len [38] q.length q
        have := rpath1 acc q h0 (partsL [38] q.length q) (by omega) (fun x hm => Nat.le_trans (partsL_le [38] _ q x hm) hq) (partsL [38] q.length q).length 0 0 [] (by omega) (Nat.le_refl _)
        rw [List.drop_zero] at this
        cases hr : runO (stepQ q) (enumL 0 (partsL [38] q.length q)) [] with
        | none => rw [hr] at this; exact this
        | some qs => rw [hr] at this; exact this
  | d + 1, i, j, acc, hd, ha => by
    have hi : i < ls.length := by omega
    rw [List.drop_eq_getElem_cons hi]
    have hxl := hx _ (List.getElem_mem hi)
    have ih := fun acc' (h : acc'.length ≤ i + 1) => rpath0 q hq ls hls hx d (i + 1) (j + 1) acc' (by omega) h
    have hrd := rdBL ls i hi
    generalize ls[i] = x at *
    have hst : stepS (j, x) acc = (decL x).map fun y => acc ++ [bs y] := rfl
    have da := rdec_ev x hxl
    simp only [enumL, runO]
    rw [hst]
    refine Ev.step (f := fun k => (codicilref29_decoded.f k (bs x)).bind fun bt311 => (if bt311.2 = true then (codicilref29_Path.l0 k (bs q) (acc ++ [bt311.1]) (ls.map bs) ((i + 1 : Nat) : Int)) else (some badP))) (fun k => ?_) (Ev.bind da ?_)
    · simp only [codicilref29_Path.l0]
      rw [if_pos (by rw [List.length_map]; omega), if_pos (by omega), hrd, wup (by omega)]
      simp only [if_pos (show acc.length < 8796093022208 by omega)]
      rfl
    · cases decL x with
      | none => simp only [Bool.false_eq_true, if_false, Option.map_none, Option.bind_none]; exact Ev.now _
      | some a =>
        simp only [if_true, Option.map_some, Option.bind_some]
        exact ih (acc ++ [bs a]) (by rw [List.length_append, List.length_singleton]; omega)
def pthR (s : List UInt8) : PthR := pthO (pathL s)
theorem rpath_ev (s : List UInt8) (hs : s.length ≤ 1048575) : Ev (fun k => codicilref29_Path.f k (bs s)) (pthR s) := by
  unfold codicilref29_Path.f
  refine Ev.bind (rtgt_ev s (by omega)) ?_
  unfold pthR pathL
  rw [targetB_P]
  cases ht : tgtOk s with
  | false => simp only [Bool.false_eq_true, if_false]; exact Ev.now _
  | true =>
    simp only [if_true]
    obtain ⟨r, rfl⟩ : ∃ r, s = 47 :: r := by
      unfold tgtOk at ht
      rw [Bool.and_eq_true, beq_iff_eq] at ht
      cases s with
      | nil => cases ht.2
      | cons a r => exact ⟨r, by rw [Option.some.inj ht.2]⟩
    have hr : r.length ≤ 1048574 := by simp at hs; omega
    have hcl := cutB_le 63 r
    have e1 : cutB 63 (47 :: r) = (47 :: (cutB 63 r).1, (cutB 63 r).2.1, (cutB 63 r).2.2) := by
      have : ¬ (47 : UInt8) = 63 := by decide
      simp only [cutB, if_neg this]
    have hP : tgtP (47 :: r) = (cutB 63 r).1 := by unfold tgtP; rw [cutB_eq]; rfl
    have hQ : tgtQ (47 :: r) = (cutB 63 r).2.1 := by unfold tgtQ; rw [cutB_eq]; rfl
    have hc := rcut_ev (47 :: r) (by simp; omega) 63 63 rfl
    rw [e1] at hc
    refine Ev.bind hc ?_
    dsimp only
    rw [hP, hQ]
    have hsz : (bs (47 :: (cutB 63 r).1)).size = (cutB 63 r).1.length + 1 := rfl
    have hx : (bs (47 :: (cutB 63 r).1)).extract 1 (bs (47 :: (cutB 63 r).1)).size = bs (cutB 63 r).1 := ext_from _ 1
    have hsp := rsplit_ev (cutB 63 r).1 (by omega) 47 47 rfl
    simp only [if_pos (show (1 : Int) ≤ ((bs (47 :: (cutB 63 r).1)).size : Int) by rw [hsz]; omega), hx]
    refine Ev.bind hsp ?_
    have h2 := partsL_len [47] (cutB 63 r).1.length (cutB 63 r).1
    have := rpath0 (cutB 63 r).2.1 (by omega) (partsL [47] (cutB 63 r).1.length (cutB 63 r).1) (by omega) (fun x hm => Nat.le_trans (partsL_le [47] _ _ x hm) (by omega)) _ 0 0 [] (Nat.zero_add _).symm (Nat.le_refl _)
    rw [List.drop_zero] at this
    exact this
/-! ### the law -/
theorem runS_len : ∀ (l : List (Nat × List UInt8)) (acc r : List ByteArray), runO stepS l acc = some r → r.length ≤ acc.length + l.length
  | [], acc, r, h => by simp [runO] at h; subst h; simp
  | x :: l, acc, r, h => by
    simp only [runO] at h
    obtain ⟨a, h1, h2⟩ := Option.bind_eq_some_iff.1 h
    unfold stepS at h1
    obtain ⟨y, _, h1⟩ := Option.map_eq_some_iff.1 h1
    have := runS_len l a r h2
    rw [← h1, List.length_append, List.length_singleton] at this
    simp only [List.length_cons]
    omega
theorem runQ_len (q : List UInt8) : ∀ (l : List (Nat × List UInt8)) (acc r : List Hd), runO (stepQ q) l acc = some r → r.length ≤ acc.length + l.length
  | [], acc, r, h => by simp [runO] at h; subst h; simp
  | x :: l, acc, r, h => by
    simp only [runO] at h
    obtain ⟨a, h1, h2⟩ := Option.bind_eq_some_iff.1 h
    have := runQ_len q l a r h2
    have h3 : a.length ≤ acc.length + 1 := by
      unfold stepQ at h1
      split at h1
      · injection h1 with h1; subst h1; omega
      · obtain ⟨y, _, h1⟩ := Option.bind_eq_some_iff.1 h1
        obtain ⟨z, _, h1⟩ := Option.map_eq_some_iff.1 h1
        rw [← h1, List.length_append, List.length_singleton]
        exact Nat.le_refl _
    simp only [List.length_cons]
    omega
theorem pthR_len (s : List UInt8) (hs : s.length ≤ 4096) : (pthR s).1.length ≤ 1048576 ∧ (pthR s).2.1.length ≤ 1048576 := by
  unfold pthR
  cases h : pathL s with
  | none => exact ⟨by simp [pthO], by simp [pthO]⟩
  | some p =>
    obtain ⟨ls, qs⟩ := p
    unfold pathL at h
    split at h
    · obtain ⟨l, h1, h⟩ := Option.bind_eq_some_iff.1 h
      obtain ⟨q, h2, h⟩ := Option.map_eq_some_iff.1 h
      injection h with e1 e2
      subst e1 e2
      have a1 := runS_len _ _ _ h1
      have a2 := runQ_len _ _ _ _ h2
      rw [enumL_len, List.length_nil] at a1 a2
      have b1 := partsL_len [47] (tgtP s).length (tgtP s)
      have b2 := partsL_len [38] (tgtQ s).length (tgtQ s)
      have c1 := cut_le (s.drop 1) [63]
      rw [List.length_drop] at c1
      have c2 : (tgtP s).length ≤ s.length := Nat.le_trans c1.1 (by omega)
      have c3 : (tgtQ s).length ≤ s.length := Nat.le_trans c1.2 (by omega)
      exact ⟨by show l.length ≤ _; omega, by show q.length ≤ _; omega⟩
    · cases h
theorem path_is (a0 : ByteArray) (h : a0.size ≤ 1048575) : http_Path.f a0 = some (pthR a0.data.toList) := by
  unfold http_Path.f pthR
  rw [if_pos h]
  cases pathL a0.data.toList <;> rfl
theorem same0 (l : List ByteArray) (hl : l.length ≤ 1048576) : ∀ d i, l.length = i + d → Ev (fun k => codicillaw29_HttpPaths.l0 k l l (i : Int)) true
  | 0, i, hd => by
    refine Ev.step (f := fun k => (codicillaw29_alive.f k).bind fun t348 => (some t348)) (fun k => ?_) (Ev.bind alive29_ev (Ev.now _))
    simp only [codicillaw29_HttpPaths.l0]
    rw [if_neg (by omega)]
  | d + 1, i, hd => by
    refine Ev.step (fun k => ?_) (same0 l hl d (i + 1) (by omega))
    simp only [codicillaw29_HttpPaths.l0]
    rw [if_pos (by omega), if_pos (by omega), if_pos (by omega), if_pos trivial, wup (by omega)]
theorem paths_pure : codicillaw29_HttpPaths.Pure := by
  intro a0 hsz
  refine Ev.rounds ?_
  unfold codicillaw29_HttpPaths.f
  by_cases h : a0.size > 4096
  · simp only [if_pos (show (a0.size : Int) > 4096 by omega)]
    exact Ev.bind alive29_ev (Ev.now _)
  · have hl : a0.data.toList.length ≤ 4096 := by rw [Array.length_toList]; exact Nat.le_of_not_lt h
    have h1 := rpath_ev a0.data.toList (by omega)
    rw [bs_of] at h1
    have n1 := pthR_len a0.data.toList hl
    simp only [if_neg (show ¬ (a0.size : Int) > 4096 by omega), path_is a0 (by omega), Option.bind_some]
    generalize pthR a0.data.toList = r at *
    obtain ⟨ls, qs, e⟩ := r
    refine Ev.bind h1 ?_
    simp only [if_true]
    refine Ev.bind (heads_ev qs n1.2) ?_
    refine Ev.step (f := fun k => codicillaw29_HttpPaths.l0 k ls ls ((0 : Nat) : Int)) (fun k => ?_) (same0 ls n1.1 ls.length 0 (by omega))
    simp only [codicillaw29_HttpPaths.j0]
    rw [if_neg (by decide)]
    rfl
end Go.Proofs.YtddjhmelniphgaaGreatDoor.Print
