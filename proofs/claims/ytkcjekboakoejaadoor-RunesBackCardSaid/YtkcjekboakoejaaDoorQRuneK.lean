/- Plain law: code points and their bytes are each other's, halves too; RunesBack's plain function answers true. -/
import Derived.Test.YtkcjekboakoejaaDoorQRuneJ
import Derived.Laws.BitsLemmas
import Derived.Test.YtkcjekboakoejaaDoorPrint5
namespace Go.Proofs.YtkcjekboakoejaaDoor.Print
open Go.RowKit Go.Proofs.YtkcjekboakoejaaDoorW.PrintWords Go.Proofs.YtkcjekboakoejaaDoorW.PrintLast
set_option linter.unusedVariables false
set_option linter.unusedSimpArgs false

theorem and1023 (x : Int) (h0 : 0 ≤ x) (h1 : x < 2147483648) : Go.bits .and .i32 x 1023 = x % 1024 := by
  have := bits_mask .i32 31 (by decide) wraps_i32 10 (by decide) x h0 (by simpa using h1)
  simpa using this
theorem bytesP_of (r : Int) : (bytesP r = ⟨#[]⟩ ∧ Lib.validRune r = false) ∨ ∃ n : Nat, r = (n : Int) ∧ validN n := by
  cases h : Lib.validRune r with
  | false => exact .inl ⟨bytesP_bad h, rfl⟩
  | true =>
    simp only [Lib.validRune, decide_eq_true_eq] at h
    exact .inr ⟨r.toNat, by omega, by unfold validN; omega⟩
theorem empty_list {b : ByteArray} (h : b.size = 0) : b.toList = [] := by
  rw [ByteArray.toList_eq]
  exact List.eq_nil_of_length_eq_zero (by rw [Array.length_toList]; exact h)
theorem list_empty {b : ByteArray} (h : b.toList = []) : b.size = 0 := by
  rw [ByteArray.toList_eq] at h
  have := congrArg List.length h
  rw [data_length] at this
  simpa using this
/-- A code point's own bytes. -/
theorem own_dec {n : Nat} (hv : validN n) : decAt (bytesP (n : Int)) 0 = some (n, (bytesP (n : Int)).size) := by
  have h : hasAt (bytesP (n : Int)) (bytesP (n : Int)) 0 = true := by
    unfold hasAt
    rw [Nat.add_zero, Nat.zero_add, Bool.and_eq_true, decide_eq_true_eq, decide_eq_true_eq, ByteArray.extract_zero_size]
    exact ⟨Nat.le_refl _, rfl⟩
  have := dec_of_match hv ((hasAt_iff _ 0 hv).1 h)
  rw [← bytesP_size hv] at this
  exact this
theorem own_valid (r : Int) : badR (bytesP r) < 0 := by
  rcases bytesP_of r with ⟨h, _⟩ | ⟨n, rfl, hv⟩
  · rw [h]; decide
  · have hd := own_dec hv
    have hl := enc_range n
    rw [← bytesP_size hv] at hl
    generalize bytesP (n : Int) = b at *
    unfold badR
    obtain ⟨f, hf⟩ : ∃ m, b.size = m + 1 := ⟨b.size - 1, by omega⟩
    have : badFrom b (f + 1) 0 = badFrom b f b.size := by
      rw [bad_step b f 0 (by omega), hd]
      simp only [Nat.zero_add]
    rw [hf, this, badFrom_end _ _ _ (by omega)]
    decide

theorem dec_cont {m b0 b1 b2 b3 : Nat} (h0 : 128 ≤ b0) (h1 : b0 < 192) : dec m b0 b1 b2 b3 = none := by
  unfold dec
  rw [if_neg (by omega), if_neg (by omega), if_neg (by omega), if_neg (by omega)]
theorem own_g {n : Nat} (hv : validN n) (i : Nat) : g (bytesP (n : Int)) i = (enc n).getD i 0 := by
  rw [← bytesP_list hv]
  unfold g
  rw [List.getD_eq_getElem?_getD, List.getD_eq_getElem?_getD, List.getElem?_map]
  cases (bytesP (n : Int)).data.toList[i]? <;> rfl
theorem enc_cont (n i : Nat) (h0 : 1 ≤ i) (h1 : i < (enc n).length) : 128 ≤ (enc n).getD i 0 ∧ (enc n).getD i 0 < 192 := by
  rw [enc_len] at h1
  unfold enc
  split
  · rw [if_pos (by assumption)] at h1; omega
  split
  · rw [if_neg (by assumption), if_pos (by assumption)] at h1
    obtain rfl : i = 1 := by omega
    simp
    omega
  split
  · rw [if_neg (by assumption), if_neg (by assumption), if_pos (by assumption)] at h1
    rcases (by omega : i = 1 ∨ i = 2) with rfl | rfl <;> simp <;> omega
  · rw [if_neg (by assumption), if_neg (by assumption), if_neg (by assumption)] at h1
    rcases (by omega : i = 1 ∨ i = 2 ∨ i = 3) with rfl | rfl | rfl <;> simp <;> omega
theorem pair_is {a b : Int} (ha : a / 1024 = 54) (hb : b / 1024 = 55) : runes_Pair.f a b = some (65536 + (a % 1024) * 1024 + b % 1024, true) := by
  unfold runes_Pair.f
  rw [if_pos ha, if_pos hb, and1023 a (by omega) (by omega), and1023 b (by omega) (by omega), w32 (n := a % 1024 * 1024) (by omega), w32 (n := 65536 + a % 1024 * 1024) (by omega), w32 (by omega)]
theorem pair_not {a b : Int} (h : ¬ (a / 1024 = 54 ∧ b / 1024 = 55)) : runes_Pair.f a b = some (0, false) := by
  unfold runes_Pair.f
  by_cases c1 : a / 1024 = 54
  · rw [if_pos c1, if_neg (fun c2 => h ⟨c1, c2⟩)]
  · rw [if_neg c1]
theorem halves_is {n : Nat} (h0 : 65536 ≤ n) (h1 : n ≤ 1114111) : runes_Halves.f (n : Int) = some (55296 + ((n : Int) - 65536) / 1024, 56320 + ((n : Int) - 65536) % 1024, true) := by
  have hv : validN n := .inr ⟨by omega, h1⟩
  have hs := enc_range n
  rw [← bytesP_size hv] at hs
  have hb : ¬ (bytesP (n : Int)).toList = [] := fun h => by have := list_empty h; omega
  unfold runes_Halves.f runes_Bytes.f
  rw [if_neg (by omega), Option.bind_some, if_neg hb, w32 (n := (n : Int) - 65536) (by omega), and1023 _ (by omega) (by omega), w32 (by omega), w32 (by omega)]
theorem halves_not {a : Int} (h : ¬ (65536 ≤ a ∧ a ≤ 1114111)) : runes_Halves.f a = some (0, 0, false) := by
  unfold runes_Halves.f runes_Bytes.f
  by_cases c : a < 65536
  · rw [if_pos c]
  · rw [if_neg c, Option.bind_some]
    have : Lib.validRune a = false := by
      simp only [Lib.validRune, decide_eq_false_iff_not]
      omega
    rw [bytesP_bad this, if_pos (empty_list rfl)]
theorem back3 (a b : Int) : Ev (fun k => codicillaw01_RunesBack.j3 k a b) true := by
  by_cases h : a / 1024 = 54 ∧ b / 1024 = 55
  · obtain ⟨n, hn⟩ : ∃ n : Nat, 65536 + (a % 1024) * 1024 + b % 1024 = (n : Int) := ⟨(65536 + (a % 1024) * 1024 + b % 1024).toNat, by omega⟩
    have h0 : 65536 ≤ n := by omega
    have h1 : n ≤ 1114111 := by omega
    have hv : validN n := .inr ⟨by omega, h1⟩
    have e1 : 55296 + ((n : Int) - 65536) / 1024 = a := by omega
    have e2 : 56320 + ((n : Int) - 65536) % 1024 = b := by omega
    have hs : ((bytesP (n : Int)).size : Int) = 4 := by
      rw [bytesP_size hv, enc_len, if_neg (by omega), if_neg (by omega), if_neg (by omega)]
      rfl
    refine Ev.step (f := fun _ => some true) (fun k => ?_) (Ev.now _)
    simp only [codicillaw01_RunesBack.j3]
    rw [pair_is h.1 h.2, Option.bind_some, if_pos rfl]
    simp only [hn]
    rw [halves_is h0 h1, Option.bind_some]
    simp only [e1, e2, if_true]
    unfold runes_Bytes.f
    rw [Option.bind_some, if_pos hs, alive01_at]
    rfl
  · refine Ev.step (f := fun _ => some true) (fun k => ?_) (Ev.now _)
    simp only [codicillaw01_RunesBack.j3]
    rw [pair_not h, Option.bind_some, if_neg (by decide), alive01_at]
    rfl
theorem back2 (a b : Int) : Ev (fun k => codicillaw01_RunesBack.j2 k a b) true := by
  by_cases h : 65536 ≤ a ∧ a ≤ 1114111
  · obtain ⟨n, rfl⟩ : ∃ n : Nat, a = (n : Int) := ⟨a.toNat, by omega⟩
    have hh := halves_is (n := n) (by omega) (by omega)
    have p1 : (55296 + ((n : Int) - 65536) / 1024) / 1024 = 54 := by omega
    have p2 : (56320 + ((n : Int) - 65536) % 1024) / 1024 = 55 := by omega
    have hp := pair_is p1 p2
    have e : 65536 + (55296 + ((n : Int) - 65536) / 1024) % 1024 * 1024 + (56320 + ((n : Int) - 65536) % 1024) % 1024 = (n : Int) := by omega
    rw [e] at hp
    have v1 : Lib.validRune (55296 + ((n : Int) - 65536) / 1024) = false := by simp only [Lib.validRune, decide_eq_false_iff_not]; omega
    have v2 : Lib.validRune (56320 + ((n : Int) - 65536) % 1024) = false := by simp only [Lib.validRune, decide_eq_false_iff_not]; omega
    have b1 := bytesP_bad v1
    have b2 := bytesP_bad v2
    have hl : (⟨#[]⟩ : ByteArray).toList = [] := empty_list rfl
    refine Ev.step (fun k => ?_) (back3 (n : Int) b)
    simp only [codicillaw01_RunesBack.j2, hh, hp, Option.bind_some, if_true, runes_Bytes.f, b1, b2, hl]
  · refine Ev.step (fun k => ?_) (back3 a b)
    simp only [codicillaw01_RunesBack.j2]
    rw [halves_not h, Option.bind_some, if_neg (by decide)]
theorem back_first (n : Nat) (hv : validN n) (s t : ByteArray) (hs : s = bytesP (n : Int)) (i : Nat) (h1 : 1 ≤ i) (h : i < s.size) : runes_First.f (s.extract i s.size ++ t) = some (0, 0, false) := by
  have hsz : s.size = (enc n).length := by rw [hs, bytesP_size hv]
  have hc := enc_cont n i h1 (by omega)
  rw [← own_g hv, ← hs] at hc
  have hxs : 0 < (s.extract i s.size).size := by rw [ByteArray.size_extract]; omega
  have hg : g (s.extract i s.size ++ t) 0 = g s i := by rw [app_left _ _ _ hxs, ext_g, Nat.add_zero]
  have : decAt (s.extract i s.size ++ t) 0 = none := by
    unfold decAt
    rw [hg]
    exact dec_cont hc.1 hc.2
  unfold runes_First.f
  rw [firstR_dec, this]
  rfl
theorem back_valid (n : Nat) (hv : validN n) (s : ByteArray) (hs : s = bytesP (n : Int)) (i : Nat) (h1 : 1 ≤ i) (h : i < s.size) (h5 : s.size ≤ 4) : runes_Valid.f (s.extract 0 i) = some false := by
  have hps : (s.extract 0 i).size = i := by rw [ByteArray.size_extract]; omega
  have hnone : decAt (s.extract 0 i) 0 = none := by
    cases hq : decAt (s.extract 0 i) 0 with
    | none => rfl
    | some x =>
      exfalso
      obtain ⟨r, m⟩ := x
      have hm := dec_n hq
      rw [hps, Nat.sub_zero] at hm
      have h3 := dec_same (u := s) (q := 0) hq (by omega) (fun j hj => by rw [Nat.zero_add, pre_left s i j (by omega)])
      have h4 := own_dec hv
      rw [← hs, h3] at h4
      simp only [Option.some.injEq, Prod.mk.injEq] at h4
      have := h4.2
      omega
  have hbad : badR (s.extract 0 i) = 0 := by
    unfold badR
    rw [hps]
    obtain ⟨f, rfl⟩ : ∃ m, i = m + 1 := ⟨i - 1, by omega⟩
    rw [bad_step _ f 0 (by rw [hps]; omega), hnone]
    rfl
  unfold runes_Valid.f runes_Bad.f
  rw [if_pos (by rw [hps]; omega), hbad]
  rfl
theorem back0 (n : Nat) (hv : validN n) (b : Int) (t : ByteArray) (ht : t.size ≤ 4) (s : ByteArray) (hs : s = bytesP (n : Int)) (h5 : s.size ≤ 4) (d : Nat) : ∀ i : Nat, s.size - i ≤ d → 1 ≤ i → i ≤ s.size → Ev (fun k => codicillaw01_RunesBack.l0 k (n : Int) b s t (i : Int)) true := by
  have stop : ∀ i : Nat, ¬ i < s.size → Ev (fun k => codicillaw01_RunesBack.l0 k (n : Int) b s t (i : Int)) true := fun i h => by
    refine Ev.step (fun k => ?_) (back2 (n : Int) b)
    simp only [codicillaw01_RunesBack.l0]
    rw [if_neg (by omega)]
  induction d with
  | zero => intro i hd h1 h2; exact stop i (by omega)
  | succ d ih =>
    intro i hd h1 h2
    by_cases h : i < s.size
    · have hf := back_first n hv s t hs i h1 h
      have hval := back_valid n hv s hs i h1 h h5
      have i1 : (i : Int).toNat = i := by omega
      have i2 : (s.extract i s.size).size + t.size ≤ 9223372036854775807 := by rw [ByteArray.size_extract]; omega
      have i3 : (i : Int) < (s.size : Int) := by omega
      have i4 : (0 : Int) ≤ (i : Int) := by omega
      have i5 : (i : Int) ≤ (s.size : Int) := by omega
      have hw : wrap64 ((i : Int) + 1) = ((i + 1 : Nat) : Int) := by rw [w64 (by omega)]; rfl
      have hi := ih (i + 1) (by omega) (by omega) (by omega)
      clear ih stop hs
      refine Ev.step (fun k => ?_) hi
      simp only [codicillaw01_RunesBack.l0]
      rw [if_pos i3, if_pos i4, if_pos i5, i1, if_pos i2, hf, Option.bind_some, if_neg Bool.false_ne_true, hval, Option.bind_some, if_neg Bool.false_ne_true, hw]
    · exact stop i h
theorem bytesP_small (r : Int) : (bytesP r).size ≤ 4 := by
  rcases bytesP_of r with ⟨h, _⟩ | ⟨n, rfl, hv⟩
  · rw [h]; exact Nat.zero_le _
  · rw [bytesP_size hv]; exact (enc_range n).2
set_option maxHeartbeats 4000000 in
theorem back_pure (a : Int) (_ : (Lit.int .i32 a).wf = true) (b : Int) (_ : (Lit.int .i32 b).wf = true) : ∃ k, codicillaw01_RunesBack.f k a b = some true := by
  refine Ev.rounds ?_
  unfold codicillaw01_RunesBack.f runes_Bytes.f
  simp only [Option.bind_some]
  have ht := bytesP_small b
  have hvb := own_valid b
  rcases bytesP_of a with ⟨h, _⟩ | ⟨n, rfl, hv⟩
  · have hl : (⟨#[]⟩ : ByteArray).toList = [] := empty_list rfl
    simp only [h, hl, if_true]
    exact back2 a b
  · have hd := own_dec hv
    have hva := own_valid (n : Int)
    have hs := bytesP_small (n : Int)
    have hl := enc_range n
    rw [← bytesP_size hv] at hl
    have hne : ¬ (bytesP (n : Int)).toList = [] := fun h => by have := list_empty h; omega
    have hb0 := fun i h1 h2 => back0 n hv b (bytesP b) ht (bytesP (n : Int)) rfl hs _ i (Nat.le_refl _) h1 h2
    generalize bytesP (n : Int) = s at *
    generalize bytesP b = t at *
    have hsum : s.size + t.size ≤ 9223372036854775807 := by omega
    simp only [hne, if_false, hsum, if_true]
    have hf : runes_First.f (s ++ t) = some ((n : Int), (s.size : Int), true) := by
      unfold runes_First.f
      rw [firstR_dec, dec_app s t hd (by omega)]
      rfl
    have hst : (s ++ t).size = s.size + t.size := size_app s t
    have hval : runes_Valid.f (s ++ t) = some true := by
      have := (left_from s t s.size 0 s.size (s ++ t).size t.size (by omega) (Nat.le_refl _) (by omega) (Nat.le_refl _) (by omega) hva).1.2 hvb
      have h2 : badR (s ++ t) < 0 := this
      unfold runes_Valid.f runes_Bad.f
      rw [if_pos (by omega), Option.bind_some, decide_eq_true h2]
    simp only [hf, hval, Option.bind_some, if_true, Bool.not_true]
    refine Ev.step (fun k => ?_) (hb0 1 (by omega) (by omega))
    simp only [codicillaw01_RunesBack.j0]
    rw [if_neg (by decide)]
    rfl
end Go.Proofs.YtkcjekboakoejaaDoor.Print
