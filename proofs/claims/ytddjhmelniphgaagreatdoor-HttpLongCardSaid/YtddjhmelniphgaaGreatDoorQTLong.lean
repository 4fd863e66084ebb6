/- The plain law of HttpLong: how long a head may be, how many headers it may have, how long a body. -/
import Derived.Test.YtddjhmelniphgaaGreatDoorQAll
import Derived.Test.YtddjhmelniphgaaGreatDoorPrint10
namespace Go.Proofs.YtddjhmelniphgaaGreatDoor.Print
open Go.RowKit Go.Proofs.YtddjhmelniphgaaGreatDoorW.PrintWords Go.Proofs.YtddjhmelniphgaaGreatDoorW.PrintLast
set_option linter.unusedVariables false
set_option linter.unusedSimpArgs false
def getT : ByteArray := ⟨#[71, 69, 84]⟩
def rootT : ByteArray := ⟨#[47]⟩
theorem alive_true : Ev (fun k => (codicillaw29_alive.f k).bind fun t => some t) true := Ev.bind alive29_ev (Ev.now _)
theorem same_read (s : List UInt8) (hs : s.length ≤ 1048576) : Ev (fun k => (http_Read.f (bs s)).bind fun bt429 => ((codicilref29_Read.f k (bs s)).bind fun bt438 => (if bt429.2.2.2.2.2 = bt438.2.2.2.2.2 then ((codicillaw29_alive.f k).bind fun t447 => (some t447)) else (some false)))) true := by
  have h1 := rread_ev s hs
  have h2 := read_is (bs s) hs
  simp only [h2, bs_list, Option.bind_some]
  refine Ev.bind h1 ?_
  simp only [if_true]
  exact alive_true
theorem long2 (a1 : Int) (m t body : ByteArray) (hb : body.size ≤ 100000) (l : List S59) (hl : l.length ≤ 1000) : ∀ d i (x : List UInt8), l.length = i + d → x.length + (hdsL (l.drop i)).length ≤ 100000 →
    Ev (fun k => codicillaw29_HttpLong.l2 k a1 (bs x) (i : Int) m t l body) true
  | 0, i, x, hd, hx => by
    have z1 : (⟨#[99, 111, 110, 116, 101, 110, 116, 45, 108, 101, 110, 103, 116, 104, 58, 32, 54, 53, 53, 51, 55, 13, 10]⟩ : ByteArray).size = 23 := rfl
    have z2 : (⟨#[13, 10]⟩ : ByteArray).size = 2 := rfl
    have hbl : body.data.toList.length = body.size := by rw [Array.length_toList]; rfl
    have hxl : x.length ≤ 100000 := by omega
    by_cases hm : Int.tmod a1 3 = 0
    · have e : ((bs x ++ (⟨#[99, 111, 110, 116, 101, 110, 116, 45, 108, 101, 110, 103, 116, 104, 58, 32, 54, 53, 53, 51, 55, 13, 10]⟩ : ByteArray)) ++ (⟨#[13, 10]⟩ : ByteArray)) ++ body = bs (x ++ [99, 111, 110, 116, 101, 110, 116, 45, 108, 101, 110, 103, 116, 104, 58, 32, 54, 53, 53, 51, 55, 13, 10] ++ [13, 10] ++ body.data.toList) := by
        rw [ap_l, ap_l, ap_l]
      refine Ev.step (fun k => ?_) (same_read (x ++ [99, 111, 110, 116, 101, 110, 116, 45, 108, 101, 110, 103, 116, 104, 58, 32, 54, 53, 53, 51, 55, 13, 10] ++ [13, 10] ++ body.data.toList) (by simp only [List.length_append, List.length_cons, List.length_nil]; omega))
      simp only [codicillaw29_HttpLong.l2]
      rw [if_neg (by omega), if_pos hm, if_pos (by rw [bs_size]; omega), if_pos (by rw [ByteArray.size_append, bs_size, z1]; omega), if_pos (by rw [ByteArray.size_append, ByteArray.size_append, bs_size, z1, z2]; omega), e]
    · have e : (bs x ++ (⟨#[13, 10]⟩ : ByteArray)) ++ body = bs (x ++ [13, 10] ++ body.data.toList) := by rw [ap_l, ap_l]
      refine Ev.step (fun k => ?_) (same_read (x ++ [13, 10] ++ body.data.toList) (by simp only [List.length_append, List.length_cons, List.length_nil]; omega))
      simp only [codicillaw29_HttpLong.l2]
      rw [if_neg (by omega), if_neg hm, if_pos (by rw [bs_size]; omega), if_pos (by rw [ByteArray.size_append, bs_size, z2]; omega), e]
  | d + 1, i, x, hd, hx => by
    have hi : i < l.length := by omega
    have hh := hds_drop l i hi
    have hr := rdH l i hi
    have hT := hdT_len4 l[i]
    rw [hh, List.length_append] at hx
    have ih := long2 a1 m t body hb l hl d (i + 1) (x ++ (hdT l[i]).data.toList) (by omega) (by rw [List.length_append]; omega)
    refine Ev.step (fun k => ?_) ih
    generalize l[i] = h at *
    have z1 : (⟨#[58, 32]⟩ : ByteArray).size = 2 := rfl
    simp only [codicillaw29_HttpLong.l2]
    rw [if_pos (by omega), if_pos (by omega), hr, if_pos (by rw [bs_size]; omega), if_pos (by rw [ByteArray.size_append, bs_size]; omega), if_pos (by rw [ByteArray.size_append, ByteArray.size_append, bs_size, z1]; omega), if_pos (by rw [ByteArray.size_append, ByteArray.size_append, ByteArray.size_append, bs_size, z1]; omega), wup (by omega), hdT_list]
    congr 1
    rw [ap_l, ap_l, ap_l, ap_l]
    congr 1
    simp only [List.append_assoc]
theorem long_j2 (a1 n : Int) (l : List S59) (body : ByteArray) (hf : fits l body) (hb : body.size ≤ 90000) (hl : l.length ≤ 1000) (hh : (hdsL l).length ≤ 90000) (hn : (askN getT rootT l body).2 = 0 ↔ n ≤ 0) : Ev (fun k => codicillaw29_HttpLong.j2 k a1 n getT rootT l body) true := by
  have h1 := ask_is getT rootT l body (by decide) (by decide) hf
  have h2 := rask_ev getT rootT l body (by decide) (by decide) hf
  rcases hse : askN getT rootT l body with ⟨s, e⟩
  rw [hse] at h1 h2 hn
  simp only at hn
  have hne : ((e == 0) != (decide (n ≤ 0))) = false := by
    rw [bne_eq_false_iff_eq, Bool.eq_iff_iff, beq_iff_eq, decide_eq_true_iff]
    exact hn
  refine Ev.step (f := fun k => (codicilref29_Ask.f k getT rootT l body).bind fun bt414 => (if s.toList = bt414.1.toList then (if e = bt414.2 then (codicillaw29_HttpLong.j3 k a1 s e ((e == 0) != (decide (n ≤ 0))) getT rootT l body) else (codicillaw29_HttpLong.j3 k a1 s e true getT rootT l body)) else (codicillaw29_HttpLong.j3 k a1 s e true getT rootT l body))) (fun k => ?_) (Ev.bind h2 ?_)
  · simp only [codicillaw29_HttpLong.j2]
    rw [h1, Option.bind_some]
  · simp only [if_true]
    rw [hne]
    by_cases h0 : e = 0
    · subst h0
      have hle := ask_le _ _ _ _ _ hse
      obtain ⟨k1, _⟩ := req_back _ _ _ _ _ hse
      have q := read_is s (by omega)
      have k1' := k1 ⟨#[]⟩
      have es : s ++ (⟨#[]⟩ : ByteArray) = s := by
        have : s ++ (⟨#[]⟩ : ByteArray) = bs (s.data.toList ++ []) := ap_l s.data.toList ⟨#[]⟩
        rw [this, List.append_nil]
        rfl
      rw [es] at k1'
      rw [k1'] at q
      refine Ev.step (f := fun k => (codicillaw29_Requests.f k getT rootT l body getT rootT l body).bind fun t425 => (if t425 = true then ((codicillaw29_alive.f k).bind fun t426 => (some t426)) else (some false))) (fun k => ?_) (Ev.bind (requests_ev getT rootT body l (by omega)) (by simp only [if_true]; exact alive_true))
      simp only [codicillaw29_HttpLong.j3]
      rw [if_neg (by decide), if_pos trivial, q, Option.bind_some]
      simp only [if_true]
    · have := long2 a1 getT rootT body (by omega) l hl l.length 0 [71, 69, 84, 32, 47, 32, 72, 84, 84, 80, 47, 49, 46, 49, 13, 10] (by omega) (by rw [List.drop_zero]; simp only [List.length_cons, List.length_nil]; omega)
      refine Ev.step (fun k => ?_) this
      simp only [codicillaw29_HttpLong.j3]
      rw [if_neg (by decide), if_neg h0]
      rfl
theorem ask_code (l : List S59) (body : ByteArray) : (askN getT rootT l body).2 = 0 ↔ (l.length < 64 ∧ body.size ≤ 65536 ∧ l.all okHd = true ∧ 16 + (hdsL l).length + (lenT body).data.toList.length ≤ 8192) := by
  have hline : (headT (getT ++ (⟨#[32]⟩ : ByteArray) ++ rootT ++ (⟨#[32, 72, 84, 84, 80, 47, 49, 46, 49]⟩ : ByteArray)) l body).length = 16 + (hdsL l).length + (lenT body).data.toList.length := by
    unfold headT
    rw [List.length_append, List.length_append]
    congr 2
  unfold askN
  rw [if_pos (by decide +kernel)]
  unfold writeN
  rw [hline]
  split
  · rename_i h
    simp only [Bool.and_eq_true, decide_eq_true_iff] at h
    simp only [true_iff]
    exact ⟨h.1.1.1, h.1.1.2, h.1.2, h.2⟩
  · rename_i h
    constructor
    · intro e; exact absurd e (by decide)
    · rintro ⟨h1, h2, h3, h4⟩
      exact absurd (by simp only [Bool.and_eq_true, decide_eq_true_iff]; exact ⟨⟨⟨h1, h2⟩, h3⟩, h4⟩) h
theorem lenT_len (body : ByteArray) (hb : body.size ≤ 65536) : (lenT body).data.toList.length = 20 + (Lib.decDigits body.size).length := by
  unfold lenT
  have : (itoaN (body.size : Int)).data.toList = Lib.decDigits body.size := by
    unfold itoaN Lib.itoa
    rw [if_neg (by omega)]
    rfl
  simp only [ByteArray.data_append, Array.toList_append, this, List.length_append, List.length_cons, List.length_nil]
  omega
/-! ### the three kinds -/
theorem str_rep (N : Nat) (c : UInt8) : strOfNums (List.replicate N ((c.toNat : Nat) : Int)) = bs (List.replicate N c) := by
  unfold strOfNums bs
  congr 2
  rw [List.map_replicate]
  congr 1
  simp
theorem dec_lenB {n : Nat} (h : n ≤ 65536) : 1 ≤ (Lib.decDigits n).length ∧ (Lib.decDigits n).length ≤ 6 := by
  refine ⟨?_, dec_len6 h⟩
  have := dec_ne n
  cases hd : Lib.decDigits n with
  | nil => exact absurd hd this
  | cons a r => simp
theorem long_body (a1 n : Int) (h1 : -128 ≤ n) (h2 : n ≤ 127) (N : Nat) (hN : (N : Int) = 65536 + n) : Ev (fun k => codicillaw29_HttpLong.j2 k a1 n getT rootT [] (strOfNums (List.replicate N 0))) true := by
  have e : strOfNums (List.replicate N 0) = bs (List.replicate N 0) := str_rep N 0
  have hs : (bs (List.replicate N 0)).size = N := by rw [bs_size, List.length_replicate]
  rw [e]
  refine long_j2 a1 n [] _ ⟨by simp, by simp, by simp [hdsL], by rw [hs]; omega⟩ (by rw [hs]; omega) (by simp) (by simp [hdsL]) ?_
  rw [ask_code, hs]
  constructor
  · rintro ⟨_, h, _⟩; omega
  · intro h
    have hN2 : N ≤ 65536 := by omega
    have hl := lenT_len (bs (List.replicate N 0)) (by rw [hs]; exact hN2)
    rw [hs] at hl
    have := dec_lenB hN2
    exact ⟨by decide, hN2, rfl, by rw [hl]; simp only [hdsL, List.flatMap_nil, List.length_nil]; omega⟩
def xyH : S59 := ⟨⟨#[120]⟩, ⟨#[121]⟩⟩
theorem hds_rep (h : S59) : ∀ N : Nat, (hdsL (List.replicate N h)).length = N * (h.f0.size + h.f1.size + 4)
  | 0 => by simp [hdsL]
  | N + 1 => by
    have := hds_rep h N
    unfold hdsL at this ⊢
    rw [List.replicate_succ, List.flatMap_cons, List.length_append, this, hdT_len4, Nat.add_mul]
    omega
theorem long_hds (a1 n : Int) (h1 : -128 ≤ n) (h2 : n ≤ 127) : ∀ d i, (max (63 + n) 0).toNat = i + d → Ev (fun k => codicillaw29_HttpLong.l0 k a1 n (i : Int) getT rootT (List.replicate i xyH) (⟨#[]⟩ : ByteArray)) true
  | 0, i, hd => by
    have hi : i ≤ 190 := by omega
    have hmx : mx (wrap64 (63 + n)) 0 = ((max (63 + n) 0).toNat : Int) := by unfold mx; rw [w64 (by omega)]; split <;> omega
    have hj : Ev (fun k => codicillaw29_HttpLong.j2 k a1 n getT rootT (List.replicate i xyH) (⟨#[]⟩ : ByteArray)) true := by
      have hl : (hdsL (List.replicate i xyH)).length = i * 6 := hds_rep xyH i
      have hm : ∀ x ∈ List.replicate i xyH, x = xyH := fun x hx => List.eq_of_mem_replicate hx
      refine long_j2 a1 n _ _ ⟨by simp; omega, fun x hx => by rw [hm x hx]; decide, by rw [hl]; omega, by decide⟩ (by decide) (by simp; omega) (by rw [hl]; omega) ?_
      rw [ask_code, List.length_replicate, hl]
      have hlT : (lenT (⟨#[]⟩ : ByteArray)).data.toList.length = 21 := by
        rw [lenT_len _ (by decide), show (⟨#[]⟩ : ByteArray).size = 0 from rfl, Lib.decDigits_one (by decide)]
        rfl
      rw [hlT]
      constructor
      · rintro ⟨h, _⟩; omega
      · intro h
        refine ⟨by omega, by decide, List.all_eq_true.2 (fun x hx => ?_), by omega⟩
        rw [hm x hx]
        decide +kernel
    refine Ev.step (fun k => ?_) hj
    simp only [codicillaw29_HttpLong.l0]
    rw [hmx, if_neg (by omega)]
  | d + 1, i, hd => by
    have hmx : mx (wrap64 (63 + n)) 0 = ((max (63 + n) 0).toNat : Int) := by unfold mx; rw [w64 (by omega)]; split <;> omega
    refine Ev.step (fun k => ?_) (long_hds a1 n h1 h2 d (i + 1) (by omega))
    simp only [codicillaw29_HttpLong.l0]
    rw [hmx, if_pos (by omega), if_pos (by omega), List.length_replicate, if_pos (by omega), wup (by omega), List.replicate_succ']
    rfl
theorem set_rep (N i : Nat) (hi : i < N) : (List.replicate i (118 : Int) ++ List.replicate (N - i) 0).set i 118 = List.replicate (i + 1) 118 ++ List.replicate (N - (i + 1)) 0 := by
  obtain ⟨m, hm⟩ : ∃ m, N - i = m + 1 := ⟨N - i - 1, by omega⟩
  rw [hm, show N - (i + 1) = m by omega, List.replicate_succ, List.set_append_right _ _ (by simp), List.length_replicate, Nat.sub_self, List.set_cons_zero, List.replicate_succ' (n := i), List.append_assoc]
  rfl
theorem long_val (a1 n : Int) (h1 : -128 ≤ n) (h2 : n ≤ 127) (N : Nat) (hN : (N : Int) = 8150 + n) : ∀ d i, N = i + d → Ev (fun k => codicillaw29_HttpLong.l1 k a1 n (List.replicate i 118 ++ List.replicate (N - i) 0) (i : Int) getT rootT (⟨#[]⟩ : ByteArray)) true
  | 0, i, hd => by
    obtain rfl : N = i := by omega
    have e : strOfNums (List.replicate N (118 : Int)) = bs (List.replicate N 118) := str_rep N 118
    have hs : (bs (List.replicate N 118)).size = N := by rw [bs_size, List.length_replicate]
    have hj : Ev (fun k => codicillaw29_HttpLong.j2 k a1 n getT rootT [⟨(⟨#[120]⟩ : ByteArray), bs (List.replicate N 118)⟩] (⟨#[]⟩ : ByteArray)) true := by
      have hl : (hdsL [⟨(⟨#[120]⟩ : ByteArray), bs (List.replicate N 118)⟩]).length = N + 5 := by
        have := hds_rep ⟨(⟨#[120]⟩ : ByteArray), bs (List.replicate N 118)⟩ 1
        rw [List.replicate_one, hs, show (⟨#[120]⟩ : ByteArray).size = 1 from rfl] at this
        rw [this]; omega
      refine long_j2 a1 n _ _ ⟨by simp, fun x hx => by rw [List.mem_singleton] at hx; subst hx; exact ⟨by show (⟨#[120]⟩ : ByteArray).size ≤ 1048576; decide, by rw [hs]; omega⟩, by rw [hl]; omega, by decide⟩ (by decide) (by simp) (by rw [hl]; omega) ?_
      rw [ask_code, hl]
      have hlT : (lenT (⟨#[]⟩ : ByteArray)).data.toList.length = 21 := by
        rw [lenT_len _ (by decide), show (⟨#[]⟩ : ByteArray).size = 0 from rfl, Lib.decDigits_one (by decide)]
        rfl
      rw [hlT]
      have hok : okHd ⟨(⟨#[120]⟩ : ByteArray), bs (List.replicate N 118)⟩ = true := by
        rw [okHd_eq]
        have hv : valP (List.replicate N 118) = true := by
          obtain ⟨M, rfl⟩ : ∃ M, N = M + 1 := ⟨N - 1, by omega⟩
          unfold valP
          rw [Bool.and_eq_true]
          have hall : ∀ x ∈ List.replicate (M + 1) (118 : UInt8), x = 118 := fun x hx => List.eq_of_mem_replicate hx
          refine ⟨List.all_eq_true.2 (fun x hx => by rw [hall x hx]; decide), ?_⟩
          cases hr : List.replicate (M + 1) (118 : UInt8) with
          | nil => rfl
          | cons a r =>
            rw [hr] at hall
            unfold endsP
            simp only
            have hlast := hall _ (List.getElem_mem (l := a :: r) (n := r.length) (by simp))
            rw [hlast, hall a (List.mem_cons_self ..)]
            decide
        rw [bs_list, hv]
        show (tokP ([120] : List UInt8) && ((lowA [120] == ([120] : List UInt8)) && (!(([120] : List UInt8) == clT) && (!(([120] : List UInt8) == teT) && true)))) = true
        decide
      constructor
      · rintro ⟨_, _, _, h⟩; omega
      · intro h
        exact ⟨by simp, by decide, by rw [List.all_cons, hok]; rfl, by omega⟩
    refine Ev.step (fun k => ?_) hj
    simp only [codicillaw29_HttpLong.l1]
    rw [Nat.sub_self, List.replicate_zero, List.append_nil, List.length_replicate, if_neg (by omega), e]
  | d + 1, i, hd => by
    have hl : (List.replicate i (118 : Int) ++ List.replicate (N - i) 0).length = N := by simp; omega
    refine Ev.step (fun k => ?_) (long_val a1 n h1 h2 N hN d (i + 1) (by omega))
    simp only [codicillaw29_HttpLong.l1]
    rw [hl, if_pos (by omega), if_pos (by omega), Int.toNat_natCast, set_rep N i (by omega), wup (by omega)]
theorem long_pure : codicillaw29_HttpLong.Pure := by
  intro a0 a1 w0 w1
  refine Ev.rounds ?_
  have b0 : -128 ≤ a0 ∧ a0 ≤ 127 := by
    simp only [Lit.wf, IntKind.min, IntKind.max, IntKind.signed, IntKind.bits, Bool.and_eq_true, decide_eq_true_iff, if_true] at w0
    exact ⟨by have := w0.1; omega, by have := w0.2; omega⟩
  have b1 : 0 ≤ a1 ∧ a1 ≤ 255 := by
    simp only [Lit.wf, IntKind.min, IntKind.max, IntKind.signed, IntKind.bits, Bool.and_eq_true, decide_eq_true_iff, Bool.false_eq_true, if_false] at w1
    exact ⟨w1.1, by have := w1.2; omega⟩
  have ht : Int.tmod a1 3 = a1 % 3 := Int.tmod_eq_emod_of_nonneg b1.1
  unfold codicillaw29_HttpLong.f
  rw [w64 (n := a0) (by omega), w64 (n := 65536 + a0) (by omega), w64 (n := 8150 + a0) (by omega), ht]
  by_cases c0 : a1 % 3 = 0
  · simp only [if_pos c0, if_pos (show 0 ≤ 65536 + a0 by omega), if_pos (show (65536 + a0).toNat ≤ 281474976710656 by omega)]
    exact long_body a1 a0 b0.1 b0.2 _ (by omega)
  · simp only [if_neg c0]
    by_cases c1 : a1 % 3 = 1
    · simp only [if_pos c1]
      exact long_hds a1 a0 b0.1 b0.2 _ 0 (Nat.zero_add _).symm
    · simp only [if_neg c1, if_pos (show a1 % 3 = 2 by omega), if_pos (show 0 ≤ 8150 + a0 by omega), if_pos (show (8150 + a0).toNat ≤ 281474976710656 by omega)]
      have := long_val a1 a0 b0.1 b0.2 (8150 + a0).toNat (by omega) (8150 + a0).toNat 0 (Nat.zero_add _).symm
      rw [List.replicate_zero, List.nil_append, Nat.sub_zero] at this
      exact this
theorem long_row (a0 : Int) (w0 : (Lit.int .i8 a0).wf = true) (a1 : Int) (w1 : (Lit.int .u8 a1).wf = true) : ∃ k, codicillaw29_HttpLong.f k a0 a1 = some true := long_pure a0 a1 w0 w1
end Go.Proofs.YtddjhmelniphgaaGreatDoor.Print
