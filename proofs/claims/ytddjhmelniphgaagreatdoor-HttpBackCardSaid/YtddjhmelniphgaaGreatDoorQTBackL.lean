/- The plain law of HttpBack: what was written is read as itself. -/
import Derived.Test.YtddjhmelniphgaaGreatDoorQTBack
import Derived.Test.YtddjhmelniphgaaGreatDoorQTLarge
import Derived.Test.YtddjhmelniphgaaGreatDoorQTReqs
import Derived.Test.YtddjhmelniphgaaGreatDoorHAlive29
import Derived.Test.YtddjhmelniphgaaGreatDoorOpnT
import Derived.Test.YtddjhmelniphgaaGreatDoorPrint4
namespace Go.Proofs.YtddjhmelniphgaaGreatDoor.Print
open Go.RowKit Go.Proofs.YtddjhmelniphgaaGreatDoorW.PrintWords Go.Proofs.YtddjhmelniphgaaGreatDoorW.PrintLast
set_option linter.unusedVariables false
set_option linter.unusedSimpArgs false
/-! ### a request's first line -/
theorem sp_noCR (a b : List UInt8) (ha : noCR a = true) (hb : noCR b = true) : noCR (a ++ 32 :: b) = true := by
  rw [noCR_app, ha, noCR_cons, hb]
  rfl
theorem req_line (m t : ByteArray) (h : (tokenB m && targetB t) = true) : (m ++ (⟨#[32]⟩ : ByteArray) ++ t ++ (⟨#[32, 72, 84, 84, 80, 47, 49, 46, 49]⟩ : ByteArray)).data.toList ≠ [] ∧ noCR (m ++ (⟨#[32]⟩ : ByteArray) ++ t ++ (⟨#[32, 72, 84, 84, 80, 47, 49, 46, 49]⟩ : ByteArray)).data.toList = true ∧
    reqB (m ++ (⟨#[32]⟩ : ByteArray) ++ t ++ (⟨#[32, 72, 84, 84, 80, 47, 49, 46, 49]⟩ : ByteArray)).data.toList = true ∧ reqM (m ++ (⟨#[32]⟩ : ByteArray) ++ t ++ (⟨#[32, 72, 84, 84, 80, 47, 49, 46, 49]⟩ : ByteArray)).data.toList = m.data.toList ∧ reqT (m ++ (⟨#[32]⟩ : ByteArray) ++ t ++ (⟨#[32, 72, 84, 84, 80, 47, 49, 46, 49]⟩ : ByteArray)).data.toList = t.data.toList := by
  have e : (m ++ (⟨#[32]⟩ : ByteArray) ++ t ++ (⟨#[32, 72, 84, 84, 80, 47, 49, 46, 49]⟩ : ByteArray)).data.toList = m.data.toList ++ 32 :: (t.data.toList ++ 32 :: [72, 84, 84, 80, 47, 49, 46, 49]) := by
    simp only [ByteArray.data_append, Array.toList_append]
    simp
  rw [e]
  rw [Bool.and_eq_true] at h
  have h1 : tokP m.data.toList = true := (tokenB_P m.data.toList).symm.trans h.1
  have h2 : tgtOk t.data.toList = true := (targetB_P t.data.toList).symm.trans h.2
  generalize m.data.toList = a at *
  generalize t.data.toList = b at *
  have k1 := h1
  have k2 := h2
  unfold tokP at k1
  unfold tgtOk at k2
  rw [Bool.and_eq_true] at k1 k2
  obtain ⟨n1, _, n3⟩ := tok_noCR a k1.2
  obtain ⟨n4, n5⟩ := tgt_noCR b k2.1
  have c1 := cutB_at 32 (b ++ 32 :: [72, 84, 84, 80, 47, 49, 46, 49]) a n3
  have c2 := cutB_at 32 [72, 84, 84, 80, 47, 49, 46, 49] b n5
  have m1 : reqM (a ++ 32 :: (b ++ 32 :: [72, 84, 84, 80, 47, 49, 46, 49])) = a := by unfold reqM; rw [cutB_eq, c1]
  have m2 : reqT (a ++ 32 :: (b ++ 32 :: [72, 84, 84, 80, 47, 49, 46, 49])) = b := by unfold reqT; rw [cutB_eq, cutB_eq, c1, c2]
  have m3 : reqV (a ++ 32 :: (b ++ 32 :: [72, 84, 84, 80, 47, 49, 46, 49])) = [72, 84, 84, 80, 47, 49, 46, 49] := by unfold reqV; rw [cutB_eq, cutB_eq, c1, c2]
  refine ⟨by simp, sp_noCR _ _ n1 (sp_noCR _ _ n4 (by decide)), ?_, m1, m2⟩
  unfold reqB
  rw [m1, m2, m3, tokenB_P, targetB_P, h1, h2, toL]
  rfl
theorem req_back (m t : ByteArray) (l : List S59) (body s : ByteArray) (h : askN m t l body = (s, 0)) : (∀ more : ByteArray, reqR (s ++ more).data.toList = (m, t, l, body, (s.size : Int), 0)) ∧
    (∀ c, c < s.size → reqR (s.extract 0 c).data.toList = (ByteArray.empty, ByteArray.empty, [], ByteArray.empty, 0, 290)) := by
  unfold askN at h
  split at h
  case isFalse => exact absurd (congrArg Prod.snd h) (by simp)
  case isTrue hc =>
  obtain ⟨r1, r2, r3, r4, r5⟩ := req_line m t hc
  obtain ⟨hsz, b1, b2⟩ := back_read reqB _ l body ⟨r1, r2⟩ r3 s h
  constructor
  · intro more
    obtain ⟨e1, e2⟩ := b1 more.data.toList
    have ea : (s ++ more).data.toList = s.data.toList ++ more.data.toList := by rw [ByteArray.data_append, Array.toList_append]
    unfold reqR
    rw [ea, e1]
    simp only
    rw [e2, r4, r5]
    rfl
  · intro c hc
    have e : (s.extract 0 c).data.toList = s.data.toList.take c := by
      rw [of_toL s, ext_to, bs_list, bs_list]
    unfold reqR
    rw [e, b2 c hc]
/-! ### a response's first line -/
theorem reason_val (x : Int) : valP (reasonT x).data.toList = true := by
  unfold reasonT
  cases h : reasonRows.find? fun p => p.1 == x with
  | none => rfl
  | some p =>
    have hm := List.mem_of_find?_eq_some h
    have : ∀ q ∈ reasonRows, valP q.2.data.toList = true := by decide +kernel
    exact this p hm
theorem dec3 (n : Nat) (h1 : 100 ≤ n) (h2 : n ≤ 599) : ∃ a b c : UInt8, Lib.decDigits n = [a, b, c] ∧ 49 ≤ a.toNat ∧ a.toNat ≤ 53 ∧ dig b = true ∧ dig c = true ∧ (a.toNat - 48) * 100 + (b.toNat - 48) * 10 + (c.toNat - 48) = n := by
  have e1 := dec_step (a := n / 10) (d := n % 10) (by omega) (by omega)
  rw [show n / 10 * 10 + n % 10 = n by omega] at e1
  have e2 := dec_step (a := n / 10 / 10) (d := n / 10 % 10) (by omega) (by omega)
  rw [show n / 10 / 10 * 10 + n / 10 % 10 = n / 10 by omega] at e2
  have e3 := Lib.decDigits_one (i := n / 10 / 10) (by omega)
  have t1 : (UInt8.ofNat (48 + n / 10 / 10)).toNat = 48 + n / 10 / 10 := by rw [UInt8.toNat_ofNat']; omega
  have t2 : (UInt8.ofNat (48 + n / 10 % 10)).toNat = 48 + n / 10 % 10 := by rw [UInt8.toNat_ofNat']; omega
  have t3 : (UInt8.ofNat (48 + n % 10)).toNat = 48 + n % 10 := by rw [UInt8.toNat_ofNat']; omega
  refine ⟨UInt8.ofNat (48 + n / 10 / 10), UInt8.ofNat (48 + n / 10 % 10), UInt8.ofNat (48 + n % 10), by rw [e1, e2, e3]; rfl, by omega, by omega, ?_, ?_, by omega⟩
  · unfold dig; rw [decide_eq_true (by omega), decide_eq_true (by omega)]; rfl
  · unfold dig; rw [decide_eq_true (by omega), decide_eq_true (by omega)]; rfl
theorem say_line (c : Int) (h1 : 100 ≤ c) (h2 : c ≤ 599) : (lineT c).data.toList ≠ [] ∧ noCR (lineT c).data.toList = true ∧ tldB (lineT c).data.toList = true ∧ ((puV 16 (tldC (lineT c).data.toList) : Nat) : Int) = c := by
  obtain ⟨a, b, d, e, ha, ha2, hb, hd, hv⟩ := dec3 c.toNat (by omega) (by omega)
  have hi : (itoaN c).data.toList = [a, b, d] := by
    unfold itoaN Lib.itoa
    rw [if_neg (by omega), e]
  have el : (lineT c).data.toList = pre9 ++ a :: b :: d :: 32 :: (reasonT c).data.toList := by
    unfold lineT
    simp only [ByteArray.data_append, Array.toList_append, hi]
    simp [pre9]
  have hr := reason_val c
  have hP : tldP a b d 32 (reasonT c).data.toList = true := by
    unfold tldP
    rw [hr, hb, hd, decide_eq_true ha, decide_eq_true ha2]
    rfl
  have hf := tld_full a b d 32 (reasonT c).data.toList
  rw [← el, if_pos hP] at hf
  have hB : tldB (lineT c).data.toList = true := by
    cases hx : tldB (lineT c).data.toList with
    | true => rfl
    | false => rw [hx] at hf; simp only [Bool.false_eq_true, if_false] at hf; omega
  rw [hB, if_pos rfl] at hf
  refine ⟨by rw [el]; simp, ?_, hB, by omega⟩
  have hr2 := hr
  unfold valP at hr2
  rw [Bool.and_eq_true] at hr2
  have hne : ∀ x : UInt8, (49 ≤ x.toNat ∧ x.toNat ≤ 53) ∨ dig x = true → (x == 13) = false ∧ (x == 10) = false := fun x hx => by
    have : 48 ≤ x.toNat := by
      rcases hx with hx | hx
      · omega
      · unfold dig at hx; simp only [Bool.and_eq_true, decide_eq_true_iff] at hx; omega
    refine ⟨beq_eq_false_iff_ne.2 (fun e => ?_), beq_eq_false_iff_ne.2 (fun e => ?_)⟩
    · rw [e] at this; exact absurd this (by decide)
    · rw [e] at this; exact absurd this (by decide)
  obtain ⟨a1, a2⟩ := hne a (.inl ⟨ha, ha2⟩)
  obtain ⟨b1, b2⟩ := hne b (.inr hb)
  obtain ⟨d1, d2⟩ := hne d (.inr hd)
  rw [el, noCR_app, noCR_cons, noCR_cons, noCR_cons, noCR_cons, val_noCR _ hr2.1, a1, a2, b1, b2, d1, d2]
  rfl
theorem say_back (c : Int) (l : List S59) (body s : ByteArray) (h : sayN c l body = (s, 0)) : (∀ more : ByteArray, tldRes (s ++ more).data.toList = (c, l, body, (s.size : Int), 0)) ∧
    (∀ k, k < s.size → tldRes (s.extract 0 k).data.toList = (0, [], ByteArray.empty, 0, 290)) := by
  unfold sayN at h
  split at h
  case isFalse => exact absurd (congrArg Prod.snd h) (by simp)
  case isTrue hc =>
  obtain ⟨r1, r2, r3, r4⟩ := say_line c hc.1 hc.2
  obtain ⟨hsz, b1, b2⟩ := back_read tldB _ l body ⟨r1, r2⟩ r3 s h
  constructor
  · intro more
    obtain ⟨e1, e2⟩ := b1 more.data.toList
    have ea : (s ++ more).data.toList = s.data.toList ++ more.data.toList := by rw [ByteArray.data_append, Array.toList_append]
    unfold tldRes
    rw [ea, e1]
    simp only
    rw [e2, r4]
    rfl
  · intro k hk
    have e : (s.extract 0 k).data.toList = s.data.toList.take k := by
      rw [of_toL s, ext_to, bs_list, bs_list]
    unfold tldRes
    rw [e, b2 k hk]
/-! ### the law -/
theorem write_le (line : ByteArray) (l : List S59) (body s : ByteArray) (h : writeN line l body = (s, 0)) : s.size ≤ 131072 := by
  unfold writeN at h
  split at h
  case isFalse => exact absurd (congrArg Prod.snd h) (by simp)
  case isTrue hc =>
  simp only [Bool.and_eq_true, decide_eq_true_iff] at hc
  have e := (congrArg Prod.fst h).symm
  simp only at e
  rw [e, ByteArray.size_append]
  have : (⟨(headT line l body).toArray⟩ : ByteArray).size = (headT line l body).length := rfl
  omega
theorem ask_le (m t : ByteArray) (l : List S59) (body s : ByteArray) (h : askN m t l body = (s, 0)) : s.size ≤ 131072 := by
  unfold askN at h
  split at h
  · exact write_le _ _ _ _ h
  · exact absurd (congrArg Prod.snd h) (by simp)
theorem say_le (c : Int) (l : List S59) (body s : ByteArray) (h : sayN c l body = (s, 0)) : s.size ≤ 131072 := by
  unfold sayN at h
  split at h
  · exact write_le _ _ _ _ h
  · exact absurd (congrArg Prod.snd h) (by simp)
theorem cut_at (at_ n : Nat) (hn : 0 < n) (h : n ≤ 131072) (ha : at_ ≤ 65535) : (Int.tmod (wrap64 (at_ : Int)) (n : Int)) = ((at_ % n : Nat) : Int) := by
  rw [w64 (by omega)]
  exact (Int.ofNat_tmod at_ n).symm
theorem back_pure (r : S25) (hr : G25 r) (t : S32) (ht : G32 t) (at_ : Int) (ha : (Lit.int .u16 at_).wf = true) (more : ByteArray) (hm : more.size ≤ 140737488351232) : ∃ k, codicillaw29_HttpBack.f k r.f0 r.f1 r.f2 r.f3 t.f0 t.f1 t.f2 at_ more = some true := by
  refine Ev.rounds (g := fun k => codicillaw29_HttpBack.f k r.f0 r.f1 r.f2 r.f3 t.f0 t.f1 t.f2 at_ more) ?_
  obtain ⟨b0, b1, _, _⟩ := hr
  have ha2 : 0 ≤ at_ ∧ at_ ≤ 65535 := by
    simp only [Lit.wf, IntKind.min, IntKind.max, IntKind.signed, IntKind.bits, Bool.and_eq_true, decide_eq_true_iff, Bool.false_eq_true, if_false] at ha
    exact ⟨ha.1, by have := ha.2; omega⟩
  obtain ⟨at_, rfl⟩ : ∃ n : Nat, at_ = (n : Int) := ⟨at_.toNat, by omega⟩
  have hyes : Ev (fun k => codicillaw29_HttpBack.j0 k (at_ : Int) more true r.f0 r.f1 r.f2 r.f3 t.f0 t.f1 t.f2) true :=
    Ev.step (f := fun k => (codicillaw29_alive.f k).bind fun t471 => (some t471)) (fun k => by simp only [codicillaw29_HttpBack.j0]; rw [if_pos trivial]) (Ev.bind alive29_ev (Ev.now _))
  unfold codicillaw29_HttpBack.f
  refine Ev.bind (rlarge_ev r.f2 r.f3) ?_
  cases hl1 : largeB r.f2 r.f3 with
  | true => simp only [if_true]; exact hyes
  | false =>
    simp only [Bool.false_eq_true, if_false]
    refine Ev.bind (rlarge_ev t.f1 t.f2) ?_
    cases hl2 : largeB t.f1 t.f2 with
    | true => simp only [if_true]; exact hyes
    | false =>
      simp only [Bool.false_eq_true, if_false]
      rw [w64 (n := (r.f0.size : Int) + (r.f1.size : Int)) (by omega)]
      by_cases h4 : (r.f0.size : Int) + (r.f1.size : Int) > 4096
      · simp only [if_pos h4]; exact hyes
      · simp only [if_neg h4]
        by_cases h5 : (more.size : Int) > 4096
        · rw [decide_eq_true h5]; exact hyes
        · rw [decide_eq_false h5]
          have f1 := fits_of hl1
          have f2 := fits_of hl2
          have a1 := ask_is r.f0 r.f1 r.f2 r.f3 (by omega) (by omega) f1
          have s1 := say_is t.f0 t.f1 t.f2 f2
          have hz : ∀ s : ByteArray, s.toList ≠ [] → 0 < s.size := fun s h => by
            rcases Nat.eq_zero_or_pos s.size with h0 | h0
            · exfalso
              apply h
              rw [ByteArray.toList_eq]
              exact List.length_eq_zero_iff.1 (by rw [Array.length_toList]; exact h0)
            · exact h0
          have halive : Ev (fun k => (codicillaw29_alive.f k).bind fun t => some t) true := Ev.bind alive29_ev (Ev.now _)
          have hlen2 := f2.1
          have hlen1 := f1.1
          -- the response
          have h3 : ∀ x61 : ByteArray, ∀ e : Int, sayN t.f0 t.f1 t.f2 = (x61, e) → Ev (fun k => if e = 0 then (codicillaw29_HttpBack.j3 k (at_ : Int) more x61 (x61.toList != ([] : List UInt8)) t.f0 t.f1 t.f2) else (codicillaw29_HttpBack.j3 k (at_ : Int) more x61 false t.f0 t.f1 t.f2)) true := fun s e he => by
            have hno : Ev (fun k => codicillaw29_HttpBack.j3 k (at_ : Int) more s false t.f0 t.f1 t.f2) true :=
              Ev.step (fun k => by simp only [codicillaw29_HttpBack.j3]; rw [if_neg (by decide)]) halive
            by_cases h0 : e = 0
            · subst h0
              simp only [if_true]
              by_cases hs : s.toList = []
              · rw [bne_eq_false_iff_eq.2 hs]; exact hno
              · rw [bne_iff_ne.2 hs]
                have hpos := hz s hs
                have hle := say_le _ _ _ _ he
                obtain ⟨k1, k2⟩ := say_back _ _ _ _ he
                have hcut := cut_at at_ s.size hpos hle (by omega)
                have hlt := Nat.mod_lt at_ hpos
                have q1 := told_is (s ++ more) (by rw [ByteArray.size_append]; omega)
                have q2 := told_is (s.extract 0 (at_ % s.size)) (by rw [ByteArray.size_extract]; omega)
                rw [k1 more] at q1
                rw [k2 _ hlt] at q2
                refine Ev.step (f := fun k => (codicillaw29_Responses.f k t.f0 t.f1 t.f2 t.f0 t.f1 t.f2).bind fun t511 => (if t511 = true then ((codicillaw29_alive.f k).bind fun t512 => (some t512)) else (some false))) (fun k => ?_) (Ev.bind (responses_ev t.f0 t.f2 t.f1 hlen2) (by simp only [if_true]; exact halive))
                simp only [codicillaw29_HttpBack.j3]
                rw [if_pos trivial, if_pos (by omega), q1, Option.bind_some, if_neg (by omega), hcut, if_pos (by omega), if_pos (by omega), Int.toNat_natCast, q2, Option.bind_some]
                simp only [if_true]
            · simp only [if_neg h0]; exact hno
          have hj2 : Ev (fun k => codicillaw29_HttpBack.j2 k (at_ : Int) more t.f0 t.f1 t.f2) true := by
            rcases hse : sayN t.f0 t.f1 t.f2 with ⟨s, e⟩
            refine Ev.step (fun k => ?_) (h3 s e hse)
            simp only [codicillaw29_HttpBack.j2]
            rw [s1, hse, Option.bind_some]
          -- the request
          rcases hse : askN r.f0 r.f1 r.f2 r.f3 with ⟨s, e⟩
          have hno : Ev (fun k => codicillaw29_HttpBack.j1 k (at_ : Int) more s false r.f0 r.f1 r.f2 r.f3 t.f0 t.f1 t.f2) true :=
            Ev.step (fun k => by simp only [codicillaw29_HttpBack.j1]; rw [if_neg (by decide)]) hj2
          have h1 : Ev (fun k => if e = 0 then (codicillaw29_HttpBack.j1 k (at_ : Int) more s (s.toList != ([] : List UInt8)) r.f0 r.f1 r.f2 r.f3 t.f0 t.f1 t.f2) else (codicillaw29_HttpBack.j1 k (at_ : Int) more s false r.f0 r.f1 r.f2 r.f3 t.f0 t.f1 t.f2)) true := by
            by_cases h0 : e = 0
            · subst h0
              simp only [if_true]
              by_cases hs : s.toList = []
              · rw [bne_eq_false_iff_eq.2 hs]; exact hno
              · rw [bne_iff_ne.2 hs]
                have hpos := hz s hs
                have hle := ask_le _ _ _ _ _ hse
                obtain ⟨k1, k2⟩ := req_back _ _ _ _ _ hse
                have hcut := cut_at at_ s.size hpos hle (by omega)
                have hlt := Nat.mod_lt at_ hpos
                have q1 := read_is (s ++ more) (by rw [ByteArray.size_append]; omega)
                have q2 := read_is (s.extract 0 (at_ % s.size)) (by rw [ByteArray.size_extract]; omega)
                rw [k1 more] at q1
                rw [k2 _ hlt] at q2
                refine Ev.step (f := fun k => (codicillaw29_Requests.f k r.f0 r.f1 r.f2 r.f3 r.f0 r.f1 r.f2 r.f3).bind fun t492 => (if t492 = true then (codicillaw29_HttpBack.j2 k (at_ : Int) more t.f0 t.f1 t.f2) else (some false))) (fun k => ?_) (Ev.bind (requests_ev r.f0 r.f1 r.f3 r.f2 hlen1) (by simp only [if_true]; exact hj2))
                simp only [codicillaw29_HttpBack.j1]
                rw [if_pos trivial, if_pos (by omega), q1, Option.bind_some, if_neg (by omega), hcut, if_pos (by omega), if_pos (by omega), Int.toNat_natCast, q2, Option.bind_some]
                simp only [if_true]
            · simp only [if_neg h0]; exact hno
          refine Ev.step (fun k => ?_) h1
          simp only [codicillaw29_HttpBack.j0]
          rw [if_neg (by decide), a1, hse, Option.bind_some]
end Go.Proofs.YtddjhmelniphgaaGreatDoor.Print
