/- What the reference answers: Ask, Write, Get. -/
import Derived.Test.YtddjhmelniphgaaGreatDoorQTTok
import Derived.Test.YtddjhmelniphgaaGreatDoorQTVal
import Derived.Test.YtddjhmelniphgaaGreatDoorQTTgt
import Derived.Test.YtddjhmelniphgaaGreatDoorPrint3
import Derived.Test.YtddjhmelniphgaaGreatDoorPrint4
import Derived.Test.YtddjhmelniphgaaGreatDoorPrint5
import Derived.Test.YtddjhmelniphgaaGreatDoorPrint1
namespace Go.Proofs.YtddjhmelniphgaaGreatDoor.Print
open Go.RowKit Go.Proofs.YtddjhmelniphgaaGreatDoorW.PrintWords Go.Proofs.YtddjhmelniphgaaGreatDoorW.PrintLast
set_option linter.unusedVariables false
set_option linter.unusedSimpArgs false
theorem rfields0 (l : List S59) (hl : l.length ≤ 1048576) (hx : ∀ x ∈ l, x.f0.size ≤ 1048576 ∧ x.f1.size ≤ 1048576) : ∀ d i, l.length = i + d → Ev (fun k => codicilref29_fields.l0 k l (i : Int)) ((l.drop i).all okHd && decide (l.length < 64))
  | 0, i, hd => by
    rw [List.drop_of_length_le (by omega)]
    refine Ev.step (f := fun _ => some (decide ((l.length : Int) < 64))) (fun k => ?_) ?_
    · simp only [codicilref29_fields.l0]
      rw [if_neg (by omega)]
    · have e : decide ((l.length : Int) < 64) = decide (l.length < 64) := by rw [decide_eq_decide]; omega
      rw [e]
      exact Ev.now _
  | d + 1, i, hd => by
    have hi : i < l.length := by omega
    rw [List.drop_eq_getElem_cons hi, List.all_cons]
    have hr := rdH l i hi
    obtain ⟨b0, b1⟩ := hx _ (List.getElem_mem hi)
    have ih := rfields0 l hl hx d (i + 1) (by omega)
    generalize l[i] = h at *
    rw [okHd_eq]
    have l0 : h.f0.data.toList.length ≤ 1048576 := by rw [Array.length_toList]; exact b0
    have l1 : h.f1.data.toList.length ≤ 1048576 := by rw [Array.length_toList]; exact b1
    have ht := rtok_ev h.f0.data.toList l0
    have hv := rval_ev h.f1.data.toList l1
    have hsm := small_is h.f0.data.toList l0
    rw [bs_of] at ht hv hsm
    have e3 : h.f0.toList = h.f0.data.toList := ByteArray.toList_eq _
    refine Ev.step (f := fun k => (codicilref29_token.f k h.f0).bind fun t352 => (if t352 = true then (if lowA h.f0.data.toList = h.f0.data.toList then (if h.f0.data.toList = clT then (some false) else (if h.f0.data.toList = teT then (some false) else ((codicilref29_value.f k h.f1).bind fun t355 => (if t355 = true then (codicilref29_fields.l0 k l ((i + 1 : Nat) : Int)) else (some false))))) else (some false)) else (some false))) (fun k => ?_) (Ev.bind ht ?_)
    · simp only [codicilref29_fields.l0]
      rw [if_pos (by omega), if_pos (by omega), hr, hsm, wup (by omega)]
      simp only [Option.bind_some, toL, e3]
    · cases tokP h.f0.data.toList with
      | false => simp only [Bool.false_eq_true, if_false, Bool.false_and]; exact Ev.now _
      | true =>
        simp only [if_true, Bool.true_and]
        by_cases c1 : lowA h.f0.data.toList = h.f0.data.toList
        · simp only [if_pos c1, beq_iff_eq.2 c1, Bool.true_and]
          by_cases c2 : h.f0.data.toList = clT
          · simp only [if_pos c2, beq_iff_eq.2 c2, Bool.not_true, Bool.false_and]; exact Ev.now _
          · simp only [if_neg c2, beq_eq_false_iff_ne.2 c2, Bool.not_false, Bool.true_and]
            by_cases c3 : h.f0.data.toList = teT
            · simp only [if_pos c3, beq_iff_eq.2 c3, Bool.not_true, Bool.false_and]; exact Ev.now _
            · simp only [if_neg c3, beq_eq_false_iff_ne.2 c3, Bool.not_false, Bool.true_and]
              refine Ev.bind hv ?_
              cases valP h.f1.data.toList with
              | false => exact Ev.now _
              | true => exact ih
        · simp only [if_neg c1, beq_eq_false_iff_ne.2 c1, Bool.false_and]; exact Ev.now _
theorem rfields_ev (l : List S59) (hl : l.length ≤ 1048576) (hx : ∀ x ∈ l, x.f0.size ≤ 1048576 ∧ x.f1.size ≤ 1048576) : Ev (fun k => codicilref29_fields.f k l) (l.all okHd && decide (l.length < 64)) := by
  have := rfields0 l hl hx l.length 0 (by omega)
  rw [List.drop_zero] at this
  exact this
theorem rbytes0 (l : List S59) (hl : l.length ≤ 1048576) (body : ByteArray) (hb : body.size ≤ 1048576) : ∀ d i (x : List UInt8), l.length = i + d → x.length + (hdsL (l.drop i)).length ≤ 4194304 →
    Ev (fun k => codicilref29_bytes.l0 k l body (bs x) (i : Int)) (bs (x ++ hdsL (l.drop i) ++ (lenT body).data.toList) ++ body, decide ((x ++ hdsL (l.drop i) ++ (lenT body).data.toList).length ≤ 8192))
  | 0, i, x, hd, hx => by
    rw [List.drop_of_length_le (by omega)]
    have hit : strconv_Itoa.f (body.size : Int) = some (itoaN body.size) := by unfold strconv_Itoa.f; rw [if_pos (by omega)]
    have hil : (itoaN body.size).size ≤ 32 := itoa_small body.size (by omega)
    have e : bs (x ++ hdsL [] ++ (lenT body).data.toList) = ((bs x ++ (⟨#[99, 111, 110, 116, 101, 110, 116, 45, 108, 101, 110, 103, 116, 104, 58, 32]⟩ : ByteArray)) ++ itoaN body.size) ++ (⟨#[13, 10, 13, 10]⟩ : ByteArray) := by
      rw [ap_l, ap_l, ap_l]
      congr 1
      unfold lenT
      simp only [ByteArray.data_append, Array.toList_append, hdsL, List.flatMap_nil, List.append_nil, List.append_assoc]
    have hxl : x.length ≤ 4194304 := by omega
    have z1 : (⟨#[99, 111, 110, 116, 101, 110, 116, 45, 108, 101, 110, 103, 116, 104, 58, 32]⟩ : ByteArray).size = 16 := rfl
    have z2 : (⟨#[13, 10, 13, 10]⟩ : ByteArray).size = 4 := rfl
    have hsz : (x ++ hdsL [] ++ (lenT body).data.toList).length = ((((bs x ++ (⟨#[99, 111, 110, 116, 101, 110, 116, 45, 108, 101, 110, 103, 116, 104, 58, 32]⟩ : ByteArray)) ++ itoaN body.size) ++ (⟨#[13, 10, 13, 10]⟩ : ByteArray))).size := by rw [← e]; rfl
    rw [hsz, e]
    refine Ev.step (f := fun _ => some ((((bs x ++ (⟨#[99, 111, 110, 116, 101, 110, 116, 45, 108, 101, 110, 103, 116, 104, 58, 32]⟩ : ByteArray)) ++ itoaN body.size) ++ (⟨#[13, 10, 13, 10]⟩ : ByteArray)) ++ body, decide (((((bs x ++ (⟨#[99, 111, 110, 116, 101, 110, 116, 45, 108, 101, 110, 103, 116, 104, 58, 32]⟩ : ByteArray)) ++ itoaN body.size) ++ (⟨#[13, 10, 13, 10]⟩ : ByteArray)).size : Int) ≤ 8192))) (fun k => ?_) ?_
    · simp only [codicilref29_bytes.l0]
      rw [if_neg (by omega), if_pos (by rw [bs_size]; omega), hit, Option.bind_some, if_pos (by rw [ByteArray.size_append, bs_size, z1]; omega), if_pos (by rw [ByteArray.size_append, ByteArray.size_append, bs_size, z1]; omega), if_pos (by rw [ByteArray.size_append, ByteArray.size_append, ByteArray.size_append, bs_size, z1, z2]; omega)]
    · have e2 : ∀ n : Nat, decide ((n : Int) ≤ 8192) = decide (n ≤ 8192) := fun n => by rw [decide_eq_decide]; omega
      rw [e2]
      exact Ev.now _
  | d + 1, i, x, hd, hx => by
    have hi : i < l.length := by omega
    have hh := hds_drop l i hi
    have hr := rdH l i hi
    have hT := hdT_len4 l[i]
    rw [hh, List.length_append] at hx
    have ih := rbytes0 l hl body hb d (i + 1) (x ++ (hdT l[i]).data.toList) (by omega) (by rw [List.length_append]; omega)
    rw [List.append_assoc x, ← hh] at ih
    refine Ev.step (fun k => ?_) ih
    generalize l[i] = h at *
    have z1 : (⟨#[58, 32]⟩ : ByteArray).size = 2 := rfl
    simp only [codicilref29_bytes.l0]
    rw [if_pos (by omega), if_pos (by omega), hr, if_pos (by rw [bs_size]; omega), if_pos (by rw [ByteArray.size_append, bs_size]; omega), if_pos (by rw [ByteArray.size_append, ByteArray.size_append, bs_size, z1]; omega), if_pos (by rw [ByteArray.size_append, ByteArray.size_append, ByteArray.size_append, bs_size, z1]; omega), wup (by omega), hdT_list]
    congr 1
    rw [ap_l, ap_l, ap_l, ap_l]
    congr 1
    simp only [List.append_assoc]
theorem rwrite_ev (line : ByteArray) (l : List S59) (body : ByteArray) (hline : line.size ≤ 1048576) (hl : l.length ≤ 1048576) (hx : ∀ x ∈ l, x.f0.size ≤ 1048576 ∧ x.f1.size ≤ 1048576) (hs : (hdsL l).length ≤ 2097152) (hb : body.size ≤ 1048576) :
    Ev (fun k => (codicilref29_bytes.f k line l body).bind fun bt => (if bt.2 = true then (some (bt.1, (0 : Int))) else (some ((⟨#[]⟩ : ByteArray), (2 : Int))))) (writeN line l body) := by
  have hw : writeN line l body = if (l.all okHd && decide (l.length < 64)) = true then (if decide (body.size ≤ 65536) = true then (if decide ((headT line l body).length ≤ 8192) = true then (bs (headT line l body) ++ body, 0) else (ByteArray.empty, 2)) else (ByteArray.empty, 2)) else (ByteArray.empty, 2) := by
    unfold writeN
    cases l.all okHd <;> cases decide (l.length < 64) <;> cases decide (body.size ≤ 65536) <;> cases decide ((headT line l body).length ≤ 8192) <;> rfl
  have hno : Ev (fun k => codicilref29_bytes.j0 k line l body true) ((⟨#[]⟩ : ByteArray), false) := Ev.step (f := fun _ => some ((⟨#[]⟩ : ByteArray), false)) (fun k => by simp only [codicilref29_bytes.j0]; rw [if_pos trivial]) (Ev.now _)
  rw [hw]
  have hbytes : Ev (fun k => codicilref29_bytes.f k line l body) (if (l.all okHd && decide (l.length < 64)) = true then (if decide (body.size ≤ 65536) = true then (bs (headT line l body) ++ body, decide ((headT line l body).length ≤ 8192)) else ((⟨#[]⟩ : ByteArray), false)) else ((⟨#[]⟩ : ByteArray), false)) := by
    unfold codicilref29_bytes.f
    refine Ev.bind (rfields_ev l hl hx) ?_
    cases (l.all okHd && decide (l.length < 64)) with
    | false => simp only [Bool.false_eq_true, if_false]; exact hno
    | true =>
      simp only [if_true]
      by_cases h : body.size ≤ 65536
      · rw [decide_eq_false (show ¬ (body.size : Int) > 65536 by omega), decide_eq_true h, if_pos rfl]
        have e : line ++ (⟨#[13, 10]⟩ : ByteArray) = bs (line ++ (⟨#[13, 10]⟩ : ByteArray)).data.toList := rfl
        have hsz : (line ++ (⟨#[13, 10]⟩ : ByteArray)).data.toList.length = line.size + 2 := by rw [Array.length_toList]; show (line ++ (⟨#[13, 10]⟩ : ByteArray)).size = _; rw [ByteArray.size_append]; rfl
        have := rbytes0 l hl body hb l.length 0 (line ++ (⟨#[13, 10]⟩ : ByteArray)).data.toList (by omega) (by rw [hsz, List.drop_zero]; omega)
        rw [List.drop_zero] at this
        refine Ev.step (fun k => ?_) this
        simp only [codicilref29_bytes.j0]
        rw [if_neg (by decide), if_pos (by omega)]
        rfl
      · rw [decide_eq_true (show (body.size : Int) > 65536 by omega), decide_eq_false h, if_neg (by decide)]
        exact hno
  refine Ev.bind hbytes ?_
  cases (l.all okHd && decide (l.length < 64)) with
  | false => simp only [Bool.false_eq_true, if_false]; exact Ev.now _
  | true =>
    simp only [if_true]
    cases decide (body.size ≤ 65536) with
    | false => simp only [Bool.false_eq_true, if_false]; exact Ev.now _
    | true =>
      simp only [if_true]
      cases decide ((headT line l body).length ≤ 8192) with
      | false => simp only [Bool.false_eq_true, if_false]; exact Ev.now _
      | true => simp only [if_true]; exact Ev.now _
theorem rask_ev (m t : ByteArray) (l : List S59) (body : ByteArray) (hm : m.size ≤ 500000) (ht : t.size ≤ 500000) (hf : fits l body) : Ev (fun k => codicilref29_Ask.f k m t l body) (askN m t l body) := by
  obtain ⟨h1, h2, h3, h4⟩ := hf
  have z1 : (⟨#[32]⟩ : ByteArray).size = 1 := rfl
  have z2 : (⟨#[32, 72, 84, 84, 80, 47, 49, 46, 49]⟩ : ByteArray).size = 9 := rfl
  have e1 : tokenB m = tokP m.data.toList := tokenB_P m.data.toList
  have e2 : targetB t = tgtOk t.data.toList := targetB_P t.data.toList
  have ht1 := rtok_ev m.data.toList (by rw [Array.length_toList]; show m.size ≤ _; omega)
  have ht2 := rtgt_ev t.data.toList (by rw [Array.length_toList]; show t.size ≤ _; omega)
  rw [bs_of] at ht1 ht2
  have hno : Ev (fun k => codicilref29_Ask.j0 k true m t l body) ((⟨#[]⟩ : ByteArray), (2 : Int)) := Ev.step (f := fun _ => some ((⟨#[]⟩ : ByteArray), (2 : Int))) (fun k => by simp only [codicilref29_Ask.j0]; rw [if_pos trivial]) (Ev.now _)
  unfold codicilref29_Ask.f askN
  rw [e1, e2]
  refine Ev.bind ht1 ?_
  cases tokP m.data.toList with
  | false => simp only [Bool.false_eq_true, if_false, Bool.false_and]; exact hno
  | true =>
    simp only [if_true, Bool.true_and]
    refine Ev.bind ht2 ?_
    cases tgtOk t.data.toList with
    | false => exact hno
    | true =>
      rw [if_pos rfl]
      have hsz : (m ++ (⟨#[32]⟩ : ByteArray) ++ t ++ (⟨#[32, 72, 84, 84, 80, 47, 49, 46, 49]⟩ : ByteArray)).size ≤ 1048576 := by
        rw [ByteArray.size_append, ByteArray.size_append, ByteArray.size_append, z1, z2]
        omega
      have hw := rwrite_ev (m ++ (⟨#[32]⟩ : ByteArray) ++ t ++ (⟨#[32, 72, 84, 84, 80, 47, 49, 46, 49]⟩ : ByteArray)) l body hsz h1 h2 (by omega) h4
      refine Ev.step (fun k => ?_) hw
      simp only [codicilref29_Ask.j0]
      rw [if_neg (by decide), if_pos (by omega), if_pos (by rw [ByteArray.size_append, z1]; omega), if_pos (by rw [ByteArray.size_append, ByteArray.size_append, z1]; omega)]
theorem reason0 (x : Int) (R : List (Int × ByteArray)) (hR : R.length ≤ 1000) : ∀ d i, R.length = i + d → Ev (fun k => codicilref29_Reason.l0 k x (R.map (·.1)) (R.map (·.2)) (i : Int)) ((((R.drop i).find? fun p => p.1 == x).map (·.2)).getD ByteArray.empty)
  | 0, i, hd => by
    rw [List.drop_of_length_le (by omega)]
    refine Ev.step (f := fun _ => some (⟨#[]⟩ : ByteArray)) (fun k => ?_) (Ev.now _)
    simp only [codicilref29_Reason.l0]
    rw [if_neg (by rw [List.length_map]; omega)]
  | d + 1, i, hd => by
    have hi : i < R.length := by omega
    rw [List.drop_eq_getElem_cons hi, List.find?_cons]
    have e1 : rd (R.map (·.1)) (i : Int) = R[i].1 := by unfold rd; rw [Int.toNat_natCast, List.getD_eq_getElem?_getD, List.getElem?_map, List.getElem?_eq_getElem hi]; rfl
    have e2 : rdOf ByteArray.empty (R.map (·.2)) (i : Int) = R[i].2 := by unfold rdOf; rw [Int.toNat_natCast, List.getD_eq_getElem?_getD, List.getElem?_map, List.getElem?_eq_getElem hi]; rfl
    have ih := reason0 x R hR d (i + 1) (by omega)
    by_cases h : R[i].1 = x
    · rw [beq_iff_eq.2 h]
      refine Ev.step (f := fun _ => some R[i].2) (fun k => ?_) (Ev.now _)
      simp only [codicilref29_Reason.l0]
      rw [if_pos (by rw [List.length_map]; omega), if_pos (by omega), e1, if_pos h, if_pos (by rw [List.length_map]; omega), e2]
    · rw [beq_eq_false_iff_ne.2 h]
      refine Ev.step (fun k => ?_) ih
      simp only [codicilref29_Reason.l0]
      rw [if_pos (by rw [List.length_map]; omega), if_pos (by omega), e1, if_neg h, wup (by omega)]
theorem reason_ev (x : Int) : Ev (fun k => codicilref29_Reason.f k x) (reasonT x) := by
  have := reason0 x reasonRows (by decide) reasonRows.length 0 (by omega)
  rw [List.drop_zero] at this
  exact this
theorem rsay_ev (c : Int) (l : List S59) (body : ByteArray) (hf : fits l body) : Ev (fun k => codicilref29_Write.f k c l body) (sayN c l body) := by
  obtain ⟨h1, h2, h3, h4⟩ := hf
  have z1 : (⟨#[72, 84, 84, 80, 47, 49, 46, 49, 32]⟩ : ByteArray).size = 9 := rfl
  have z2 : (⟨#[32]⟩ : ByteArray).size = 1 := rfl
  have hno : Ev (fun k => codicilref29_Write.j0 k true c l body) ((⟨#[]⟩ : ByteArray), (2 : Int)) := Ev.step (f := fun _ => some ((⟨#[]⟩ : ByteArray), (2 : Int))) (fun k => by simp only [codicilref29_Write.j0]; rw [if_pos trivial]) (Ev.now _)
  unfold codicilref29_Write.f sayN
  by_cases hc : c < 100
  · simp only [if_pos hc]
    rw [if_neg (by omega)]
    exact hno
  · simp only [if_neg hc]
    by_cases hc2 : c > 599
    · rw [decide_eq_true hc2, if_neg (by omega)]
      exact hno
    · rw [decide_eq_false hc2, if_pos (by omega)]
      have hit : strconv_Itoa.f c = some (itoaN c) := by unfold strconv_Itoa.f; rw [if_pos (by omega)]
      have hil := itoa_small c (by omega)
      have hrl := reason_le c
      refine Ev.step (f := fun k => (codicilref29_Reason.f k c).bind fun t375 => (if (((⟨#[72, 84, 84, 80, 47, 49, 46, 49, 32]⟩ : ByteArray) ++ itoaN c) ++ (⟨#[32]⟩ : ByteArray)).size + t375.size ≤ 9223372036854775807 then ((codicilref29_bytes.f k ((((⟨#[72, 84, 84, 80, 47, 49, 46, 49, 32]⟩ : ByteArray) ++ itoaN c) ++ (⟨#[32]⟩ : ByteArray)) ++ t375) l body).bind fun bt376 => (if bt376.2 = true then (some (bt376.1, (0 : Int))) else (some ((⟨#[]⟩ : ByteArray), (2 : Int))))) else (none))) (fun k => ?_) (Ev.bind (reason_ev c) ?_)
      · simp only [codicilref29_Write.j0]
        rw [if_neg (by decide), hit, Option.bind_some, if_pos (by omega), if_pos (by rw [ByteArray.size_append, z1]; omega)]
      · simp only [if_pos (show (((⟨#[72, 84, 84, 80, 47, 49, 46, 49, 32]⟩ : ByteArray) ++ itoaN c) ++ (⟨#[32]⟩ : ByteArray)).size + (reasonT c).size ≤ 9223372036854775807 by rw [ByteArray.size_append, ByteArray.size_append, z1, z2]; omega)]
        exact rwrite_ev (lineT c) l body (by unfold lineT; simp only [ByteArray.size_append, z1, z2]; omega) h1 h2 (by omega) h4
theorem rget0 (l : List S59) (hl : l.length ≤ 1048576) (n : ByteArray) : ∀ d i, l.length = i + d → Ev (fun k => codicilref29_Get.l0 k l n (i : Int)) (getN (l.drop i) n) ∧ Ev (fun k => http_Get.l0 k n l ((l.length : Nat) : Int) (i : Int)) (getN (l.drop i) n)
  | 0, i, hd => by
    rw [List.drop_of_length_le (by omega)]
    refine ⟨Ev.step (f := fun _ => some ((⟨#[]⟩ : ByteArray), false)) (fun k => ?_) (Ev.now _), Ev.step (f := fun _ => some ((⟨#[]⟩ : ByteArray), false)) (fun k => ?_) (Ev.now _)⟩
    · simp only [codicilref29_Get.l0]
      rw [if_neg (by omega)]
    · simp only [http_Get.l0]
      rw [if_neg (by omega)]
  | d + 1, i, hd => by
    have hi : i < l.length := by omega
    rw [List.drop_eq_getElem_cons hi, getN]
    have hr := rdH l i hi
    obtain ⟨i1, i2⟩ := rget0 l hl n d (i + 1) (by omega)
    by_cases h : l[i].f0.toList = n.toList
    · rw [if_pos h]
      refine ⟨Ev.step (f := fun _ => some (l[i].f1, true)) (fun k => ?_) (Ev.now _), Ev.step (f := fun _ => some (l[i].f1, true)) (fun k => ?_) (Ev.now _)⟩
      · simp only [codicilref29_Get.l0]
        rw [if_pos (by omega), if_pos (by omega), hr, if_pos h]
      · simp only [http_Get.l0]
        rw [if_pos (by omega), if_pos (by omega), if_pos (by omega), hr, if_pos h]
    · rw [if_neg h]
      refine ⟨Ev.step (fun k => ?_) i1, Ev.step (fun k => ?_) i2⟩
      · simp only [codicilref29_Get.l0]
        rw [if_pos (by omega), if_pos (by omega), hr, if_neg h, wup (by omega)]
      · simp only [http_Get.l0]
        rw [if_pos (by omega), if_pos (by omega), if_pos (by omega), hr, if_neg h, wup (by omega)]
theorem rget_ev (l : List S59) (hl : l.length ≤ 1048576) (n : ByteArray) : Ev (fun k => codicilref29_Get.f k l n) (getN l n) ∧ Ev (fun k => http_Get.f k l n) (getN l n) := by
  have := rget0 l hl n l.length 0 (by omega)
  rw [List.drop_zero] at this
  exact this
end Go.Proofs.YtddjhmelniphgaaGreatDoor.Print
