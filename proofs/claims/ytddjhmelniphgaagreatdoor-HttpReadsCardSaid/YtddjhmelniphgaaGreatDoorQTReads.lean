/- The plain law of HttpReads: what stands at the front of bytes. -/
import Derived.Test.YtddjhmelniphgaaGreatDoorQTM
import Derived.Test.YtddjhmelniphgaaGreatDoorHAlive29
import Derived.Test.YtddjhmelniphgaaGreatDoorPrint7
import Derived.Test.YtddjhmelniphgaaGreatDoorPrint8
import Derived.Test.YtddjhmelniphgaaGreatDoorPrint9
namespace Go.Proofs.YtddjhmelniphgaaGreatDoor.Print
open Go.RowKit Go.Proofs.YtddjhmelniphgaaGreatDoorW.PrintWords Go.Proofs.YtddjhmelniphgaaGreatDoorW.PrintLast
set_option linter.unusedVariables false
set_option linter.unusedSimpArgs false
theorem rfirst_ev (l : List UInt8) (hl : l.length ≤ 1048576) : Ev (fun k => codicilref29_first.f k (bs l)) (firstB l) := by
  unfold codicilref29_first.f firstB
  refine Ev.bind (rreq_ev l hl) ?_
  dsimp only
  cases reqB l with
  | true => simp only [if_true, Bool.true_or]; exact Ev.now _
  | false =>
    simp only [Bool.false_eq_true, if_false, Bool.false_or]
    refine Ev.bind (rresp_ev l hl) ?_
    cases h : tldB l with
    | false => simp only [Bool.false_eq_true, if_false]; exact Ev.now _
    | true =>
      have := tldB_code h
      simp only [if_true, show decide (((puV 16 (tldC l) : Nat) : Int) > 0) = true from decide_eq_true (by omega)]
      exact Ev.now _
theorem rlines_head (s : List UInt8) (hs : s.length ≤ 1048576) (hf : (headOf s).2.2 = true) (l0 : List UInt8) (ls : List (List UInt8)) (hp : partsL [13, 10] (headOf s).1.length (headOf s).1 = l0 :: ls) :
    Ev (fun k => codicilref29_lines.f k ((bs s).extract 0 ((wrap64 ((((headOf s).1.length + 4 : Nat) : Int) - 4)) : Int).toNat)) (if (l0 :: ls).all noCR = true then ((l0 :: ls).map bs, true) else ([], false)) := by
  obtain ⟨h1, h2⟩ := head_pre s hf
  have hw : wrap64 ((((headOf s).1.length + 4 : Nat) : Int) - 4) = (((headOf s).1.length : Nat) : Int) := by rw [w64 (by omega)]; omega
  rw [hw, Int.toNat_natCast, ext_to, h2]
  have := rlines_ev (headOf s).1 (by omega)
  rw [hp] at this
  exact this
theorem rhead_ev (s : List UInt8) (hs : s.length ≤ 1048576) : Ev (fun k => codicilref29_Head.f k (bs s)) (headR s) := by
  unfold codicilref29_Head.f
  refine Ev.bind (rend_ev s hs) ?_
  unfold headR
  rw [bs_size]
  cases hf : (headOf s).2.2 with
  | false =>
    simp only [Bool.false_eq_true, if_false, if_true]
    rw [read_none firstB s hf]
    by_cases h : s.length < 8192
    · simp only [if_neg (show ¬ (s.length : Int) ≥ 8192 by omega), if_pos h]; exact Ev.now _
    · simp only [if_pos (show (s.length : Int) ≥ 8192 by omega), if_neg h]; exact Ev.now _
  | true =>
    obtain ⟨l0, ls, hp⟩ := parts_cons (headOf s).1.length (headOf s).1
    obtain ⟨h1, h2⟩ := head_pre s hf
    have hpl := partsL_len [13, 10] (headOf s).1.length (headOf s).1
    rw [hp, List.length_cons] at hpl
    have hx := part_le hp
    have hw : wrap64 ((((headOf s).1.length + 4 : Nat) : Int) - 4) = (((headOf s).1.length : Nat) : Int) := by rw [w64 (by omega)]; omega
    have hlines := rlines_head s hs hf l0 ls hp
    rw [hw] at hlines
    simp only [if_true, if_neg (show ¬ (((headOf s).1.length + 4 : Nat) : Int) = 0 by omega)]
    rw [hw]
    simp only [if_pos (show (0 : Int) ≤ (((headOf s).1.length : Nat) : Int) by omega), if_pos (show (((headOf s).1.length : Nat) : Int) ≤ (s.length : Int) by omega)]
    refine Ev.bind hlines ?_
    rw [read_form firstB s l0 ls hf hp]
    have hno : ∀ x7 x8 x10 x11, Ev (fun k => codicilref29_Head.j0 k (bs s) x7 x8 x10 x11 true) ((⟨#[]⟩ : ByteArray), ([] : List S59), (⟨#[]⟩ : ByteArray), (0 : Int), (291 : Int)) := fun _ _ _ _ =>
      Ev.step (f := fun _ => some ((⟨#[]⟩ : ByteArray), ([] : List S59), (⟨#[]⟩ : ByteArray), (0 : Int), (291 : Int))) (fun k => by simp only [codicilref29_Head.j0]; rw [if_pos trivial]) (Ev.now _)
    cases hall : (l0 :: ls).all noCR with
    | false =>
      have hk : okHead firstB l0 ls = false := by unfold okHead; rw [hall]; rfl
      simp only [hk, Bool.false_eq_true, if_false, finL]
      exact Ev.now _
    | true =>
      have hk : okHead firstB l0 ls = (firstB l0 && decide (ls.length ≤ 64)) := by unfold okHead; rw [hall, Bool.true_and]
      have hh := rhdr_ev ls (by omega) (fun x hm => Nat.le_trans (hx x (List.mem_cons_of_mem _ hm)) (by omega))
      have e1 : ((l0 :: ls).map bs).drop 1 = ls.map bs := rfl
      have e2 : rdOf ByteArray.empty ((l0 :: ls).map bs) 0 = bs l0 := rfl
      simp only [if_true, List.length_map, List.length_cons, if_pos (show (1 : Int) ≤ ((ls.length + 1 : Nat) : Int) by omega), if_pos (show (0 : Int) < ((ls.length + 1 : Nat) : Int) by omega), e1, e2, hk]
      refine Ev.bind hh ?_
      by_cases h64 : 64 < ls.length
      · simp only [if_pos h64, decide_eq_false (show ¬ ls.length ≤ 64 by omega), Bool.and_false, Bool.false_eq_true, if_false, finL]
        exact hno _ _ _ _
      · simp only [if_neg h64, decide_eq_true (show ls.length ≤ 64 by omega), Bool.and_true]
        cases hr : runH ls ([], 0, false) with
        | none => simp only [Bool.false_eq_true, if_false, ite_self, finL]; exact hno _ _ _ _
        | some st =>
          obtain ⟨hs', body, tt⟩ := st
          simp only [if_true]
          refine Ev.bind (rfirst_ev l0 (Nat.le_trans (hx l0 (List.mem_cons_self ..)) (by omega))) ?_
          cases firstB l0 with
          | false => simp only [Bool.not_false, Bool.false_eq_true, if_false, finL]; exact hno _ _ _ _
          | true =>
            simp only [Bool.not_true, if_true, finL]
            by_cases hb : 65536 < body
            · simp only [if_pos hb]
              refine Ev.step (f := fun _ => some _) (fun k => ?_) (Ev.now _)
              simp only [codicilref29_Head.j0]
              rw [if_neg (by decide), if_pos (by omega)]
            · have hwk : wrap64 ((((headOf s).1.length + 4 : Nat) : Int) + ((body : Nat) : Int)) = (((headOf s).1.length + 4 + body : Nat) : Int) := by rw [w64 (by omega)]; rfl
              simp only [if_neg hb]
              by_cases hn : s.length < (headOf s).1.length + 4 + body
              · simp only [if_pos hn]
                refine Ev.step (f := fun _ => some _) (fun k => ?_) (Ev.now _)
                simp only [codicilref29_Head.j0]
                rw [if_neg (by decide), if_neg (by omega), hwk, if_pos (by rw [bs_size]; omega)]
              · simp only [if_neg hn]
                refine Ev.step (f := fun _ => some _) (fun k => ?_) (Ev.now _)
                simp only [codicilref29_Head.j0]
                rw [if_neg (by decide), if_neg (by omega), hwk, if_neg (by rw [bs_size]; omega), if_pos (by simp only [List.length_map, List.length_cons]; omega), if_pos (by omega), if_pos (by omega), if_pos (by rw [bs_size]; omega), Int.toNat_natCast, Int.toNat_natCast, ext_bs, lineOf_is hp]
                rw [show (headOf s).1.length + 4 + body - ((headOf s).1.length + 4) = body by omega]
                rfl
theorem rread_ev (s : List UInt8) (hs : s.length ≤ 1048576) : Ev (fun k => codicilref29_Read.f k (bs s)) (reqR s) := by
  unfold codicilref29_Read.f
  refine Ev.bind (rhead_ev s hs) ?_
  refine Ev.bind (rend_ev s hs) ?_
  have hfin : ∀ (l : List S59) (b : ByteArray) (n e t : Int) (m tg : ByteArray), Ev (fun k => codicilref29_Read.j0 k (bs s) l b n e t m tg false) (if e = 0 then (m, tg, l, b, n, 0) else ((⟨#[]⟩ : ByteArray), (⟨#[]⟩ : ByteArray), ([] : List S59), (⟨#[]⟩ : ByteArray), (0 : Int), e)) := fun l b n e t m tg => by
    refine Ev.step (f := fun _ => some _) (fun k => ?_) (Ev.now _)
    simp only [codicilref29_Read.j0]
    rw [if_neg (by decide)]
    split <;> rfl
  cases hf : (headOf s).2.2 with
  | false =>
    have e1 : headR s = ((⟨#[]⟩ : ByteArray), ([] : List S59), (⟨#[]⟩ : ByteArray), (0 : Int), if s.length < 8192 then 290 else 292) := by unfold headR; rw [read_none firstB s hf]
    have e2 : reqR s = ((⟨#[]⟩ : ByteArray), (⟨#[]⟩ : ByteArray), ([] : List S59), (⟨#[]⟩ : ByteArray), (0 : Int), if s.length < 8192 then 290 else 292) := by unfold reqR; rw [read_none reqB s hf]; rfl
    obtain ⟨er, her⟩ : ∃ er : Int, er = if s.length < 8192 then 290 else 292 := ⟨_, rfl⟩
    have he0 : er ≠ 0 := by rw [her]; split <;> decide
    rw [← her] at e1 e2
    rw [e1, e2]
    simp only [Bool.false_eq_true, if_false]
    refine Ev.bind (rreq_ev [] (by simp)) ?_
    simp only [if_neg (show ¬ (0 : Int) > 0 by decide)]
    have := hfin [] ⟨#[]⟩ 0 er 0 (bs (reqM [])) (bs (reqT []))
    rw [if_neg he0] at this
    exact this
  | true =>
    obtain ⟨l0, ls, hp⟩ := parts_cons (headOf s).1.length (headOf s).1
    obtain ⟨k1, k2⟩ := read_kind reqB s l0 ls hf hp (fun h => by unfold firstB; rw [h]; rfl)
    have hl0 := line_le s l0 ls hf hp
    have hli := lineOf_is hp
    simp only [if_true]
    cases hr : readL firstB s with
    | error e =>
      have he := readL_err0 hr
      have e1 : headR s = ((⟨#[]⟩ : ByteArray), ([] : List S59), (⟨#[]⟩ : ByteArray), (0 : Int), e) := by unfold headR; rw [hr]
      rw [e1]
      refine Ev.bind (rreq_ev [] (by simp)) ?_
      simp only [if_pos (show (((headOf s).1.length + 4 : Nat) : Int) > 0 by omega)]
      by_cases h291 : e = 291
      · have e2 : reqR s = ((⟨#[]⟩ : ByteArray), (⟨#[]⟩ : ByteArray), ([] : List S59), (⟨#[]⟩ : ByteArray), (0 : Int), (291 : Int)) := by unfold reqR; rw [k1, hr, h291, ite_self]; rfl
        rw [e2, h291]
        have := hfin [] ⟨#[]⟩ 0 291 (((headOf s).1.length + 4 : Nat) : Int) (bs (reqM [])) (bs (reqT []))
        rw [if_neg (by decide)] at this
        exact this
      · have hall := k2 (by rw [hr]; intro h; injection h with h; exact h291 h)
        have hlines := rlines_head s hs hf l0 ls hp
        rw [if_pos hall] at hlines
        rw [show ((e : Int) != 291) = true from bne_iff_ne.2 h291]
        have hj : Ev (fun k => (codicilref29_lines.f k ((bs s).extract 0 ((wrap64 ((((headOf s).1.length + 4 : Nat) : Int) - 4)) : Int).toNat)).bind fun bt216 => (if 0 < (bt216.1.length : Int) then ((codicilref29_request.f k (rdOf ByteArray.empty bt216.1 0)).bind fun bt221 => (if bt221.2.2 = true then (if e = 0 then (some (bs (reqM []), bs (reqT []), ([] : List S59), (⟨#[]⟩ : ByteArray), (0 : Int), (0 : Int))) else (some ((⟨#[]⟩ : ByteArray), (⟨#[]⟩ : ByteArray), ([] : List (S59)), (⟨#[]⟩ : ByteArray), 0, e))) else (some ((⟨#[]⟩ : ByteArray), (⟨#[]⟩ : ByteArray), ([] : List (S59)), (⟨#[]⟩ : ByteArray), 0, 291)))) else (none))) (reqR s) := by
          refine Ev.bind hlines ?_
          simp only [List.length_map, List.length_cons, if_pos (show (0 : Int) < ((ls.length + 1 : Nat) : Int) by omega)]
          refine Ev.bind (rreq_ev l0 (by omega)) ?_
          unfold reqR
          rw [k1, hr]
          cases reqB l0 with
          | true => simp only [if_true, if_neg he]; exact Ev.now _
          | false => simp only [Bool.false_eq_true, if_false]; exact Ev.now _
        refine Ev.step (fun k => ?_) hj
        simp only [codicilref29_Read.j0]
        have hw : wrap64 ((((headOf s).1.length + 4 : Nat) : Int) - 4) = (((headOf s).1.length : Nat) : Int) := by have := (head_pre s hf).1; rw [w64 (by omega)]; omega
        rw [if_pos trivial, hw, if_pos (by omega), if_pos (by have := (head_pre s hf).1; rw [bs_size]; omega)]
    | ok q =>
      obtain ⟨hs', b, n⟩ := q
      have e1 : headR s = (bs l0, hs', bs b, ((n : Nat) : Int), 0) := by unfold headR; rw [hr, hli]
      rw [e1]
      refine Ev.bind (rreq_ev l0 (by omega)) ?_
      simp only [if_pos (show (((headOf s).1.length + 4 : Nat) : Int) > 0 by omega)]
      have hall := k2 (by rw [hr]; intro h; cases h)
      have hlines := rlines_head s hs hf l0 ls hp
      rw [if_pos hall] at hlines
      rw [show ((0 : Int) != 291) = true from rfl]
      have hj : Ev (fun k => (codicilref29_lines.f k ((bs s).extract 0 ((wrap64 ((((headOf s).1.length + 4 : Nat) : Int) - 4)) : Int).toNat)).bind fun bt216 => (if 0 < (bt216.1.length : Int) then ((codicilref29_request.f k (rdOf ByteArray.empty bt216.1 0)).bind fun bt221 => (if bt221.2.2 = true then (if (0 : Int) = 0 then (some (bs (reqM l0), bs (reqT l0), hs', bs b, ((n : Nat) : Int), (0 : Int))) else (some ((⟨#[]⟩ : ByteArray), (⟨#[]⟩ : ByteArray), ([] : List (S59)), (⟨#[]⟩ : ByteArray), 0, 0))) else (some ((⟨#[]⟩ : ByteArray), (⟨#[]⟩ : ByteArray), ([] : List (S59)), (⟨#[]⟩ : ByteArray), 0, 291)))) else (none))) (reqR s) := by
        refine Ev.bind hlines ?_
        simp only [List.length_map, List.length_cons, if_pos (show (0 : Int) < ((ls.length + 1 : Nat) : Int) by omega)]
        refine Ev.bind (rreq_ev l0 (by omega)) ?_
        unfold reqR
        rw [k1, hr, hli]
        cases reqB l0 with
        | true => simp only [if_true]; exact Ev.now _
        | false => simp only [Bool.false_eq_true, if_false]; exact Ev.now _
      refine Ev.step (fun k => ?_) hj
      simp only [codicilref29_Read.j0]
      have hw : wrap64 ((((headOf s).1.length + 4 : Nat) : Int) - 4) = (((headOf s).1.length : Nat) : Int) := by have := (head_pre s hf).1; rw [w64 (by omega)]; omega
      rw [if_pos trivial, hw, if_pos (by omega), if_pos (by have := (head_pre s hf).1; rw [bs_size]; omega)]
theorem rtold_ev (s : List UInt8) (hs : s.length ≤ 1048576) : Ev (fun k => codicilref29_Told.f k (bs s)) (tldRes s) := by
  unfold codicilref29_Told.f
  refine Ev.bind (rhead_ev s hs) ?_
  refine Ev.bind (rend_ev s hs) ?_
  have hbad : ∀ (x5 : ByteArray) (l : List S59) (b : ByteArray) (n e t : Int), e ≠ 0 → Ev (fun k => codicilref29_Told.j0 k (bs s) x5 l b n e t false) ((0 : Int), ([] : List S59), (⟨#[]⟩ : ByteArray), (0 : Int), e) := fun x5 l b n e t he => by
    refine Ev.step (f := fun _ => some _) (fun k => ?_) (Ev.now _)
    simp only [codicilref29_Told.j0]
    rw [if_neg (by decide), if_neg he]
  cases hf : (headOf s).2.2 with
  | false =>
    have e1 : headR s = ((⟨#[]⟩ : ByteArray), ([] : List S59), (⟨#[]⟩ : ByteArray), (0 : Int), if s.length < 8192 then 290 else 292) := by unfold headR; rw [read_none firstB s hf]
    have e2 : tldRes s = ((0 : Int), ([] : List S59), (⟨#[]⟩ : ByteArray), (0 : Int), if s.length < 8192 then 290 else 292) := by unfold tldRes; rw [read_none tldB s hf]; rfl
    obtain ⟨er, her⟩ : ∃ er : Int, er = if s.length < 8192 then 290 else 292 := ⟨_, rfl⟩
    have he0 : er ≠ 0 := by rw [her]; split <;> decide
    rw [← her] at e1 e2
    rw [e1, e2]
    simp only [Bool.false_eq_true, if_false, if_neg (show ¬ (0 : Int) > 0 by decide)]
    exact hbad _ _ _ _ _ _ he0
  | true =>
    obtain ⟨l0, ls, hp⟩ := parts_cons (headOf s).1.length (headOf s).1
    obtain ⟨k1, k2⟩ := read_kind tldB s l0 ls hf hp (fun h => by unfold firstB; rw [h, Bool.or_true])
    have hl0 := line_le s l0 ls hf hp
    have hli := lineOf_is hp
    have hpr := (head_pre s hf).1
    have hw : wrap64 ((((headOf s).1.length + 4 : Nat) : Int) - 4) = (((headOf s).1.length : Nat) : Int) := by rw [w64 (by omega)]; omega
    simp only [if_true]
    cases hr : readL firstB s with
    | error e =>
      have he := readL_err0 hr
      have e1 : headR s = ((⟨#[]⟩ : ByteArray), ([] : List S59), (⟨#[]⟩ : ByteArray), (0 : Int), e) := by unfold headR; rw [hr]
      rw [e1]
      simp only [if_pos (show (((headOf s).1.length + 4 : Nat) : Int) > 0 by omega)]
      by_cases h291 : e = 291
      · have e2 : tldRes s = ((0 : Int), ([] : List S59), (⟨#[]⟩ : ByteArray), (0 : Int), (291 : Int)) := by unfold tldRes; rw [k1, hr, h291, ite_self]; rfl
        rw [e2, h291]
        exact hbad _ _ _ _ _ _ (by decide)
      · have hall := k2 (by rw [hr]; intro h; injection h with h; exact h291 h)
        have hlines := rlines_head s hs hf l0 ls hp
        rw [if_pos hall] at hlines
        rw [show ((e : Int) != 291) = true from bne_iff_ne.2 h291]
        have hj : Ev (fun k => (codicilref29_lines.f k ((bs s).extract 0 ((wrap64 ((((headOf s).1.length + 4 : Nat) : Int) - 4)) : Int).toNat)).bind fun bt233 => (if 0 < (bt233.1.length : Int) then ((codicilref29_response.f k (rdOf ByteArray.empty bt233.1 0)).bind fun t238 => (if t238 = 0 then (some ((0 : Int), ([] : List (S59)), (⟨#[]⟩ : ByteArray), (0 : Int), (291 : Int))) else (some ((0 : Int), ([] : List (S59)), (⟨#[]⟩ : ByteArray), (0 : Int), e)))) else (none))) (tldRes s) := by
          refine Ev.bind hlines ?_
          simp only [List.length_map, List.length_cons, if_pos (show (0 : Int) < ((ls.length + 1 : Nat) : Int) by omega)]
          refine Ev.bind (rresp_ev l0 (by omega)) ?_
          unfold tldRes
          rw [k1, hr]
          cases ht : tldB l0 with
          | true => have := tldB_code ht; simp only [if_true, if_neg (show ¬ ((puV 16 (tldC l0) : Nat) : Int) = 0 by omega)]; exact Ev.now _
          | false => simp only [Bool.false_eq_true, if_false, if_true]; exact Ev.now _
        refine Ev.step (fun k => ?_) hj
        simp only [codicilref29_Told.j0]
        rw [if_pos trivial, hw, if_pos (by omega), if_pos (by rw [bs_size]; omega), if_neg he]
    | ok q =>
      obtain ⟨hs', b, n⟩ := q
      have e1 : headR s = (bs l0, hs', bs b, ((n : Nat) : Int), 0) := by unfold headR; rw [hr, hli]
      rw [e1]
      simp only [if_pos (show (((headOf s).1.length + 4 : Nat) : Int) > 0 by omega)]
      have hall := k2 (by rw [hr]; intro h; cases h)
      have hlines := rlines_head s hs hf l0 ls hp
      rw [if_pos hall] at hlines
      rw [show ((0 : Int) != 291) = true from rfl]
      have hj : Ev (fun k => (codicilref29_lines.f k ((bs s).extract 0 ((wrap64 ((((headOf s).1.length + 4 : Nat) : Int) - 4)) : Int).toNat)).bind fun bt233 => (if 0 < (bt233.1.length : Int) then ((codicilref29_response.f k (rdOf ByteArray.empty bt233.1 0)).bind fun t238 => (if t238 = 0 then (some ((0 : Int), ([] : List (S59)), (⟨#[]⟩ : ByteArray), (0 : Int), (291 : Int))) else ((codicilref29_response.f k (bs l0)).bind fun t239 => (some (t239, hs', bs b, ((n : Nat) : Int), (0 : Int)))))) else (none))) (tldRes s) := by
        refine Ev.bind hlines ?_
        simp only [List.length_map, List.length_cons, if_pos (show (0 : Int) < ((ls.length + 1 : Nat) : Int) by omega)]
        refine Ev.bind (rresp_ev l0 (by omega)) ?_
        unfold tldRes
        rw [k1, hr, hli]
        have h2 := rresp_ev l0 (by omega)
        cases ht : tldB l0 with
        | true =>
          rw [ht] at h2
          have := tldB_code ht
          simp only [if_true, if_neg (show ¬ ((puV 16 (tldC l0) : Nat) : Int) = 0 by omega)] at h2 ⊢
          refine Ev.bind h2 ?_
          exact Ev.now _
        | false => simp only [Bool.false_eq_true, if_false, if_true]; exact Ev.now _
      refine Ev.step (fun k => ?_) hj
      simp only [codicilref29_Told.j0]
      rw [if_pos trivial, hw, if_pos (by omega), if_pos (by rw [bs_size]; omega), if_pos trivial]
theorem reads_pure : codicillaw29_HttpReads.Pure := by
  intro a0 hsz
  refine Ev.rounds ?_
  unfold codicillaw29_HttpReads.f
  by_cases h : a0.size > 16384
  · simp only [if_pos (show (a0.size : Int) > 16384 by omega)]
    exact Ev.bind alive29_ev (Ev.now _)
  · have hs : a0.size ≤ 1048576 := by omega
    have hl : a0.data.toList.length ≤ 1048576 := by rw [Array.length_toList]; exact hs
    have h1 := rread_ev a0.data.toList hl
    have h2 := rtold_ev a0.data.toList hl
    rw [bs_of] at h1 h2
    have n1 := reqR_len a0.data.toList
    have n2 := tldRes_len a0.data.toList
    simp only [if_neg (show ¬ (a0.size : Int) > 16384 by omega), read_is a0 hs, told_is a0 hs, Option.bind_some]
    generalize reqR a0.data.toList = rq at *
    generalize tldRes a0.data.toList = tl at *
    obtain ⟨m, t, l, b, n, e⟩ := rq
    obtain ⟨c, l2, b2, n2', e2⟩ := tl
    refine Ev.bind h1 (Ev.bind h2 ?_)
    simp only at n1 n2 ⊢
    refine Ev.bind (requests_ev m t b l (by omega)) ?_
    simp only [if_true]
    refine Ev.bind (responses_ev c b2 l2 (by omega)) ?_
    simp only [if_true]
    exact Ev.bind alive29_ev (Ev.now _)
end Go.Proofs.YtddjhmelniphgaaGreatDoor.Print
