/- Plain law: the reference's First, Bad, Count are the program's. -/
import Derived.Test.YtkcjekboakoejaaDoorQRuneF
import Derived.Test.YtkcjekboakoejaaDoorHRCount
namespace Go.Proofs.YtkcjekboakoejaaDoor.Print
open Go.RowKit Go.Proofs.YtkcjekboakoejaaDoorW.PrintWords Go.Proofs.YtkcjekboakoejaaDoorW.PrintLast
set_option linter.unusedVariables false
set_option linter.unusedSimpArgs false

theorem w64 {n : Int} (h : -9223372036854775808 ≤ n ∧ n ≤ 9223372036854775807) : wrap64 n = n := by unfold wrap64; omega
/-- What is told of what stands at the front. -/
def tell (o : Option (Nat × Nat)) : Int × Int × Bool := match o with | some (r, n) => ((r : Int), (n : Int), true) | none => (0, 0, false)
theorem firstR_dec (s : ByteArray) : firstR s = tell (decAt s 0) := by
  unfold firstR
  by_cases h : 0 < s.size
  · have hh : headR s = ((Utf8.decode s 0).1 : Int) := by unfold headR; rw [if_pos h]
    rw [hh]
    have hg := good_iff s 0 h
    have hd := decode_dec s 0 h
    cases hc : decAt s 0 with
    | none =>
      rw [hc] at hg
      rw [if_neg]
      · rfl
      · rintro ⟨_, h1⟩
        obtain ⟨r, n, h2⟩ := hg.1 h1
        cases h2
    | some p =>
      obtain ⟨r, n⟩ := p
      rw [hc] at hg hd
      rw [if_pos ⟨h, hg.2 ⟨r, n, rfl⟩⟩]
      have hm := dec_match hc
      rw [hd]
      simp only [Option.getD_some, tell]
      rw [bytesP_size hm.2.2.1, ← hm.2.1]
  · rw [if_neg (fun x => h x.1)]
    have : decAt s 0 = none := by
      unfold decAt dec
      rw [if_neg (by omega), if_neg (by omega), if_neg (by omega), if_neg (by omega)]
    rw [this]
    rfl
/-- The n-th try: what the first n bytes would be. -/
def cand (s : ByteArray) : Nat → Int
  | 1 => (g s 0 : Int)
  | 2 => 64 * ((g s 0 : Int) - 192) + (g s 1 : Int) - 128
  | 3 => 64 * (64 * ((g s 0 : Int) - 224) + (g s 1 : Int) - 128) + (g s 2 : Int) - 128
  | 4 => 64 * (64 * (64 * ((g s 0 : Int) - 240) + (g s 1 : Int) - 128) + (g s 2 : Int) - 128) + (g s 3 : Int) - 128
  | _ => 0
theorem cand_range (s : ByteArray) (n : Nat) : -2147483648 ≤ cand s n ∧ cand s n ≤ 2147483647 := by
  have h0 := g_lt s 0
  have h1 := g_lt s 1
  have h2 := g_lt s 2
  have h3 := g_lt s 3
  unfold cand
  split <;> omega
theorem bytesP_bad {r : Int} (h : Lib.validRune r = false) : bytesP r = ⟨#[]⟩ := by unfold bytesP; rw [h]; rfl
set_option maxRecDepth 1000000 in
/-- The n-th try goes through just where n bytes stand at the front. -/
theorem cand_iff (s : ByteArray) (n : Nat) (h1 : 1 ≤ n) (h4 : n ≤ 4) (hs : n ≤ s.size) : (bytesP (cand s n)).toList = (s.extract 0 n).toList ↔ ∃ r, decAt s 0 = some (r, n) ∧ cand s n = (r : Int) := by
  have hlen : (s.extract 0 n).toList.length = n := by
    rw [ByteArray.toList_eq, data_length, ByteArray.size_extract]
    omega
  constructor
  · intro h
    have hl := congrArg List.length h
    rw [hlen, ByteArray.toList_eq, data_length] at hl
    have hv : Lib.validRune (cand s n) = true := by
      cases hv : Lib.validRune (cand s n) with
      | true => rfl
      | false =>
        rw [bytesP_bad hv] at hl
        have e0 : (⟨#[]⟩ : ByteArray).size = 0 := rfl
        omega
    have hN : 0 ≤ cand s n ∧ validN (cand s n).toNat := by
      simp only [Lib.validRune, decide_eq_true_eq] at hv
      unfold validN
      omega
    obtain ⟨r, hr⟩ : ∃ r : Nat, cand s n = (r : Int) := ⟨(cand s n).toNat, by omega⟩
    rw [hr] at hl h hN ⊢
    rw [Int.toNat_natCast] at hN
    have ha : hasAt s (bytesP (r : Int)) 0 = true := by
      unfold hasAt
      rw [hl, Nat.zero_add, Nat.add_zero, Bool.and_eq_true, decide_eq_true_eq, decide_eq_true_eq]
      exact ⟨hs, h.symm⟩
    have hd := dec_of_match hN.2 ((hasAt_iff s 0 hN.2).1 ha)
    rw [bytesP_size hN.2] at hl
    rw [hl] at hd
    exact ⟨r, hd, rfl⟩
  · rintro ⟨r, hd, hr⟩
    have hm := dec_match hd
    have ha := (hasAt_iff s 0 hm.2.2.1).2 hm.1
    unfold hasAt at ha
    rw [bytesP_size hm.2.2.1, ← hm.2.1, Nat.zero_add, Nat.add_zero, Bool.and_eq_true, decide_eq_true_eq, decide_eq_true_eq] at ha
    rw [hr]
    exact ha.2.symm
theorem cand_of_dec (s : ByteArray) {r n : Nat} (h : decAt s 0 = some (r, n)) : cand s n = (r : Int) := by
  have hm := dec_match h
  have hu := h
  unfold decAt dec at hu
  split at hu
  · simp only [Option.some.injEq, Prod.mk.injEq] at hu
    obtain ⟨rfl, rfl⟩ := hu
    rfl
  split at hu
  · simp only [Option.some.injEq, Prod.mk.injEq] at hu
    obtain ⟨rfl, rfl⟩ := hu
    simp only [cand, Nat.zero_add] at *
    omega
  split at hu
  · simp only [Option.some.injEq, Prod.mk.injEq] at hu
    obtain ⟨rfl, rfl⟩ := hu
    simp only [cand, Nat.zero_add] at *
    omega
  split at hu
  · simp only [Option.some.injEq, Prod.mk.injEq] at hu
    obtain ⟨rfl, rfl⟩ := hu
    simp only [cand, Nat.zero_add] at *
    omega
  · cases hu

theorem rend (s : ByteArray) (n : Nat) (h1 : 1 ≤ n) (h4 : n ≤ 4) (hs : n ≤ s.size) (hz : s.size ≤ 140737488351232)
    (hnext : (∀ r, decAt s 0 ≠ some (r, n)) → Ev (fun k => codicilref01_First.l0 k s ((n + 1 : Nat) : Int)) (tell (decAt s 0))) : Ev (fun k => codicilref01_First.l1 k s (n : Int) (cand s n) (n : Int)) (tell (decAt s 0)) := by
  have hb := rbytes_is (cand s n) (cand_range s n)
  have hc := cand_iff s n h1 h4 hs
  have hw : wrap64 ((n : Int) + 1) = ((n + 1 : Nat) : Int) := by rw [w64 (by omega)]; rfl
  have i1 : ¬ (n : Int) < (n : Int) := by omega
  have i2 : (0 : Int) ≤ (n : Int) := by omega
  have i3 : (n : Int) ≤ (s.size : Int) := by omega
  have i4 : (n : Int).toNat = n := by omega
  by_cases hd : ∃ r, decAt s 0 = some (r, n)
  · obtain ⟨r, hd⟩ := hd
    have hr := cand_of_dec s hd
    have he := hc.2 ⟨r, hd, hr⟩
    rw [hd]
    refine Ev.step (f := fun _ => some _) (fun k => ?_) (Ev.now _)
    simp only [codicilref01_First.l1]
    rw [if_neg i1, hb, Option.bind_some, if_pos i2, if_pos i3, i4, if_pos he, hr]
    rfl
  · have he : ¬ (bytesP (cand s n)).toList = (s.extract 0 n).toList := fun h => by
      obtain ⟨r, h5, _⟩ := hc.1 h
      exact hd ⟨r, h5⟩
    refine Ev.step (fun k => ?_) (hnext (fun r h => hd ⟨r, h⟩))
    simp only [codicilref01_First.l1]
    rw [if_neg i1, hb, Option.bind_some, if_pos i2, if_pos i3, i4, if_neg he, hw]
theorem rstep (s : ByteArray) (n x : Nat) (c : Int) (hx : x < n) (hs : x < s.size) (hz : s.size ≤ 140737488351232) (hc : -30000000 ≤ c ∧ c ≤ 30000000) {R : Int × Int × Bool}
    (h : Ev (fun k => codicilref01_First.l1 k s (n : Int) (64 * c + (g s x : Int) - 128) ((x + 1 : Nat) : Int)) R) : Ev (fun k => codicilref01_First.l1 k s (n : Int) c (x : Int)) R := by
  have hg := g_lt s x
  have hw : wrap64 ((x : Int) + 1) = ((x + 1 : Nat) : Int) := by rw [w64 (by omega)]; rfl
  refine Ev.step (fun k => ?_) h
  simp only [codicilref01_First.l1]
  rw [if_pos (by omega), if_pos (by omega), if_pos (by omega), bt_g s x hs, hw, w32 (n := 64 * c) (by omega), w32 (n := (g s x : Int)) (by omega), w32 (n := 64 * c + (g s x : Int)) (by omega), w32 (by omega)]
theorem rfirst_from (s : ByteArray) (hz : s.size ≤ 140737488351232) (d : Nat) : ∀ n : Nat, 1 ≤ n → 5 - n = d → n ≤ 5 → (∀ r j, decAt s 0 = some (r, j) → n ≤ j) → Ev (fun k => codicilref01_First.l0 k s (n : Int)) (tell (decAt s 0)) := by
  have stop : ∀ n : Nat, (∀ r j, decAt s 0 ≠ some (r, j)) → Ev (fun k => codicilref01_First.j1 k s (n : Int) false) (tell (decAt s 0)) := fun n h => by
    have : decAt s 0 = none := by
      cases hd : decAt s 0 with
      | none => rfl
      | some p => exact absurd hd (h p.1 p.2)
    rw [this]
    refine Ev.step (f := fun _ => some _) (fun k => ?_) (Ev.now _)
    simp only [codicilref01_First.j1]
    rw [if_neg (by decide)]
    rfl
  induction d with
  | zero =>
    intro n h1 hd h5 hmin
    obtain rfl : n = 5 := by omega
    refine Ev.step (fun k => ?_) (stop 5 (fun r j h => by have := hmin r j h; have := dec_match h; omega))
    simp only [codicilref01_First.l0]
    rw [if_neg (by omega)]
  | succ d ih =>
    intro n h1 hd h5 hmin
    have h4 : n ≤ 4 := by omega
    have i4 : (n : Int) ≤ 4 := by omega
    by_cases hs : n ≤ s.size
    · have i5 : decide ((n : Int) ≤ (s.size : Int)) = true := by simp; omega
      have i6 : (0 : Int) < (s.size : Int) := by omega
      have hnext : (∀ r, decAt s 0 ≠ some (r, n)) → Ev (fun k => codicilref01_First.l0 k s ((n + 1 : Nat) : Int)) (tell (decAt s 0)) := fun hne => ih (n + 1) (by omega) (by omega) (by omega) (fun r j h => by
        have := hmin r j h
        rcases Nat.lt_or_ge n j with h2 | h2
        · exact h2
        · exfalso
          have : j = n := by omega
          subst this
          exact hne r h)
      have he := rend s n h1 h4 hs hz hnext
      have g0 := g_lt s 0
      have g1 := g_lt s 1
      have g2 := g_lt s 2
      have g3 := g_lt s 3
      have hb0 : bt s 0 = (g s 0 : Int) := bt_g s 0 (by omega)
      refine Ev.step (f := fun k => codicilref01_First.j1 k s (n : Int) true) (fun k => by simp only [codicilref01_First.l0]; rw [if_pos i4, i5]) ?_
      rcases (by omega : n = 1 ∨ n = 2 ∨ n = 3 ∨ n = 4) with rfl | rfl | rfl | rfl
      · refine Ev.step (f := fun k => codicilref01_First.j2 k s ((1 : Nat) : Int) (cand s 1)) (fun k => ?_) (Ev.step (fun k => ?_) he)
        · simp only [codicilref01_First.j1]
          rw [if_pos trivial, if_pos i6, if_neg (by decide), if_neg (by decide), if_neg (by decide), hb0, w32 (by omega)]
          rfl
        · simp only [codicilref01_First.j2]
          rfl
      · refine Ev.step (f := fun k => codicilref01_First.j2 k s ((2 : Nat) : Int) ((g s 0 : Int) - 192)) (fun k => ?_) (Ev.step (f := fun k => codicilref01_First.l1 k s ((2 : Nat) : Int) ((g s 0 : Int) - 192) ((1 : Nat) : Int)) (fun k => ?_) ?_)
        · simp only [codicilref01_First.j1]
          rw [if_pos trivial, if_pos i6, if_pos (by decide), hb0, w32 (n := (g s 0 : Int)) (by omega), w32 (by omega)]
        · simp only [codicilref01_First.j2]
          rfl
        · exact rstep s 2 1 _ (by omega) (by omega) hz (by omega) he
      · refine Ev.step (f := fun k => codicilref01_First.j2 k s ((3 : Nat) : Int) ((g s 0 : Int) - 224)) (fun k => ?_) (Ev.step (f := fun k => codicilref01_First.l1 k s ((3 : Nat) : Int) ((g s 0 : Int) - 224) ((1 : Nat) : Int)) (fun k => ?_) ?_)
        · simp only [codicilref01_First.j1]
          rw [if_pos trivial, if_pos i6, if_neg (by decide), if_pos (by decide), hb0, w32 (n := (g s 0 : Int)) (by omega), w32 (by omega)]
        · simp only [codicilref01_First.j2]
          rfl
        · exact rstep s 3 1 _ (by omega) (by omega) hz (by omega) (rstep s 3 2 _ (by omega) (by omega) hz (by omega) he)
      · refine Ev.step (f := fun k => codicilref01_First.j2 k s ((4 : Nat) : Int) ((g s 0 : Int) - 240)) (fun k => ?_) (Ev.step (f := fun k => codicilref01_First.l1 k s ((4 : Nat) : Int) ((g s 0 : Int) - 240) ((1 : Nat) : Int)) (fun k => ?_) ?_)
        · simp only [codicilref01_First.j1]
          rw [if_pos trivial, if_pos i6, if_neg (by decide), if_neg (by decide), if_pos (by decide), hb0, w32 (n := (g s 0 : Int)) (by omega), w32 (by omega)]
        · simp only [codicilref01_First.j2]
          rfl
        · exact rstep s 4 1 _ (by omega) (by omega) hz (by omega) (rstep s 4 2 _ (by omega) (by omega) hz (by omega) (rstep s 4 3 _ (by omega) (by omega) hz (by omega) he))
    · have i5 : decide ((n : Int) ≤ (s.size : Int)) = false := by simp; omega
      refine Ev.step (fun k => ?_) (stop n (fun r j h => by have := hmin r j h; have h6 := dec_match h; simp only [Nat.sub_zero] at h6; omega))
      simp only [codicilref01_First.l0]
      rw [if_pos i4, i5]
theorem rfirst_ev (s : ByteArray) (hz : s.size ≤ 140737488351232) : Ev (fun k => codicilref01_First.f k s) (firstR s) := by
  rw [firstR_dec]
  exact rfirst_from s hz 4 1 (by omega) (by omega) (by omega) (fun r j h => (dec_match h).2.2.2.1)
end Go.Proofs.YtkcjekboakoejaaDoor.Print
