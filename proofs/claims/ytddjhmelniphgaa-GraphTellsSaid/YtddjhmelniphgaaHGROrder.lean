/- codicilref19.Order. -/
import Derived.Test.YtddjhmelniphgaaGRef
import Derived.Test.YtddjhmelniphgaaHGMay
import Derived.Test.YtddjhmelniphgaaQMay19b
import Derived.Test.YtddjhmelniphgaaPrint7
namespace Go.Proofs.Ytddjhmelniphgaa.Print
open Go Go.RowKit Go.Proofs.YtddjhmelniphgaaW.PrintWords Go.Proofs.YtddjhmelniphgaaW.PrintLast
set_option linter.unusedVariables false
set_option linter.unusedSimpArgs false
theorem ref_all (w : World) (A0 : Option Addr) (c0 : Nat) (l : List Us) (rk : Nd → Nat) (H : RefH w A0 c0 l rk) : ∀ k, 0 < k → RefAt w A0 c0 l rk k
  | 0, h => absurd h (Nat.lt_irrefl _)
  | k + 1, _ => ref_step w A0 c0 l rk H k (fun h => ref_all w A0 c0 l rk H k h)
def orderR (l : List Us) (ids : List Nd) : List Nd × Int := if anyP (fun x => !inN l x) ids = true then ([], 5) else (refN l ((doneU l).length + 2) ids [], 0)
def codicilref19_Order.f (l0 : List Us) (l1 : List Nd) : Option ((List Nd) × Int) := if mayN l0 = 0 then (if (fitUB l0 && decide (l1.length ≤ 1048576)) = true then some (orderR l0 l1) else none) else some ([], 8)
set_option maxRecDepth 100000 in
set_option maxHeartbeats 8000000 in
theorem order_ref (A0 A1 : Option Addr) (c0 c1 : Nat) (l : List Us) (ids : List Nd) (w : World) (hr0 : Kd.C k40 w A0 l.length l) (hc0 : l.length ≤ c0) (hr1 : Kd.C k24 w A1 ids.length ids) (hc1 : ids.length ≤ c1)
    (m : Int) (K : Nat) (hmay : codicilref19_May.f K l = some m) (R : List Nd × Int) (h8 : m ≠ 0 → R = ([], 8)) (hR : m = 0 → mayN l = 0 ∧ FitU l ∧ ids.length ≤ 1048576 ∧ R = orderR l ids) :
    Calls Try.prog 10 #[.slice A0 l.length c0, .slice A1 ids.length c1] w (orderPost w R) := by
  have HMAY := Aside0.mk (codicilref19_May.calls K A0 c0 l m w hr0 hc0 hmay)
  by_cases h1 : m = 0
  · obtain ⟨hm0, hfit, hids, hre⟩ := hR h1
    have h1z : (m != 0) = false := by rw [h1]; rfl
    have hrk := rank_may hm0
    have HRF := Aside0.mk (show RefH w A0 c0 l (rkU l) from ⟨hr0, hc0, sorted_may hm0, closed_may hm0, hfit, hrk.1⟩)
    have HRK := Aside0.mk hrk.2
    have HR1 := Aside0.mk hr1
    have HFIT := Aside0.mk hfit
    have HRE := Aside0.mk hre
    have HC1 := Aside0.mk hc1
    obtain ⟨n, hn⟩ : ∃ n, n = l.length := ⟨_, rfl⟩
    obtain ⟨p, hp⟩ : ∃ p, p = ids.length := ⟨_, rfl⟩
    have HN := Aside0.mk hn
    have HP := Aside0.mk hp
    rw [← hn] at HMAY ⊢
    rw [← hp] at hids HC1 ⊢
    clear hr0 hc0 hr1 hc1 hmay h8 hR hm0 hfit hre hrk hn hp
    go_enter Try.func10, Try.ntmps10
    go_wp2_with (go_at_call 14; refine HMAY.out.mono ?_; rintro e w1 ⟨rfl, hb1⟩)
    go_loopg [6] p (fun gg s6 wr => ∃ i : Nat, i ≤ p ∧ p - i ≤ gg ∧ s6 = .int .i64 i ∧ Aside0 (Below w.heap.size w wr) ∧ Aside0 (∀ j, j < i → inN l (ids.getD j z24) = true))
    case atStart => exact ⟨0, Nat.zero_le _, by omega, rfl, Aside0.mk hb1, Aside0.mk fun j hj => absurd hj (Nat.not_lt_zero _)⟩
    case round =>
      clear hb1 w1
      obtain ⟨i, hi, hgg, rfl, HB, HA⟩ := hrel
      by_cases hlt : i < p
      · have hltz : (i : Int) < (p : Int) := by omega
        obtain ⟨ad, rfl, h0, h1⟩ := at_T24 (Kd.C_below HR1.out HB.out) (i : Int) (by omega) (by have := HP.out; omega)
        obtain ⟨y0, hy0⟩ : ∃ y0, y0 = (rd_T24 ids (i : Int)) := ⟨_, rfl⟩
        rw [← hy0] at h0 h1
        have hil : i < ids.length := by have := HP.out; omega
        have HY := Aside0.mk (show y0 = ids.getD i z24 by rw [hy0]; simp [rd_T24])
        have HYM := Aside0.mk (show y0 ∈ ids by rw [HY.out, List.getD_eq_getElem?_getD, List.getElem?_eq_getElem hil]; exact List.getElem_mem hil)
        clear hy0 hil
        obtain ⟨ya, yb⟩ := y0
        simp only [Int.toNat_natCast] at h0 h1
        cases hin : inN l ⟨ya, yb⟩ with
        | true =>
          obtain ⟨ja, hja, hjl, _⟩ := at_in HFIT.out.len hin (l.length + 1) (by omega)
          have HIN := Aside0.mk hin
          have HAT := Aside0.mk (codicilref19_at.calls (l.length + 1) A0 c0 l ya yb (ja : Int) wr (Kd.C_below HRF.out.row HB.out) HRF.out.cap hja)
          rw [← HN.out] at HAT
          have hjz : ¬ (ja : Int) < 0 := by omega
          clear hja hjl hin
          go_wp2_with (go_at_call 28; refine HAT.out.mono ?_; rintro e w4 ⟨rfl, hb4⟩)
          go_roundg (p - (i + 1))
          case measure => omega
          case rel => exact ⟨i + 1, by omega, Nat.le_refl _, by go_num, Aside0.mk (below_step HB.out hb4), Aside0.mk fun j hj => by
            rcases Nat.lt_succ_iff_lt_or_eq.1 hj with hj | rfl
            · exact HA.out j hj
            · rw [← HY.out, HIN.out]⟩
        | false =>
          have hja := at_out HFIT.out.len hin (l.length + 1) (by omega)
          have HIN := Aside0.mk hin
          have HAT := Aside0.mk (codicilref19_at.calls (l.length + 1) A0 c0 l ya yb (-1) wr (Kd.C_below HRF.out.row HB.out) HRF.out.cap hja)
          rw [← HN.out] at HAT
          clear hja hin
          go_wp2_with (go_at_call 28; refine HAT.out.mono ?_; rintro e w4 ⟨rfl, hb4⟩)
          go_ret2
          have hany : anyP (fun x => !inN l x) ids = true := by
            unfold anyP
            rw [List.any_eq_true]
            exact ⟨⟨ya, yb⟩, HYM.out, by rw [HIN.out]; rfl⟩
          exact order_err (by rw [HRE.out]; unfold orderR; rw [if_pos hany]) (below_step HB.out hb4)
      · have hip : i = p := by omega
        subst hip
        have hltz : ¬ (i : Int) < (i : Int) := by omega
        have hall : ∀ x ∈ ids, inN l x = true := fun x hx => by
          obtain ⟨j, hj, rfl⟩ := List.getElem_of_mem hx
          have h3 := HA.out j (by have := HP.out; omega)
          rw [List.getD_eq_getElem?_getD, List.getElem?_eq_getElem hj] at h3
          exact h3
        have HRE3 := Aside0.mk (show R = (refN l ((doneU l).length + 2) ids [], 0) by
          rw [HRE.out]
          unfold orderR
          rw [if_neg]
          intro h2
          unfold anyP at h2
          rw [List.any_eq_true] at h2
          obtain ⟨x, hx, h4⟩ := h2
          rw [hall x hx] at h4; cases h4)
        have HV := Aside0.mk (ref_all w A0 c0 l (rkU l) HRF.out ((doneU l).length + 2) (by omega) wr [] (.slice none 0 0) ids A1 c1 HB.out (World.ownsRow_nil _ _ _ _) HR1.out (by rw [← HP.out]; exact HC1.out) (by rw [← HP.out]; exact hids) (fun x hx => ⟨hall x hx, by have := HRK.out x (hall x hx); omega⟩) (by have := List.countP_le_length (p := fun u : Us => decide (u.f0 ∉ ([] : List Nd))) (l := l); unfold unmet; simp only [List.length_nil]; omega))
        rw [← HP.out, ← HN.out] at HV
        clear hall HA
        go_wp2_with (go_at_call 29; refine HV.out.mono ?_; rintro e w5 ⟨v5, rfl, ho5, hb5⟩)
        go_ret2
        rw [HRE3.out]
        exact ⟨_, rfl, cellsN_R ho5, hb5⟩
  · have h1z : (m != 0) = true := by rw [bne_iff_ne]; exact h1
    have HRE := Aside0.mk (h8 h1)
    clear h8 hR hr0 hr1 hmay
    generalize l.length = n at HMAY hc0 ⊢
    generalize ids.length = p at hc1 ⊢
    go_enter Try.func10, Try.ntmps10
    go_wp2_with (go_at_call 14; refine HMAY.out.mono ?_; rintro e w1 ⟨rfl, hb1⟩)
    go_ret2
    exact order_err HRE.out hb1
theorem codicilref19_Order.calls (A0 : Option Addr) (c0 : Nat) (l0 : List Us) (A1 : Option Addr) (c1 : Nat) (l1 : List Nd) (r1 : List Nd) (r2 : Int) (w : World) (hr0 : Kd.C k40 w A0 l0.length l0) (hc0 : l0.length ≤ c0) (hr1 : Kd.C k24 w A1 l1.length l1) (hc1 : l1.length ≤ c1) (h : codicilref19_Order.f l0 l1 = some (r1, r2)) :
    Calls Try.prog 10 #[.slice A0 l0.length c0, .slice A1 l1.length c1] w fun e w' => ∃ v0_ : Value, e = .returned (.tuple #[v0_, .int .i64 r2]) ∧ Kd.R k24 24 w' w.heap.size (fun _ => True) v0_ r1 ∧ Below w.heap.size w w' := by
  unfold codicilref19_Order.f at h
  obtain ⟨K, hm⟩ := (may_ev l0).rounds
  by_cases h1 : mayN l0 = 0
  · rw [if_pos h1] at h
    split at h
    · rename_i hf
      rw [Bool.and_eq_true, decide_eq_true_iff] at hf
      have h2 := Option.some.inj h
      exact order_ref A0 A1 c0 c1 l0 l1 w hr0 hc0 hr1 hc1 (mayN l0) K hm (r1, r2) (fun h3 => absurd h1 h3) (fun _ => ⟨h1, fitUB_iff.1 hf.1, hf.2, h2.symm⟩)
    · cases h
  · rw [if_neg h1] at h
    have h2 := Option.some.inj h
    exact order_ref A0 A1 c0 c1 l0 l1 w hr0 hc0 hr1 hc1 (mayN l0) K hm (r1, r2) (fun _ => h2.symm) (fun h3 => absurd h3 h1)
end Go.Proofs.Ytddjhmelniphgaa.Print
