/- Contract of graph.Drop. -/
import Derived.Test.YtddjhmelniphgaaGAdd
import Derived.Test.YtddjhmelniphgaaGUsers
namespace Go.Proofs.Ytddjhmelniphgaa.Print
open Go Go.RowKit Go.Proofs.YtddjhmelniphgaaW.PrintWords Go.Proofs.YtddjhmelniphgaaW.PrintLast
set_option linter.unusedVariables false
set_option linter.unusedSimpArgs false
def dropU (l : List Us) (x : Nd) : List Us × Int :=
  if mayN l ≠ 0 then ([], 8) else if inN l x = false then ([], 5) else if 0 < (usersN l x).length then ([], 3) else (dropAt l (placeN l x), 0)
theorem placeN_lt {l : List Us} {x : Nd} (h : inN l x = true) : placeN l x < l.length := by
  unfold inN at h
  rw [decide_eq_true_iff, List.mem_map] at h
  obtain ⟨u, hu, rfl⟩ := h
  refine Nat.lt_of_le_of_ne List.countP_le_length fun he => ?_
  unfold placeN at he
  have := List.countP_eq_length.1 he u hu
  rw [lessN_irrefl] at this; cases this
def DBoxN (w W : World) (B : Nat) (u0 : ByteArray) (u1 : Int) : Prop := W.heap[B]? = some (.cells #[.string u0, .int .i64 u1] 24 (0, 0)) ∧ Below w.heap.size w W ∧ B = w.heap.size
theorem DBoxN.below {w W W' : World} {B : Nat} {u0 : ByteArray} {u1 : Int} (h : DBoxN w W B u0 u1) (hb : Below W.heap.size W W') : DBoxN w W' B u0 u1 := ⟨blk_below h.1 hb, below_step h.2.1 hb, h.2.2⟩
def dropPost (w : World) (P0 : Nat → Prop) (R : List Us × Int) (e : Ending) (w' : World) : Prop :=
  ∃ v, e = .returned (.tuple #[v, .int .i64 R.2]) ∧ Kd.V k40 40 w' w.heap.size (fun k => P0 k ∨ w.heap.size ≤ k) v R.1 ∧ Below w.heap.size w w'
theorem drop_err {w w' : World} {P0 : Nat → Prop} {r : Int} {R : List Us × Int} (h : R = ([], r)) (hb : Below w.heap.size w w') : dropPost w P0 R (.returned (.tuple #[.slice none 0 0, .int .i64 r])) w' := by
  subst h
  exact ⟨_, rfl, Kd.V_nil _ _ _ _ _, hb⟩
set_option maxRecDepth 100000 in
set_option maxHeartbeats 8000000 in
theorem drop_any (P0 : Nat → Prop) (A0 : Option Addr) (c0 : Nat) (l : List Us) (u0 : ByteArray) (u1 : Int) (w : World) (hF0 : Kd.F k40 w P0 A0 l.length l) (hc0 : l.length ≤ c0)
    (hfit : FitU l) (R : List Us × Int) (hR : R = dropU l ⟨u0, u1⟩) :
    Calls Try.prog 21 #[.slice A0 l.length c0, .agg #[.string u0, .int .i64 u1]] w (dropPost w P0 R) := by
  have hmay := fun (W : World) (hb : Below w.heap.size w W) => may_any A0 c0 l W (Kd.C_below (Kd.F_now hF0) hb) hc0 hfit
  have hplace := fun (W : World) (hb : Below w.heap.size w W) (h0 : mayN l = 0) => place_any A0 c0 l ⟨u0, u1⟩ W (Kd.C_below (Kd.F_now hF0) hb) hc0 hfit.len (sorted_may h0)
  have husers := fun (W : World) (hb : Below w.heap.size w W) => graph_Users.calls _ A0 c0 l u0 u1 _ W (Kd.C_below (Kd.F_now hF0) hb) hc0 (users_some l ⟨u0, u1⟩ hfit.len hfit.refs (l.length + 1048578) (by omega))
  unfold dropU at hR
  obtain ⟨m, hm⟩ : ∃ m, m = mayN l := ⟨_, rfl⟩
  obtain ⟨at0, hat⟩ : ∃ at0, at0 = placeN l ⟨u0, u1⟩ := ⟨_, rfl⟩
  obtain ⟨is0, his⟩ : ∃ is0, is0 = inN l ⟨u0, u1⟩ := ⟨_, rfl⟩
  obtain ⟨us, hus⟩ : ∃ us, us = usersN l ⟨u0, u1⟩ := ⟨_, rfl⟩
  rw [← hm] at hR hmay
  rw [← his, ← hat, ← hus] at hR
  rw [← hus] at husers
  unfold placePost at hplace
  rw [← hat, ← his] at hplace
  unfold encN at hplace
  have HM := Aside0.mk hm
  have HAT := Aside0.mk hat
  have HIS := Aside0.mk his
  have HF0 := Aside0.mk hF0
  have HC0 := Aside0.mk hc0
  have HFIT := Aside0.mk hfit
  have HMAY := Aside0.mk hmay
  have HPL := Aside0.mk hplace
  have HUS := Aside0.mk husers
  have HRE := Aside0.mk hR
  obtain ⟨n, hn⟩ : ∃ n, n = l.length := ⟨_, rfl⟩
  have HN := Aside0.mk hn
  rw [← hn] at HMAY HPL HUS ⊢
  clear hF0 hc0 hfit hmay hplace husers hR hm hat his hn hus
  by_cases h1 : m = 0
  · have hm0 : mayN l = 0 := HM.out ▸ h1
    have h1z : (m != 0) = false := by rw [h1]; rfl
    have HPL2 := Aside0.mk (fun W hb => HPL.out W hb hm0)
    have HRE2 := Aside0.mk (show R = if is0 = false then ([], 5) else if 0 < us.length then ([], 3) else (dropAt l at0, 0) by rw [HRE.out, if_neg (by simp [h1])])
    clear HRE HPL hm0
    go_enter Try.func21, Try.ntmps21
    go_wp2_with (go_at_call 13; refine (HMAY.out _ (below_alloc (Below.refl _ _) _)).mono ?_; rintro e w1 ⟨rfl, hb1⟩; refine Hid.out ?_)
    refine Lib.hid ?_
    have HB := Aside0.mk (show DBoxN w (w.alloc (.cells #[.string u0, .int .i64 u1] 24)) w.heap.size u0 u1 from ⟨blk_new w _, below_alloc (Below.refl _ _) _, rfl⟩)
    obtain ⟨B, hB⟩ : ∃ B, B = w.heap.size := ⟨_, rfl⟩
    rw [← hB] at HB ⊢
    clear hB
    replace HB := Aside0.mk (HB.out.below hb1)
    clear hb1
    have d0 : w1.cell? ⟨B, 0, none⟩ = some (.string u0) := blk_cell HB.out.1 0
    have d1 : w1.cell? ⟨B, 1, none⟩ = some (.int .i64 u1) := blk_cell HB.out.1 1
    go_wp2_with (go_at_call 38; refine (HPL2.out w1 HB.out.2.1).mono ?_; rintro e w2 ⟨rfl, hb2⟩; refine Hid.out ?_)
    refine Lib.hid ?_
    replace HB := Aside0.mk (HB.out.below hb2)
    clear hb2 d0 d1 w1
    cases is0 with
    | false =>
      go_wp2
      go_ret2
      exact drop_err (by rw [HRE2.out]; rfl) HB.out.2.1
    | true =>
      have d0 : w2.cell? ⟨B, 0, none⟩ = some (.string u0) := blk_cell HB.out.1 0
      have d1 : w2.cell? ⟨B, 1, none⟩ = some (.int .i64 u1) := blk_cell HB.out.1 1
      have HRE3 := Aside0.mk (show R = if 0 < us.length then ([], 3) else (dropAt l at0, 0) from HRE2.out)
      obtain ⟨q, hq⟩ : ∃ q, q = us.length := ⟨_, rfl⟩
      have HQ := Aside0.mk hq
      clear hq HRE2
      go_wp2_with (go_at_call 16; refine (HUS.out w2 HB.out.2.1).mono ?_; rintro e w3 ⟨v3, rfl, hr3, hb3⟩; refine Hid.out ?_)
      refine Lib.hid ?_
      obtain ⟨A3, c3, rfl⟩ := Kd.R_slice hr3
      rw [← HQ.out]
      replace HB := Aside0.mk (HB.out.below hb3)
      clear hb3 d0 d1 hr3 w2
      by_cases hqz : 0 < q
      · have hqy : (0 : Int) < (q : Int) := by omega
        go_wp2
        go_ret2
        exact drop_err (by rw [HRE3.out, if_pos (HQ.out ▸ hqz)]) HB.out.2.1
      · have hqy : ¬ (0 : Int) < (q : Int) := by omega
        have HRE4 := Aside0.mk (show R = (dropAt l at0, 0) by rw [HRE3.out, if_neg (HQ.out ▸ hqz)])
        obtain ⟨inner, hrp, h1i, hcl⟩ := clone_all P0 A0 c0 l w HF0.out HFIT.out.len
        have hal : at0 < l.length := by rw [HAT.out]; exact placeN_lt HIS.out.symm
        have HAL := Aside0.mk hal
        obtain ⟨k, hk⟩ : ∃ k, n = k + 1 := ⟨n - 1, by have := HN.out; omega⟩
        subst hk
        rw [← HN.out] at hcl
        have HRP := Aside0.mk hrp
        have H1I := Aside0.mk h1i
        have HCLN := Aside0.mk (hcl w3 HB.out.2.1)
        have hatk : at0 ≤ k := by have := HN.out; omega
        have hk20 : k ≤ 1048576 := by have := HN.out; have := HFIT.out.len; omega
        have hwr : IntKind.i64.wrap ((at0 : Int) + 1) = (at0 : Int) + 1 := IntWalk.i64_in _ (by omega)
        clear hrp h1i hcl hal HRE3
        go_wp2_with (first | (go_at_call 40; refine HCLN.out.mono ?_; rintro e w4 ⟨v4, rfl, ho4, hb4⟩; have HO4 := Aside0.mk ho4; clear ho4) | (go_at_call 41; refine (deleteU w3.heap.size at0 k v4 inner w4 HO4.out H1I.out hatk hk20).mono ?_; rintro e w5 ⟨v5, rfl, ho5, hb5⟩))
        go_ret2
        have hreps := dropAt_reps (R := fun x c => Kd.FK k40 w (fun k => P0 k ∧ k < w.heap.size) x c ∧ ∀ k, (P0 k ∧ k < w.heap.size) → k < w.heap.size) (HRP.out.imp_ fun x c h => ⟨Kd.FK_bound h, fun k hk => hk.2⟩) (Nat.le_of_lt HAL.out)
        have hbt : Below w.heap.size w w5 := below_step HB.out.2.1 (hb4.trans hb5)
        rw [HRE4.out]
        refine ⟨v5, rfl, Kd.V_mono (own_V (base := w.heap.size) (e := 40) ?_ hreps hbt rfl) (fun k hk => hk.imp (fun h => h.1) id), hbt⟩
        rw [show (dropAt l at0).length = k by have := dropAt_len HAL.out; have := HN.out; omega]
        exact ho5.mono HB.out.2.1.size
  · have h1z : (m != 0) = true := by rw [bne_iff_ne]; exact h1
    go_enter Try.func21, Try.ntmps21
    go_wp2_with (go_at_call 13; refine (HMAY.out _ (below_alloc (Below.refl _ _) _)).mono ?_; rintro e w1 ⟨rfl, hb1⟩)
    go_ret2
    exact drop_err (by rw [HRE.out, if_pos h1]) (below_step (below_alloc (Below.refl _ _) _) hb1)
end Go.Proofs.Ytddjhmelniphgaa.Print
