/- Contract of graph.May. -/
import Derived.Test.YtddjhmelniphgaaHLb
import Derived.Test.YtddjhmelniphgaaGFormed
import Derived.Test.YtddjhmelniphgaaGMayN
import Derived.Deep.DeepCutAuto
import Derived.Deep.RegionHeld3
import Derived.WalkMore
import Derived.Test.YtddjhmelniphgaaHSq
namespace Go.Proofs.Ytddjhmelniphgaa.Print
open Go Go.RowKit Go.Maps Go.ChangeMaps Go.Proofs.YtddjhmelniphgaaW.PrintWords Go.Proofs.YtddjhmelniphgaaW.PrintLast
set_option linter.unusedVariables false
set_option linter.unusedSimpArgs false
theorem less_any (a b : Nd) (w : World) : Calls Try.prog 11 #[encN a, encN b] w fun e w' => e = .returned (.bool (lessN a b)) ∧ Below w.heap.size w w' := by
  have h := fun W => (order_any a b W)
  unfold lessN
  generalize ordN a b = x at h ⊢
  obtain ⟨a0, a1⟩ := a
  obtain ⟨b0, b1⟩ := b
  unfold encN at h ⊢
  go_enter Try.func11, Try.ntmps11
  go_wp2_with (go_at_call 30; refine (h _).mono ?_; rintro e w' ⟨rfl, q, os, rfl⟩)
  go_ret
  refine ⟨rfl, ?_⟩
  have hg : ∀ (W : World) (q : Nat) (os : Array Obj), Below W.heap.size W (Go.Sort.grow (W.drewN q) os) := fun W q os =>
    ⟨rfl, rfl, rfl, by unfold Go.Sort.grow; simp, fun k hk => by
      show (W.heap ++ os)[k]? = _
      rw [Array.getElem?_append_left hk]⟩
  have h1 : Below w.heap.size w ((w.alloc (.cells #[.string a0, .int .i64 a1] 24)).alloc (.cells #[.string b0, .int .i64 b1] 24)) := below_alloc (below_alloc (Below.refl _ _) _) _
  exact below_step h1 (hg _ _ _)
/-- What stands behind the first region: the map of rows, in a box. -/
def MBox (w W : World) (l : List Us) (B : Nat) (b : Nat) (m : List (Nd × Value)) : Prop :=
  w.heap.size ≤ B ∧ w.heap.size ≤ b ∧ W.heap[B]? = some (.cells #[.map (some b)] 57 (0, 0)) ∧ MapAt encN W b m ∧ RefsM w l m ∧ Below w.heap.size w W
theorem MBox.below {w W W1 : World} {l : List Us} {B b : Nat} {m : List (Nd × Value)} (h : MBox w W l B b m) (hb : Below W.heap.size W W1) : MBox w W1 l B b m :=
  ⟨h.1, h.2.1, blk_below h.2.2.1 hb, h.2.2.2.1.below hb, h.2.2.2.2.1, h.2.2.2.2.2.trans (hb.mono h.2.2.2.2.2.size)⟩
/-- What stands in the rounds: the set of what is done, in a box. -/
def DBox (w W : World) (B b : Nat) (done : List Nd) : Prop :=
  w.heap.size ≤ B ∧ w.heap.size ≤ b ∧ B ≠ b ∧ W.heap[B]? = some (.cells #[.map (some b)] 59 (0, 0)) ∧ MapAt encN W b (setM done) ∧ (∀ x ∈ done, okN x) ∧ Below w.heap.size w W
theorem DBox.below {w W W1 : World} {B b : Nat} {done : List Nd} (h : DBox w W B b done) (hb : Below W.heap.size W W1) : DBox w W1 B b done :=
  ⟨h.1, h.2.1, h.2.2.1, blk_below h.2.2.2.1 hb, h.2.2.2.2.1.below hb, h.2.2.2.2.2.1, h.2.2.2.2.2.2.trans (hb.mono h.2.2.2.2.2.2.size)⟩
theorem DBox.start {w W : World} (h : Below w.heap.size w W) : DBox w ((W.alloc (.map #[] 0)).alloc (.cells #[.map (some W.heap.size)] 59)) (W.heap.size + 1) W.heap.size [] := by
  have e : (W.alloc (.map #[] 0)).heap.size = W.heap.size + 1 := by simp
  refine ⟨by have := h.size; omega, h.size, by omega, ?_, (MapAt.new encN W).alloc _, (fun x hx => by cases hx), below_alloc (below_alloc h _) _⟩
  rw [← e]
  exact blk_new _ _
set_option maxRecDepth 100000 in
set_option maxHeartbeats 4000000 in
theorem may_any (A : Option Addr) (c : Nat) (l : List Us) (w : World) (hr : Kd.C k40 w A l.length l) (hc : l.length ≤ c) (hfit : FitU l) :
    Calls Try.prog 13 #[.slice A l.length c] w fun e w' => e = .returned (.int .i64 (mayN l)) ∧ Below w.heap.size w w' := by
  have hrefs := refs_any A c l w hr hc hfit.len hfit.node
  have HR := Aside0.mk hr
  have HF := Aside0.mk hfit
  have hbig := hfit.len
  obtain ⟨n, hn⟩ : ∃ n, n = l.length := ⟨_, rfl⟩
  have HN := Aside0.mk hn
  rw [← hn] at hc hbig hrefs ⊢
  clear hn hr hfit
  obtain ⟨R, hR⟩ : ∃ R, R = mayN l := ⟨_, rfl⟩
  have HRES := Aside0.mk hR
  rw [← hR]
  clear hR
  have hmm := @run_makeMap Try.prog
  by_cases h1 : 1024 < n
  · have HE : Aside0 (R = 8) := Aside0.mk (by rw [HRES.out]; unfold mayN badHead; rw [← HN.out, decide_eq_true h1]; rfl)
    have h1z : (1024 : Int) < n := by omega
    go_enter Try.func13, Try.ntmps13
    go_wp2
    go_step3
    go_wp2_with (go_at_call 26; refine hrefs.mono ?_; rintro e w1 ⟨b, m, rfl, hge, hM, hRM, hb1⟩)
    (try rw [Exit.noGoto_ret])
    go_ret
    exact ⟨by rw [HE.out]; rfl, below_alloc hb1 _⟩
  · have h1z : (n : Int) ≤ 1024 := by omega
    obtain ⟨k, hk⟩ : ∃ k, k = (keysN l).length := ⟨_, rfl⟩
    have HK := Aside0.mk hk
    clear hk
    have hlen : ∀ (W : World) (b : Nat) (m : List (Nd × Value)), MapAt encN W b m → RefsM w l m → ∀ ty, (Builtin.len_ #[57] ty #[.map (some b)]).run Try.prog W = .ok (.int .i64 k) W := fun W b m hM hR ty => by
      have hml : m.length = k := by rw [HK.out, ← hR.1, List.length_map]
      rw [← hml]
      exact map_len (P := Try.prog) (kt := 24) Try.underlying57 hM ty
    have HLEN := Aside0.mk hlen
    clear hlen
    by_cases h2 : k = n
    · subst h2
      have hhead : badHead l = false := by unfold badHead; rw [← HN.out, ← HK.out, decide_eq_false h1]; simp
      have HHEAD := Aside0.mk hhead
      have hnn : ((k : Int) != (k : Int)) = false := by simp
      clear hhead
      go_enter Try.func13, Try.ntmps13
      go_wp2
      go_step3
      go_wp2_with (go_at_call 26; refine hrefs.mono ?_; rintro e w1 ⟨b, m, rfl, hge, hM, hRM, hb1⟩; have hlen := HLEN.out (w1.alloc (.cells #[.map (some b)] 57)) b m (hM.alloc _) hRM)
      have HM := Aside0.mk (show MBox w (w1.alloc (.cells #[.map (some b)] 57)) l w1.heap.size b m from ⟨hb1.size, hge, blk_new w1 _, hM.alloc _, hRM, below_alloc hb1 _⟩)
      clear hrefs hge hM hRM hb1 hlen hnn
      generalize w1.alloc (.cells #[.map (some b)] 57) = wc at HM ⊢
      generalize w1.heap.size = B at HM ⊢
      clear w1
      go_loopg [25] k (fun gg s25 wr => ∃ kk : Nat, kk ≤ k ∧ k - kk ≤ gg ∧ s25 = .int .i64 kk ∧ Aside0 (MBox w wr l B b m) ∧ Aside0 (∀ j, j < kk → badRow l j = false))
      case atStart => exact ⟨0, Nat.zero_le _, by omega, rfl, HM, Aside0.mk fun j hj => absurd hj (Nat.not_lt_zero _)⟩
      case round =>
        clear HM
        obtain ⟨kk, hkk, hgg, rfl, HM, HA⟩ := hrel
        by_cases hlt : kk < k
        · have hltz : (kk : Int) < (k : Int) := by omega
          have hkl : kk < l.length := by have := HN.out; omega
          obtain ⟨ad, A2, c2, rfl, x0, x1, x2, x3, x4⟩ := at_T40 (Kd.C_below HR.out HM.out.2.2.2.2.2) (kk : Int) (by omega) (by have := HN.out; omega)
          have hz : rd_T40 l kk = usAt l kk := by simp [rd_T40, usAt]
          rw [hz] at x0 x1 x2 x3 x4
          simp only [Int.toNat_natCast] at x0 x1 x2
          have HU := Aside0.mk hz
          have hmem := usAt_mem hkl
          have hfl := HF.out.refs _ hmem
          have HFR := Aside0.mk (HF.out.ref _ hmem)
          have hbr : badRow l kk = ((decide (0 < kk) && !lessN (usAt l (kk - 1)).f0 (usAt l kk).f0) || (!formedN (usAt l kk).f1 || anyP (fun x => !decide (x ∈ keysN l)) (usAt l kk).f1)) := rfl
          obtain ⟨br, hbr2⟩ : ∃ br, br = badRow l kk := ⟨_, rfl⟩
          have HBRE := Aside0.mk hbr2
          rw [← hbr2] at hbr
          have HBR := Aside0.mk hbr
          clear hz hmem hbr hbr2
          have BK := Aside0.mk (blk_new wr (.cells #[.string (usAt l kk).f0.f0, .int .i64 (usAt l kk).f0.f1, .slice A2 (usAt l kk).f1.length c2] 40))
          have HMU := Aside0.mk (HM.out.below (below_alloc (Below.refl _ wr) (.cells #[.string (usAt l kk).f0.f0, .int .i64 (usAt l kk).f0.f1, .slice A2 (usAt l kk).f1.length c2] 40)))
          have HC4 := Aside0.mk (Kd.C_below x4 (below_alloc (Below.refl _ wr) (.cells #[.string (usAt l kk).f0.f0, .int .i64 (usAt l kk).f0.f1, .slice A2 (usAt l kk).f1.length c2] 40)))
          have HC3 := Aside0.mk x3
          clear x3 x4 HM
          go_wp2
          generalize wr.alloc (.cells #[.string (usAt l kk).f0.f0, .int .i64 (usAt l kk).f0.f1, .slice A2 (usAt l kk).f1.length c2] 40) = wu at HMU HC4 BK ⊢
          generalize wr.heap.size = gu at BK ⊢
          clear x0 x1 x2 wr
          go_cut [56] (fun s56 wx => s56 = .bool br ∧ Aside0 (MBox w wx l B b m))
          case first =>
            have HB := Aside0.mk (Below.refl wu.heap.size wu)
            have hgu : gu < wu.heap.size := blk_lt BK.out
            have hform := fun (W : World) (hb : Below wu.heap.size wu W) => formed_any A2 c2 (usAt l kk).f1 W (Kd.C_below HC4.out hb) HC3.out hfl
            have hcont := fun (W : World) (hb : Below wu.heap.size wu W) => contains_any 31 #[.pointer (some ⟨B, 0, none⟩)] (enters_of Try.func31 (by kernel_rfl) rfl) _ A2 c2 (usAt l kk).f1 W (Kd.C_below HC4.out hb) HC3.out hfl HFR.out
              (pred_away B b m W (Nat.lt_of_lt_of_le (blk_lt HMU.out.2.2.1) hb.size) (blk_cell (HMU.out.below hb).2.2.1 0) (HMU.out.below hb).2.2.2.1 (RefsM.ok (HMU.out.below hb).2.2.2.2.1 HF.out.node))
            rw [HMU.out.2.2.2.2.1.1] at hcont
            have HFORM := Aside0.mk hform
            have HCONT := Aside0.mk hcont
            have d0 : wu.cell? ⟨gu, 0, none⟩ = some (.string (usAt l kk).f0.f0) := blk_cell BK.out 0
            have d1 : wu.cell? ⟨gu, 1, none⟩ = some (.int .i64 (usAt l kk).f0.f1) := blk_cell BK.out 1
            have d2 : wu.cell? ⟨gu, 2, none⟩ = some (.slice A2 (usAt l kk).f1.length c2) := blk_cell BK.out 2
            clear hform hcont
            rcases Nat.eq_zero_or_pos kk with hk0 | hk0
            · have hbr : br = (!formedN (usAt l kk).f1 || anyP (fun x => !decide (x ∈ keysN l)) (usAt l kk).f1) := by rw [HBR.out, decide_eq_false (by omega : ¬ 0 < kk)]; simp
              have hkz : ¬ (0 : Int) < (kk : Int) := by omega
              have hky : ¬ 0 < kk := by omega
              clear hk0
              have HBR2 := Aside0.mk hbr
              have HS := Aside0.mk (fun W (hb : Below wu.heap.size wu W) => show W.cell? ⟨gu, 2, none⟩ = some (.slice A2 (usAt l kk).f1.length c2) from (hb.cell (p := ⟨gu, 2, none⟩) hgu).trans d2)
              clear d0 d1 d2 hbr HBR HBRE HU
              generalize formedN (usAt l kk).f1 = f at HFORM HBR2 ⊢
              generalize anyP (fun x => !decide (x ∈ keysN l)) (usAt l kk).f1 = q at HCONT HBR2 ⊢
              cases f with
              | false =>
                refine start_ (n := 26) (S := fun W => W.cell? ⟨gu, 2, none⟩ = some (.slice A2 (usAt l kk).f1.length c2)) (ds := []) (lb 26 0) (by kernel_rfl) rfl rfl (HS.out _ (by repeat (with_reducible first | exact HB.out | apply below_alloc | apply pw_below_drewN | apply below_drew1))) (fun hHeld => ?_)
                replace HB := Aside0.mk (below_drew1 HB.out)
                generalize wu.drew = wud at HB hHeld ⊢
                refine pure_ (i := 0) (N := some 31) (v := ?_) (a' := ?_) (lb 26 1) rfl rfl (by kernel_rfl) (fun _ _ _ h => h) (Or.inl ⟨by rfl, ?_⟩) ?_ ?_
                rotate_left
                · intro w'
                  go_simp
                  with_reducible rfl
                rotate_left
                · simp only [Act.put, zS, zT, zU, zV, zW]
                  rfl
                refine pure_ (i := 1) (N := some 32) (v := ?_) (a' := ?_) (lb 26 3) rfl rfl (by kernel_rfl) (fun _ _ _ h => h) (Or.inl ⟨by rfl, ?_⟩) ?_ ?_
                rotate_left
                · intro w'
                  go_simp
                  with_reducible rfl
                rotate_left
                · simp only [Act.put, zS, zT, zU, zV, zW]
                  rfl
                refine pure_ (i := 2) (N := some 33) (v := ?_) (a' := ?_) (lb 26 7) rfl rfl (by kernel_rfl) (fun _ _ _ h => h) (Or.inl ⟨by rfl, ?_⟩) ?_ ?_
                rotate_left
                · intro w'
                  go_simp
                  with_reducible rfl
                rotate_left
                · simp only [Act.put, zS, zT, zU, zV, zW]
                  rfl
                refine pure_ (i := 3) (N := some 34) (v := undef) (a' := ?_) (lb 26 15) rfl rfl (by kernel_rfl) (fun _ _ _ h => h) (Or.inr ⟨by rfl, rfl⟩) ?_ ?_
                rotate_left
                · simp only [Act.put, zS, zT, zU, zV, zW]
                  rfl
                refine pure_ (i := 4) (N := some 35) (v := undef) (a' := ?_) (lb 26 31) rfl rfl (by kernel_rfl) (fun _ _ _ h => h) (Or.inr ⟨by rfl, rfl⟩) ?_ ?_
                rotate_left
                · simp only [Act.put, zS, zT, zU, zV, zW]
                  rfl
                refine pure_ (i := 5) (N := some 36) (v := undef) (a' := ?_) (lb 26 63) rfl rfl (by kernel_rfl) (fun _ _ _ h => h) (Or.inr ⟨by rfl, rfl⟩) ?_ ?_
                rotate_left
                · simp only [Act.put, zS, zT, zU, zV, zW]
                  rfl
                refine pure_ (i := 6) (N := some 37) (v := undef) (a' := ?_) (lb 26 127) rfl rfl (by kernel_rfl) (fun _ _ _ h => h) (Or.inr ⟨by rfl, rfl⟩) ?_ ?_
                rotate_left
                · simp only [Act.put, zS, zT, zU, zV, zW]
                  rfl
                refine pure_ (i := 7) (N := some 38) (v := undef) (a' := ?_) (lb 26 255) rfl rfl (by kernel_rfl) (fun _ _ _ h => h) (Or.inr ⟨by rfl, rfl⟩) ?_ ?_
                rotate_left
                · simp only [Act.put, zS, zT, zU, zV, zW]
                  rfl
                refine pure_ (i := 8) (N := some 39) (v := undef) (a' := ?_) (lb 26 511) rfl rfl (by kernel_rfl) (fun _ _ _ h => h) (Or.inr ⟨by rfl, rfl⟩) ?_ ?_
                rotate_left
                · simp only [Act.put, zS, zT, zU, zV, zW]
                  rfl
                refine pure_ (i := 9) (N := some 40) (v := undef) (a' := ?_) (lb 26 1023) rfl rfl (by kernel_rfl) (fun _ _ _ h => h) (Or.inr ⟨by rfl, rfl⟩) ?_ ?_
                rotate_left
                · simp only [Act.put, zS, zT, zU, zV, zW]
                  rfl
                refine pure_ (i := 10) (N := some 41) (v := undef) (a' := ?_) (lb 26 2047) rfl rfl (by kernel_rfl) (fun _ _ _ h => h) (Or.inr ⟨by rfl, rfl⟩) ?_ ?_
                rotate_left
                · simp only [Act.put, zS, zT, zU, zV, zW]
                  rfl
                refine pure_ (i := 11) (N := some 42) (v := undef) (a' := ?_) (lb 26 4095) rfl rfl (by kernel_rfl) (fun _ _ _ h => h) (Or.inr ⟨by rfl, rfl⟩) ?_ ?_
                rotate_left
                · simp only [Act.put, zS, zT, zU, zV, zW]
                  rfl
                refine pure_ (i := 12) (N := some 43) (v := undef) (a' := ?_) (lb 26 8191) rfl rfl (by kernel_rfl) (fun _ _ _ h => h) (Or.inr ⟨by rfl, rfl⟩) ?_ ?_
                rotate_left
                · simp only [Act.put, zS, zT, zU, zV, zW]
                  rfl
                refine pure_ (i := 13) (N := some 44) (v := ?_) (a' := ?_) (lb 26 16383) rfl rfl (by kernel_rfl) (fun _ _ _ h => h) (Or.inl ⟨by rfl, ?_⟩) ?_ ?_
                rotate_left
                · intro w'
                  go_simp
                  with_reducible rfl
                rotate_left
                · simp only [Act.put, zS, zT, zU, zV, zW]
                  rfl
                refine pure_ (i := 14) (N := some 45) (v := ?_) (a' := ?_) (lb 26 32767) rfl rfl (by kernel_rfl) (fun _ _ _ h => h) (Or.inl ⟨by rfl, ?_⟩) ?_ ?_
                rotate_left
                · intro w'
                  go_simp
                  with_reducible rfl
                rotate_left
                · simp only [Act.put, zS, zT, zU, zV, zW]
                  rfl
                refine pure_ (i := 15) (N := some 46) (v := ?_) (a' := ?_) (lb 26 65535) rfl rfl (by kernel_rfl) (fun _ _ _ h => h) (Or.inl ⟨by rfl, ?_⟩) ?_ ?_
                rotate_left
                · intro w'
                  go_simp
                  with_reducible rfl
                rotate_left
                · simp only [Act.put, zS, zT, zU, zV, zW]
                  rfl
                refine take_ (i := 16) (N := some 47) (v := ?_) (a' := ?_) (lb 26 131071) rfl rfl (by kernel_rfl) (fun _ _ _ h => h) (Or.inl ⟨by rfl, ?_⟩) hHeld ?_ ?_
                rotate_left
                · intro w' hS_
                  (try dsimp only at hS_)
                  skip
                  go_simp
                  with_reducible rfl
                rotate_left
                · simp only [Act.put, zS, zT, zU, zV, zW]
                  rfl
                refine one_ (i := 17) (N := some 48) (lb 26 262143) rfl rfl (by kernel_rfl) (by decide) (fun K hK => ?_)
                refine goes_ Try.func32 (by kernel_rfl) rfl #[.slice A2 (usAt l kk).f1.length c2] (by rfl) rfl rfl (by (try simp only [zX, zY, zZ]); first | done | rfl) ?_
                refine (HFORM.out _ (by repeat (with_reducible first | exact HB.out | apply below_alloc | apply pw_below_drewN | apply below_drew1))).mono ?_
                rintro e wv ⟨rfl, hb⟩
                refine ⟨_, rfl, ?_⟩
                replace HB := Aside0.mk (below_step HB.out hb)
                clear hb
                refine hK.out _ _ (HS.out _ (by repeat (with_reducible first | exact HB.out | apply below_alloc | apply pw_below_drewN | apply below_drew1))) (fun hHeld => ?_)
                clear hK K
                refine norm_ (a' := ?_) ?_ ?_
                rotate_left
                · show Act.put _ (some 48) _ = _
                  simp only [Act.put, zS, zT, zU, zV, zW]
                  rfl
                refine pure_ (i := 18) (N := some 49) (v := ?_) (a' := ?_) (lb 26 524287) rfl rfl (by kernel_rfl) (fun _ _ _ h => h) (Or.inl ⟨by rfl, ?_⟩) ?_ ?_
                rotate_left
                · intro w'
                  go_simp
                  with_reducible rfl
                rotate_left
                · simp only [Act.put, zS, zT, zU, zV, zW]
                  rfl
                refine pure_ (i := 19) (N := some 50) (v := ?_) (a' := ?_) (lb 26 1048575) rfl rfl (by kernel_rfl) (fun _ _ _ h => h) (Or.inl ⟨by rfl, ?_⟩) ?_ ?_
                rotate_left
                · intro w'
                  go_simp
                  with_reducible rfl
                rotate_left
                · simp only [Act.put, zS, zT, zU, zV, zW]
                  rfl
                refine pure_ (i := 20) (N := some 51) (v := ?_) (a' := ?_) (lb 26 2097151) rfl rfl (by kernel_rfl) (fun _ _ _ h => h) (Or.inl ⟨by rfl, ?_⟩) ?_ ?_
                rotate_left
                · intro w'
                  go_simp
                  with_reducible rfl
                rotate_left
                · simp only [Act.put, zS, zT, zU, zV, zW]
                  rfl
                refine pure_ (i := 21) (N := some 52) (v := undef) (a' := ?_) (lb 26 4194303) rfl rfl (by kernel_rfl) (fun _ _ _ h => h) (Or.inr ⟨by rfl, rfl⟩) ?_ ?_
                rotate_left
                · simp only [Act.put, zS, zT, zU, zV, zW]
                  rfl
                refine pure_ (i := 22) (N := some 53) (v := undef) (a' := ?_) (lb 26 8388607) rfl rfl (by kernel_rfl) (fun _ _ _ h => h) (Or.inr ⟨by rfl, rfl⟩) ?_ ?_
                rotate_left
                · simp only [Act.put, zS, zT, zU, zV, zW]
                  rfl
                refine pure_ (i := 23) (N := some 54) (v := undef) (a' := ?_) (lb 26 16777215) rfl rfl (by kernel_rfl) (fun _ _ _ h => h) (Or.inr ⟨by rfl, rfl⟩) ?_ ?_
                rotate_left
                · simp only [Act.put, zS, zT, zU, zV, zW]
                  rfl
                refine pure_ (i := 24) (N := some 55) (v := undef) (a' := ?_) (lb 26 33554431) rfl rfl (by kernel_rfl) (fun _ _ _ h => h) (Or.inr ⟨by rfl, rfl⟩) ?_ ?_
                rotate_left
                · simp only [Act.put, zS, zT, zU, zV, zW]
                  rfl
                refine pure_ (i := 25) (N := some 56) (v := ?_) (a' := ?_) (lb 26 67108863) rfl rfl (by kernel_rfl) (fun _ _ _ h => h) (Or.inl ⟨by rfl, ?_⟩) ?_ ?_
                rotate_left
                · intro w'
                  go_simp
                  with_reducible rfl
                rotate_left
                · simp only [Act.put, zS, zT, zU, zV, zW]
                  rfl
                refine done_ (by kernel_rfl) ?_
                go_wp2
                go_meet
                exact ⟨by rw [HBR2.out]; rfl, Aside0.mk (HMU.out.below HB.out)⟩
              | true =>
                refine start_ (n := 26) (S := fun W => W.cell? ⟨gu, 2, none⟩ = some (.slice A2 (usAt l kk).f1.length c2)) (ds := []) (lb 26 0) (by kernel_rfl) rfl rfl (HS.out _ (by repeat (with_reducible first | exact HB.out | apply below_alloc | apply pw_below_drewN | apply below_drew1))) (fun hHeld => ?_)
                replace HB := Aside0.mk (below_drew1 HB.out)
                generalize wu.drew = wud at HB hHeld ⊢
                refine pure_ (i := 0) (N := some 31) (v := ?_) (a' := ?_) (lb 26 1) rfl rfl (by kernel_rfl) (fun _ _ _ h => h) (Or.inl ⟨by rfl, ?_⟩) ?_ ?_
                rotate_left
                · intro w'
                  go_simp
                  with_reducible rfl
                rotate_left
                · simp only [Act.put, zS, zT, zU, zV, zW]
                  rfl
                refine pure_ (i := 1) (N := some 32) (v := ?_) (a' := ?_) (lb 26 3) rfl rfl (by kernel_rfl) (fun _ _ _ h => h) (Or.inl ⟨by rfl, ?_⟩) ?_ ?_
                rotate_left
                · intro w'
                  go_simp
                  with_reducible rfl
                rotate_left
                · simp only [Act.put, zS, zT, zU, zV, zW]
                  rfl
                refine pure_ (i := 2) (N := some 33) (v := ?_) (a' := ?_) (lb 26 7) rfl rfl (by kernel_rfl) (fun _ _ _ h => h) (Or.inl ⟨by rfl, ?_⟩) ?_ ?_
                rotate_left
                · intro w'
                  go_simp
                  with_reducible rfl
                rotate_left
                · simp only [Act.put, zS, zT, zU, zV, zW]
                  rfl
                refine pure_ (i := 3) (N := some 34) (v := undef) (a' := ?_) (lb 26 15) rfl rfl (by kernel_rfl) (fun _ _ _ h => h) (Or.inr ⟨by rfl, rfl⟩) ?_ ?_
                rotate_left
                · simp only [Act.put, zS, zT, zU, zV, zW]
                  rfl
                refine pure_ (i := 4) (N := some 35) (v := undef) (a' := ?_) (lb 26 31) rfl rfl (by kernel_rfl) (fun _ _ _ h => h) (Or.inr ⟨by rfl, rfl⟩) ?_ ?_
                rotate_left
                · simp only [Act.put, zS, zT, zU, zV, zW]
                  rfl
                refine pure_ (i := 5) (N := some 36) (v := undef) (a' := ?_) (lb 26 63) rfl rfl (by kernel_rfl) (fun _ _ _ h => h) (Or.inr ⟨by rfl, rfl⟩) ?_ ?_
                rotate_left
                · simp only [Act.put, zS, zT, zU, zV, zW]
                  rfl
                refine pure_ (i := 6) (N := some 37) (v := undef) (a' := ?_) (lb 26 127) rfl rfl (by kernel_rfl) (fun _ _ _ h => h) (Or.inr ⟨by rfl, rfl⟩) ?_ ?_
                rotate_left
                · simp only [Act.put, zS, zT, zU, zV, zW]
                  rfl
                refine pure_ (i := 7) (N := some 38) (v := undef) (a' := ?_) (lb 26 255) rfl rfl (by kernel_rfl) (fun _ _ _ h => h) (Or.inr ⟨by rfl, rfl⟩) ?_ ?_
                rotate_left
                · simp only [Act.put, zS, zT, zU, zV, zW]
                  rfl
                refine pure_ (i := 8) (N := some 39) (v := undef) (a' := ?_) (lb 26 511) rfl rfl (by kernel_rfl) (fun _ _ _ h => h) (Or.inr ⟨by rfl, rfl⟩) ?_ ?_
                rotate_left
                · simp only [Act.put, zS, zT, zU, zV, zW]
                  rfl
                refine pure_ (i := 9) (N := some 40) (v := undef) (a' := ?_) (lb 26 1023) rfl rfl (by kernel_rfl) (fun _ _ _ h => h) (Or.inr ⟨by rfl, rfl⟩) ?_ ?_
                rotate_left
                · simp only [Act.put, zS, zT, zU, zV, zW]
                  rfl
                refine pure_ (i := 10) (N := some 41) (v := undef) (a' := ?_) (lb 26 2047) rfl rfl (by kernel_rfl) (fun _ _ _ h => h) (Or.inr ⟨by rfl, rfl⟩) ?_ ?_
                rotate_left
                · simp only [Act.put, zS, zT, zU, zV, zW]
                  rfl
                refine pure_ (i := 11) (N := some 42) (v := undef) (a' := ?_) (lb 26 4095) rfl rfl (by kernel_rfl) (fun _ _ _ h => h) (Or.inr ⟨by rfl, rfl⟩) ?_ ?_
                rotate_left
                · simp only [Act.put, zS, zT, zU, zV, zW]
                  rfl
                refine pure_ (i := 12) (N := some 43) (v := undef) (a' := ?_) (lb 26 8191) rfl rfl (by kernel_rfl) (fun _ _ _ h => h) (Or.inr ⟨by rfl, rfl⟩) ?_ ?_
                rotate_left
                · simp only [Act.put, zS, zT, zU, zV, zW]
                  rfl
                refine pure_ (i := 13) (N := some 44) (v := ?_) (a' := ?_) (lb 26 16383) rfl rfl (by kernel_rfl) (fun _ _ _ h => h) (Or.inl ⟨by rfl, ?_⟩) ?_ ?_
                rotate_left
                · intro w'
                  go_simp
                  with_reducible rfl
                rotate_left
                · simp only [Act.put, zS, zT, zU, zV, zW]
                  rfl
                refine pure_ (i := 14) (N := some 45) (v := ?_) (a' := ?_) (lb 26 32767) rfl rfl (by kernel_rfl) (fun _ _ _ h => h) (Or.inl ⟨by rfl, ?_⟩) ?_ ?_
                rotate_left
                · intro w'
                  go_simp
                  with_reducible rfl
                rotate_left
                · simp only [Act.put, zS, zT, zU, zV, zW]
                  rfl
                refine pure_ (i := 15) (N := some 46) (v := ?_) (a' := ?_) (lb 26 65535) rfl rfl (by kernel_rfl) (fun _ _ _ h => h) (Or.inl ⟨by rfl, ?_⟩) ?_ ?_
                rotate_left
                · intro w'
                  go_simp
                  with_reducible rfl
                rotate_left
                · simp only [Act.put, zS, zT, zU, zV, zW]
                  rfl
                refine take_ (i := 16) (N := some 47) (v := ?_) (a' := ?_) (lb 26 131071) rfl rfl (by kernel_rfl) (fun _ _ _ h => h) (Or.inl ⟨by rfl, ?_⟩) hHeld ?_ ?_
                rotate_left
                · intro w' hS_
                  (try dsimp only at hS_)
                  skip
                  go_simp
                  with_reducible rfl
                rotate_left
                · simp only [Act.put, zS, zT, zU, zV, zW]
                  rfl
                refine one_ (i := 17) (N := some 48) (lb 26 262143) rfl rfl (by kernel_rfl) (by decide) (fun K hK => ?_)
                refine goes_ Try.func32 (by kernel_rfl) rfl #[.slice A2 (usAt l kk).f1.length c2] (by rfl) rfl rfl (by (try simp only [zX, zY, zZ]); first | done | rfl) ?_
                refine (HFORM.out _ (by repeat (with_reducible first | exact HB.out | apply below_alloc | apply pw_below_drewN | apply below_drew1))).mono ?_
                rintro e wv ⟨rfl, hb⟩
                refine ⟨_, rfl, ?_⟩
                replace HB := Aside0.mk (below_step HB.out hb)
                clear hb
                refine hK.out _ _ (HS.out _ (by repeat (with_reducible first | exact HB.out | apply below_alloc | apply pw_below_drewN | apply below_drew1))) (fun hHeld => ?_)
                clear hK K
                refine norm_ (a' := ?_) ?_ ?_
                rotate_left
                · show Act.put _ (some 48) _ = _
                  simp only [Act.put, zS, zT, zU, zV, zW]
                  rfl
                refine pure_ (i := 18) (N := some 49) (v := ?_) (a' := ?_) (lb 26 524287) rfl rfl (by kernel_rfl) (fun _ _ _ h => h) (Or.inl ⟨by rfl, ?_⟩) ?_ ?_
                rotate_left
                · intro w'
                  go_simp
                  with_reducible rfl
                rotate_left
                · simp only [Act.put, zS, zT, zU, zV, zW]
                  rfl
                refine pure_ (i := 19) (N := some 50) (v := ?_) (a' := ?_) (lb 26 1048575) rfl rfl (by kernel_rfl) (fun _ _ _ h => h) (Or.inl ⟨by rfl, ?_⟩) ?_ ?_
                rotate_left
                · intro w'
                  go_simp
                  with_reducible rfl
                rotate_left
                · simp only [Act.put, zS, zT, zU, zV, zW]
                  rfl
                refine pure_ (i := 20) (N := some 51) (v := ?_) (a' := ?_) (lb 26 2097151) rfl rfl (by kernel_rfl) (fun _ _ _ h => h) (Or.inl ⟨by rfl, ?_⟩) ?_ ?_
                rotate_left
                · intro w'
                  go_simp
                  with_reducible rfl
                rotate_left
                · simp only [Act.put, zS, zT, zU, zV, zW]
                  rfl
                refine pure_ (i := 21) (N := some 52) (v := ?_) (a' := ?_) (lb 26 4194303) rfl rfl (by kernel_rfl) (fun _ _ _ h => h) (Or.inl ⟨by rfl, ?_⟩) ?_ ?_
                rotate_left
                · intro w'
                  go_simp
                  with_reducible rfl
                rotate_left
                · simp only [Act.put, zS, zT, zU, zV, zW]
                  rfl
                refine pure_ (i := 23) (N := some 54) (v := ?_) (a' := ?_) (lb 26 12582911) rfl rfl (by kernel_rfl) (fun _ _ _ h => h) (Or.inl ⟨by rfl, ?_⟩) ?_ ?_
                rotate_left
                · intro w'
                  go_simp
                  with_reducible rfl
                rotate_left
                · simp only [Act.put, zS, zT, zU, zV, zW]
                  rfl
                refine take_ (i := 22) (N := some 53) (v := ?_) (a' := ?_) (lb 26 16777215) rfl rfl (by kernel_rfl) (fun _ _ _ h => h) (Or.inl ⟨by rfl, ?_⟩) hHeld ?_ ?_
                rotate_left
                · intro w' hS_
                  (try dsimp only at hS_)
                  skip
                  go_simp
                  with_reducible rfl
                rotate_left
                · simp only [Act.put, zS, zT, zU, zV, zW]
                  rfl
                refine one_ (i := 24) (N := some 55) (lb 26 33554431) rfl rfl (by kernel_rfl) (by decide) (fun K hK => ?_)
                refine goes_ Try.func33 (by kernel_rfl) rfl #[.slice A2 (usAt l kk).f1.length c2, .func (.func 31) #[] #[.pointer (some ⟨B, 0, none⟩)]] (by rfl) rfl rfl (by (try simp only [zX, zY, zZ]); first | done | rfl) ?_
                refine (HCONT.out _ (by repeat (with_reducible first | exact HB.out | apply below_alloc | apply pw_below_drewN | apply below_drew1))).mono ?_
                rintro e wv2 ⟨rfl, hb⟩
                refine ⟨_, rfl, ?_⟩
                replace HB := Aside0.mk (below_step HB.out hb)
                clear hb
                refine hK.out _ _ (HS.out _ (by repeat (with_reducible first | exact HB.out | apply below_alloc | apply pw_below_drewN | apply below_drew1))) (fun hHeld => ?_)
                clear hK K
                refine norm_ (a' := ?_) ?_ ?_
                rotate_left
                · show Act.put _ (some 55) _ = _
                  simp only [Act.put, zS, zT, zU, zV, zW]
                  rfl
                refine pure_ (i := 25) (N := some 56) (v := ?_) (a' := ?_) (lb 26 67108863) rfl rfl (by kernel_rfl) (fun _ _ _ h => h) (Or.inl ⟨by rfl, ?_⟩) ?_ ?_
                rotate_left
                · intro w'
                  go_simp
                  with_reducible rfl
                rotate_left
                · simp only [Act.put, zS, zT, zU, zV, zW]
                  rfl
                refine done_ (by kernel_rfl) ?_
                go_wp2
                go_meet
                exact ⟨by rw [HBR2.out]; rfl, Aside0.mk (HMU.out.below HB.out)⟩
            · have hkz : (0 : Int) < (kk : Int) := by omega
              have hkw : IntKind.i64.wrap ((kk : Int) - 1) = (kk : Int) - 1 := IntWalk.i64_in _ (by omega)
              have hk1 : (0 : Int) ≤ (kk : Int) - 1 := by omega
              have hk4 : (1 : Int) ≤ (kk : Int) := by omega
              have hk2 : (kk : Int) - 1 < (k : Int) := by omega
              have hk3 : ((kk : Int) - 1).toNat = kk - 1 := by omega
              obtain ⟨ad', A3, c3, had, x0, x1, _, _, _⟩ := at_T40 (Kd.C_below HR.out HMU.out.2.2.2.2.2) ((kk : Int) - 1) hk1 (by have := HN.out; omega)
              injection had with had
              subst had
              have hz : rd_T40 l ((kk : Int) - 1) = usAt l (kk - 1) := by simp [rd_T40, usAt]
              rw [hz, hk3] at x0 x1
              have hadl := World.block_lt_of_cell? _ _ x0
              have HS := Aside0.mk (fun W (hb : Below wu.heap.size wu W) => show W.cell? (ad.add ((kk - 1) * 3)) = some (.string (usAt l (kk - 1)).f0.f0) ∧ W.cell? ⟨(ad.add ((kk - 1) * 3)).block, (ad.add ((kk - 1) * 3)).off + 1, none⟩ = some (.int .i64 (usAt l (kk - 1)).f0.f1) ∧ W.cell? ⟨gu, 0, none⟩ = some (.string (usAt l kk).f0.f0) ∧ W.cell? ⟨gu, 1, none⟩ = some (.int .i64 (usAt l kk).f0.f1) ∧ W.cell? ⟨gu, 2, none⟩ = some (.slice A2 (usAt l kk).f1.length c2) from
                ⟨(hb.cell (p := ad.add ((kk - 1) * 3)) hadl).trans x0, (hb.cell (p := ⟨(ad.add ((kk - 1) * 3)).block, (ad.add ((kk - 1) * 3)).off + 1, none⟩) hadl).trans x1, (hb.cell (p := ⟨gu, 0, none⟩) hgu).trans d0, (hb.cell (p := ⟨gu, 1, none⟩) hgu).trans d1, (hb.cell (p := ⟨gu, 2, none⟩) hgu).trans d2⟩)
              have hless := fun W => less_any (usAt l (kk - 1)).f0 (usAt l kk).f0 W
              have HLESS := Aside0.mk hless
              have hbr : br = (!lessN (usAt l (kk - 1)).f0 (usAt l kk).f0 || (!formedN (usAt l kk).f1 || anyP (fun x => !decide (x ∈ keysN l)) (usAt l kk).f1)) := by rw [HBR.out, decide_eq_true hk0]; simp
              have HBR2 := Aside0.mk hbr
              clear x0 x1 hless hbr HBR HBRE HU d0 d1 d2 hz hadl
              generalize lessN (usAt l (kk - 1)).f0 (usAt l kk).f0 = le at HLESS HBR2 ⊢
              generalize formedN (usAt l kk).f1 = f at HFORM HBR2 ⊢
              generalize anyP (fun x => !decide (x ∈ keysN l)) (usAt l kk).f1 = q at HCONT HBR2 ⊢
              cases le with
              | false =>
                refine start_ (n := 26) (S := fun W => W.cell? (ad.add ((kk - 1) * 3)) = some (.string (usAt l (kk - 1)).f0.f0) ∧ W.cell? ⟨(ad.add ((kk - 1) * 3)).block, (ad.add ((kk - 1) * 3)).off + 1, none⟩ = some (.int .i64 (usAt l (kk - 1)).f0.f1) ∧ W.cell? ⟨gu, 0, none⟩ = some (.string (usAt l kk).f0.f0) ∧ W.cell? ⟨gu, 1, none⟩ = some (.int .i64 (usAt l kk).f0.f1) ∧ W.cell? ⟨gu, 2, none⟩ = some (.slice A2 (usAt l kk).f1.length c2)) (ds := []) (lb 26 0) (by kernel_rfl) rfl rfl (HS.out _ (by repeat (with_reducible first | exact HB.out | apply below_alloc | apply pw_below_drewN | apply below_drew1))) (fun hHeld => ?_)
                replace HB := Aside0.mk (below_drew1 HB.out)
                generalize wu.drew = wud at HB hHeld ⊢
                refine pure_ (i := 0) (N := some 31) (v := ?_) (a' := ?_) (lb 26 1) rfl rfl (by kernel_rfl) (fun _ _ _ h => h) (Or.inl ⟨by rfl, ?_⟩) ?_ ?_
                rotate_left
                · intro w'
                  go_simp
                  with_reducible rfl
                rotate_left
                · simp only [Act.put, zS, zT, zU, zV, zW]
                  rfl
                refine pure_ (i := 1) (N := some 32) (v := ?_) (a' := ?_) (lb 26 3) rfl rfl (by kernel_rfl) (fun _ _ _ h => h) (Or.inl ⟨by rfl, ?_⟩) ?_ ?_
                rotate_left
                · intro w'
                  go_simp
                  with_reducible rfl
                rotate_left
                · simp only [Act.put, zS, zT, zU, zV, zW]
                  rfl
                refine pure_ (i := 2) (N := some 33) (v := ?_) (a' := ?_) (lb 26 7) rfl rfl (by kernel_rfl) (fun _ _ _ h => h) (Or.inl ⟨by rfl, ?_⟩) ?_ ?_
                rotate_left
                · intro w'
                  go_simp
                  with_reducible rfl
                rotate_left
                · simp only [Act.put, zS, zT, zU, zV, zW]
                  rfl
                refine pure_ (i := 3) (N := some 34) (v := ?_) (a' := ?_) (lb 26 15) rfl rfl (by kernel_rfl) (fun _ _ _ h => h) (Or.inl ⟨by rfl, ?_⟩) ?_ ?_
                rotate_left
                · intro w'
                  go_simp
                  with_reducible rfl
                rotate_left
                · simp only [Act.put, zS, zT, zU, zV, zW]
                  rfl
                refine pure_ (i := 4) (N := some 35) (v := ?_) (a' := ?_) (lb 26 31) rfl rfl (by kernel_rfl) (fun _ _ _ h => h) (Or.inl ⟨by rfl, ?_⟩) ?_ ?_
                rotate_left
                · intro w'
                  go_simp
                  with_reducible rfl
                rotate_left
                · simp only [Act.put, zS, zT, zU, zV, zW]
                  rfl
                refine pure_ (i := 5) (N := some 36) (v := ?_) (a' := ?_) (lb 26 63) rfl rfl (by kernel_rfl) (fun _ _ _ h => h) (Or.inl ⟨by rfl, ?_⟩) ?_ ?_
                rotate_left
                · intro w'
                  go_simp
                  with_reducible rfl
                rotate_left
                · simp only [Act.put, zS, zT, zU, zV, zW]
                  rfl
                refine pure_ (i := 6) (N := some 37) (v := ?_) (a' := ?_) (lb 26 127) rfl rfl (by kernel_rfl) (fun _ _ _ h => h) (Or.inl ⟨by rfl, ?_⟩) ?_ ?_
                rotate_left
                · intro w'
                  go_simp
                  with_reducible rfl
                rotate_left
                · simp only [Act.put, zS, zT, zU, zV, zW]
                  rfl
                refine pure_ (i := 7) (N := some 38) (v := ?_) (a' := ?_) (lb 26 255) rfl rfl (by kernel_rfl) (fun _ _ _ h => h) (Or.inl ⟨by rfl, ?_⟩) ?_ ?_
                rotate_left
                · intro w'
                  go_simp
                  with_reducible rfl
                rotate_left
                · simp only [Act.put, zS, zT, zU, zV, zW]
                  rfl
                refine pure_ (i := 9) (N := some 40) (v := ?_) (a' := ?_) (lb 26 767) rfl rfl (by kernel_rfl) (fun _ _ _ h => h) (Or.inl ⟨by rfl, ?_⟩) ?_ ?_
                rotate_left
                · intro w'
                  go_simp
                  with_reducible rfl
                rotate_left
                · simp only [Act.put, zS, zT, zU, zV, zW]
                  rfl
                refine take_ (i := 8) (N := some 39) (v := ?_) (a' := ?_) (lb 26 1023) rfl rfl (by kernel_rfl) (fun _ _ _ h => h) (Or.inl ⟨by rfl, ?_⟩) hHeld ?_ ?_
                rotate_left
                · intro w' hS_
                  (try dsimp only at hS_)
                  obtain ⟨s0, s1, s2, s3, s4⟩ := hS_
                  go_simp
                  with_reducible rfl
                rotate_left
                · simp only [Act.put, zS, zT, zU, zV, zW]
                  rfl
                refine take_ (i := 10) (N := some 41) (v := ?_) (a' := ?_) (lb 26 2047) rfl rfl (by kernel_rfl) (fun _ _ _ h => h) (Or.inl ⟨by rfl, ?_⟩) hHeld ?_ ?_
                rotate_left
                · intro w' hS_
                  (try dsimp only at hS_)
                  obtain ⟨s0, s1, s2, s3, s4⟩ := hS_
                  go_simp
                  with_reducible rfl
                rotate_left
                · simp only [Act.put, zS, zT, zU, zV, zW]
                  rfl
                refine one_ (i := 11) (N := some 42) (lb 26 4095) rfl rfl (by kernel_rfl) (by decide) (fun K hK => ?_)
                refine goes_ Try.func11 (by kernel_rfl) rfl #[.agg #[.string (usAt l (kk - 1)).f0.f0, .int .i64 (usAt l (kk - 1)).f0.f1], .agg #[.string (usAt l kk).f0.f0, .int .i64 (usAt l kk).f0.f1]] (by rfl) rfl rfl (by (try simp only [zX, zY, zZ]); first | done | rfl) ?_
                refine (HLESS.out _).mono ?_
                rintro e wv0 ⟨rfl, hb⟩
                refine ⟨_, rfl, ?_⟩
                replace HB := Aside0.mk (below_step HB.out hb)
                clear hb
                refine hK.out _ _ (HS.out _ (by repeat (with_reducible first | exact HB.out | apply below_alloc | apply pw_below_drewN | apply below_drew1))) (fun hHeld => ?_)
                clear hK K
                refine norm_ (a' := ?_) ?_ ?_
                rotate_left
                · show Act.put _ (some 42) _ = _
                  simp only [Act.put, zS, zT, zU, zV, zW]
                  rfl
                refine pure_ (i := 12) (N := some 43) (v := ?_) (a' := ?_) (lb 26 8191) rfl rfl (by kernel_rfl) (fun _ _ _ h => h) (Or.inl ⟨by rfl, ?_⟩) ?_ ?_
                rotate_left
                · intro w'
                  go_simp
                  with_reducible rfl
                rotate_left
                · simp only [Act.put, zS, zT, zU, zV, zW]
                  rfl
                refine pure_ (i := 13) (N := some 44) (v := ?_) (a' := ?_) (lb 26 16383) rfl rfl (by kernel_rfl) (fun _ _ _ h => h) (Or.inl ⟨by rfl, ?_⟩) ?_ ?_
                rotate_left
                · intro w'
                  go_simp
                  with_reducible rfl
                rotate_left
                · simp only [Act.put, zS, zT, zU, zV, zW]
                  rfl
                refine pure_ (i := 14) (N := some 45) (v := ?_) (a' := ?_) (lb 26 32767) rfl rfl (by kernel_rfl) (fun _ _ _ h => h) (Or.inl ⟨by rfl, ?_⟩) ?_ ?_
                rotate_left
                · intro w'
                  go_simp
                  with_reducible rfl
                rotate_left
                · simp only [Act.put, zS, zT, zU, zV, zW]
                  rfl
                refine pure_ (i := 15) (N := some 46) (v := undef) (a' := ?_) (lb 26 65535) rfl rfl (by kernel_rfl) (fun _ _ _ h => h) (Or.inr ⟨by rfl, rfl⟩) ?_ ?_
                rotate_left
                · simp only [Act.put, zS, zT, zU, zV, zW]
                  rfl
                refine pure_ (i := 16) (N := some 47) (v := undef) (a' := ?_) (lb 26 131071) rfl rfl (by kernel_rfl) (fun _ _ _ h => h) (Or.inr ⟨by rfl, rfl⟩) ?_ ?_
                rotate_left
                · simp only [Act.put, zS, zT, zU, zV, zW]
                  rfl
                refine pure_ (i := 17) (N := some 48) (v := undef) (a' := ?_) (lb 26 262143) rfl rfl (by kernel_rfl) (fun _ _ _ h => h) (Or.inr ⟨by rfl, rfl⟩) ?_ ?_
                rotate_left
                · simp only [Act.put, zS, zT, zU, zV, zW]
                  rfl
                refine pure_ (i := 18) (N := some 49) (v := undef) (a' := ?_) (lb 26 524287) rfl rfl (by kernel_rfl) (fun _ _ _ h => h) (Or.inr ⟨by rfl, rfl⟩) ?_ ?_
                rotate_left
                · simp only [Act.put, zS, zT, zU, zV, zW]
                  rfl
                refine pure_ (i := 19) (N := some 50) (v := ?_) (a' := ?_) (lb 26 1048575) rfl rfl (by kernel_rfl) (fun _ _ _ h => h) (Or.inl ⟨by rfl, ?_⟩) ?_ ?_
                rotate_left
                · intro w'
                  go_simp
                  with_reducible rfl
                rotate_left
                · simp only [Act.put, zS, zT, zU, zV, zW]
                  rfl
                refine pure_ (i := 20) (N := some 51) (v := ?_) (a' := ?_) (lb 26 2097151) rfl rfl (by kernel_rfl) (fun _ _ _ h => h) (Or.inl ⟨by rfl, ?_⟩) ?_ ?_
                rotate_left
                · intro w'
                  go_simp
                  with_reducible rfl
                rotate_left
                · simp only [Act.put, zS, zT, zU, zV, zW]
                  rfl
                refine pure_ (i := 21) (N := some 52) (v := undef) (a' := ?_) (lb 26 4194303) rfl rfl (by kernel_rfl) (fun _ _ _ h => h) (Or.inr ⟨by rfl, rfl⟩) ?_ ?_
                rotate_left
                · simp only [Act.put, zS, zT, zU, zV, zW]
                  rfl
                refine pure_ (i := 22) (N := some 53) (v := undef) (a' := ?_) (lb 26 8388607) rfl rfl (by kernel_rfl) (fun _ _ _ h => h) (Or.inr ⟨by rfl, rfl⟩) ?_ ?_
                rotate_left
                · simp only [Act.put, zS, zT, zU, zV, zW]
                  rfl
                refine pure_ (i := 23) (N := some 54) (v := undef) (a' := ?_) (lb 26 16777215) rfl rfl (by kernel_rfl) (fun _ _ _ h => h) (Or.inr ⟨by rfl, rfl⟩) ?_ ?_
                rotate_left
                · simp only [Act.put, zS, zT, zU, zV, zW]
                  rfl
                refine pure_ (i := 24) (N := some 55) (v := undef) (a' := ?_) (lb 26 33554431) rfl rfl (by kernel_rfl) (fun _ _ _ h => h) (Or.inr ⟨by rfl, rfl⟩) ?_ ?_
                rotate_left
                · simp only [Act.put, zS, zT, zU, zV, zW]
                  rfl
                refine pure_ (i := 25) (N := some 56) (v := ?_) (a' := ?_) (lb 26 67108863) rfl rfl (by kernel_rfl) (fun _ _ _ h => h) (Or.inl ⟨by rfl, ?_⟩) ?_ ?_
                rotate_left
                · intro w'
                  go_simp
                  with_reducible rfl
                rotate_left
                · simp only [Act.put, zS, zT, zU, zV, zW]
                  rfl
                refine done_ (by kernel_rfl) ?_
                go_wp2
                go_meet
                exact ⟨by rw [HBR2.out]; rfl, Aside0.mk (HMU.out.below HB.out)⟩
              | true =>
                cases f with
                | false =>
                  refine start_ (n := 26) (S := fun W => W.cell? (ad.add ((kk - 1) * 3)) = some (.string (usAt l (kk - 1)).f0.f0) ∧ W.cell? ⟨(ad.add ((kk - 1) * 3)).block, (ad.add ((kk - 1) * 3)).off + 1, none⟩ = some (.int .i64 (usAt l (kk - 1)).f0.f1) ∧ W.cell? ⟨gu, 0, none⟩ = some (.string (usAt l kk).f0.f0) ∧ W.cell? ⟨gu, 1, none⟩ = some (.int .i64 (usAt l kk).f0.f1) ∧ W.cell? ⟨gu, 2, none⟩ = some (.slice A2 (usAt l kk).f1.length c2)) (ds := []) (lb 26 0) (by kernel_rfl) rfl rfl (HS.out _ (by repeat (with_reducible first | exact HB.out | apply below_alloc | apply pw_below_drewN | apply below_drew1))) (fun hHeld => ?_)
                  replace HB := Aside0.mk (below_drew1 HB.out)
                  generalize wu.drew = wud at HB hHeld ⊢
                  refine pure_ (i := 0) (N := some 31) (v := ?_) (a' := ?_) (lb 26 1) rfl rfl (by kernel_rfl) (fun _ _ _ h => h) (Or.inl ⟨by rfl, ?_⟩) ?_ ?_
                  rotate_left
                  · intro w'
                    go_simp
                    with_reducible rfl
                  rotate_left
                  · simp only [Act.put, zS, zT, zU, zV, zW]
                    rfl
                  refine pure_ (i := 1) (N := some 32) (v := ?_) (a' := ?_) (lb 26 3) rfl rfl (by kernel_rfl) (fun _ _ _ h => h) (Or.inl ⟨by rfl, ?_⟩) ?_ ?_
                  rotate_left
                  · intro w'
                    go_simp
                    with_reducible rfl
                  rotate_left
                  · simp only [Act.put, zS, zT, zU, zV, zW]
                    rfl
                  refine pure_ (i := 2) (N := some 33) (v := ?_) (a' := ?_) (lb 26 7) rfl rfl (by kernel_rfl) (fun _ _ _ h => h) (Or.inl ⟨by rfl, ?_⟩) ?_ ?_
                  rotate_left
                  · intro w'
                    go_simp
                    with_reducible rfl
                  rotate_left
                  · simp only [Act.put, zS, zT, zU, zV, zW]
                    rfl
                  refine pure_ (i := 3) (N := some 34) (v := ?_) (a' := ?_) (lb 26 15) rfl rfl (by kernel_rfl) (fun _ _ _ h => h) (Or.inl ⟨by rfl, ?_⟩) ?_ ?_
                  rotate_left
                  · intro w'
                    go_simp
                    with_reducible rfl
                  rotate_left
                  · simp only [Act.put, zS, zT, zU, zV, zW]
                    rfl
                  refine pure_ (i := 4) (N := some 35) (v := ?_) (a' := ?_) (lb 26 31) rfl rfl (by kernel_rfl) (fun _ _ _ h => h) (Or.inl ⟨by rfl, ?_⟩) ?_ ?_
                  rotate_left
                  · intro w'
                    go_simp
                    with_reducible rfl
                  rotate_left
                  · simp only [Act.put, zS, zT, zU, zV, zW]
                    rfl
                  refine pure_ (i := 5) (N := some 36) (v := ?_) (a' := ?_) (lb 26 63) rfl rfl (by kernel_rfl) (fun _ _ _ h => h) (Or.inl ⟨by rfl, ?_⟩) ?_ ?_
                  rotate_left
                  · intro w'
                    go_simp
                    with_reducible rfl
                  rotate_left
                  · simp only [Act.put, zS, zT, zU, zV, zW]
                    rfl
                  refine pure_ (i := 6) (N := some 37) (v := ?_) (a' := ?_) (lb 26 127) rfl rfl (by kernel_rfl) (fun _ _ _ h => h) (Or.inl ⟨by rfl, ?_⟩) ?_ ?_
                  rotate_left
                  · intro w'
                    go_simp
                    with_reducible rfl
                  rotate_left
                  · simp only [Act.put, zS, zT, zU, zV, zW]
                    rfl
                  refine pure_ (i := 7) (N := some 38) (v := ?_) (a' := ?_) (lb 26 255) rfl rfl (by kernel_rfl) (fun _ _ _ h => h) (Or.inl ⟨by rfl, ?_⟩) ?_ ?_
                  rotate_left
                  · intro w'
                    go_simp
                    with_reducible rfl
                  rotate_left
                  · simp only [Act.put, zS, zT, zU, zV, zW]
                    rfl
                  refine pure_ (i := 9) (N := some 40) (v := ?_) (a' := ?_) (lb 26 767) rfl rfl (by kernel_rfl) (fun _ _ _ h => h) (Or.inl ⟨by rfl, ?_⟩) ?_ ?_
                  rotate_left
                  · intro w'
                    go_simp
                    with_reducible rfl
                  rotate_left
                  · simp only [Act.put, zS, zT, zU, zV, zW]
                    rfl
                  refine take_ (i := 8) (N := some 39) (v := ?_) (a' := ?_) (lb 26 1023) rfl rfl (by kernel_rfl) (fun _ _ _ h => h) (Or.inl ⟨by rfl, ?_⟩) hHeld ?_ ?_
                  rotate_left
                  · intro w' hS_
                    (try dsimp only at hS_)
                    obtain ⟨s0, s1, s2, s3, s4⟩ := hS_
                    go_simp
                    with_reducible rfl
                  rotate_left
                  · simp only [Act.put, zS, zT, zU, zV, zW]
                    rfl
                  refine take_ (i := 10) (N := some 41) (v := ?_) (a' := ?_) (lb 26 2047) rfl rfl (by kernel_rfl) (fun _ _ _ h => h) (Or.inl ⟨by rfl, ?_⟩) hHeld ?_ ?_
                  rotate_left
                  · intro w' hS_
                    (try dsimp only at hS_)
                    obtain ⟨s0, s1, s2, s3, s4⟩ := hS_
                    go_simp
                    with_reducible rfl
                  rotate_left
                  · simp only [Act.put, zS, zT, zU, zV, zW]
                    rfl
                  refine one_ (i := 11) (N := some 42) (lb 26 4095) rfl rfl (by kernel_rfl) (by decide) (fun K hK => ?_)
                  refine goes_ Try.func11 (by kernel_rfl) rfl #[.agg #[.string (usAt l (kk - 1)).f0.f0, .int .i64 (usAt l (kk - 1)).f0.f1], .agg #[.string (usAt l kk).f0.f0, .int .i64 (usAt l kk).f0.f1]] (by rfl) rfl rfl (by (try simp only [zX, zY, zZ]); first | done | rfl) ?_
                  refine (HLESS.out _).mono ?_
                  rintro e wv0 ⟨rfl, hb⟩
                  refine ⟨_, rfl, ?_⟩
                  replace HB := Aside0.mk (below_step HB.out hb)
                  clear hb
                  refine hK.out _ _ (HS.out _ (by repeat (with_reducible first | exact HB.out | apply below_alloc | apply pw_below_drewN | apply below_drew1))) (fun hHeld => ?_)
                  clear hK K
                  refine norm_ (a' := ?_) ?_ ?_
                  rotate_left
                  · show Act.put _ (some 42) _ = _
                    simp only [Act.put, zS, zT, zU, zV, zW]
                    rfl
                  refine pure_ (i := 12) (N := some 43) (v := ?_) (a' := ?_) (lb 26 8191) rfl rfl (by kernel_rfl) (fun _ _ _ h => h) (Or.inl ⟨by rfl, ?_⟩) ?_ ?_
                  rotate_left
                  · intro w'
                    go_simp
                    with_reducible rfl
                  rotate_left
                  · simp only [Act.put, zS, zT, zU, zV, zW]
                    rfl
                  refine pure_ (i := 13) (N := some 44) (v := ?_) (a' := ?_) (lb 26 16383) rfl rfl (by kernel_rfl) (fun _ _ _ h => h) (Or.inl ⟨by rfl, ?_⟩) ?_ ?_
                  rotate_left
                  · intro w'
                    go_simp
                    with_reducible rfl
                  rotate_left
                  · simp only [Act.put, zS, zT, zU, zV, zW]
                    rfl
                  refine pure_ (i := 14) (N := some 45) (v := ?_) (a' := ?_) (lb 26 32767) rfl rfl (by kernel_rfl) (fun _ _ _ h => h) (Or.inl ⟨by rfl, ?_⟩) ?_ ?_
                  rotate_left
                  · intro w'
                    go_simp
                    with_reducible rfl
                  rotate_left
                  · simp only [Act.put, zS, zT, zU, zV, zW]
                    rfl
                  refine pure_ (i := 15) (N := some 46) (v := ?_) (a' := ?_) (lb 26 65535) rfl rfl (by kernel_rfl) (fun _ _ _ h => h) (Or.inl ⟨by rfl, ?_⟩) ?_ ?_
                  rotate_left
                  · intro w'
                    go_simp
                    with_reducible rfl
                  rotate_left
                  · simp only [Act.put, zS, zT, zU, zV, zW]
                    rfl
                  refine take_ (i := 16) (N := some 47) (v := ?_) (a' := ?_) (lb 26 131071) rfl rfl (by kernel_rfl) (fun _ _ _ h => h) (Or.inl ⟨by rfl, ?_⟩) hHeld ?_ ?_
                  rotate_left
                  · intro w' hS_
                    (try dsimp only at hS_)
                    obtain ⟨s0, s1, s2, s3, s4⟩ := hS_
                    go_simp
                    with_reducible rfl
                  rotate_left
                  · simp only [Act.put, zS, zT, zU, zV, zW]
                    rfl
                  refine one_ (i := 17) (N := some 48) (lb 26 262143) rfl rfl (by kernel_rfl) (by decide) (fun K hK => ?_)
                  refine goes_ Try.func32 (by kernel_rfl) rfl #[.slice A2 (usAt l kk).f1.length c2] (by rfl) rfl rfl (by (try simp only [zX, zY, zZ]); first | done | rfl) ?_
                  refine (HFORM.out _ (by repeat (with_reducible first | exact HB.out | apply below_alloc | apply pw_below_drewN | apply below_drew1))).mono ?_
                  rintro e wv ⟨rfl, hb⟩
                  refine ⟨_, rfl, ?_⟩
                  replace HB := Aside0.mk (below_step HB.out hb)
                  clear hb
                  refine hK.out _ _ (HS.out _ (by repeat (with_reducible first | exact HB.out | apply below_alloc | apply pw_below_drewN | apply below_drew1))) (fun hHeld => ?_)
                  clear hK K
                  refine norm_ (a' := ?_) ?_ ?_
                  rotate_left
                  · show Act.put _ (some 48) _ = _
                    simp only [Act.put, zS, zT, zU, zV, zW]
                    rfl
                  refine pure_ (i := 18) (N := some 49) (v := ?_) (a' := ?_) (lb 26 524287) rfl rfl (by kernel_rfl) (fun _ _ _ h => h) (Or.inl ⟨by rfl, ?_⟩) ?_ ?_
                  rotate_left
                  · intro w'
                    go_simp
                    with_reducible rfl
                  rotate_left
                  · simp only [Act.put, zS, zT, zU, zV, zW]
                    rfl
                  refine pure_ (i := 19) (N := some 50) (v := ?_) (a' := ?_) (lb 26 1048575) rfl rfl (by kernel_rfl) (fun _ _ _ h => h) (Or.inl ⟨by rfl, ?_⟩) ?_ ?_
                  rotate_left
                  · intro w'
                    go_simp
                    with_reducible rfl
                  rotate_left
                  · simp only [Act.put, zS, zT, zU, zV, zW]
                    rfl
                  refine pure_ (i := 20) (N := some 51) (v := ?_) (a' := ?_) (lb 26 2097151) rfl rfl (by kernel_rfl) (fun _ _ _ h => h) (Or.inl ⟨by rfl, ?_⟩) ?_ ?_
                  rotate_left
                  · intro w'
                    go_simp
                    with_reducible rfl
                  rotate_left
                  · simp only [Act.put, zS, zT, zU, zV, zW]
                    rfl
                  refine pure_ (i := 21) (N := some 52) (v := undef) (a' := ?_) (lb 26 4194303) rfl rfl (by kernel_rfl) (fun _ _ _ h => h) (Or.inr ⟨by rfl, rfl⟩) ?_ ?_
                  rotate_left
                  · simp only [Act.put, zS, zT, zU, zV, zW]
                    rfl
                  refine pure_ (i := 22) (N := some 53) (v := undef) (a' := ?_) (lb 26 8388607) rfl rfl (by kernel_rfl) (fun _ _ _ h => h) (Or.inr ⟨by rfl, rfl⟩) ?_ ?_
                  rotate_left
                  · simp only [Act.put, zS, zT, zU, zV, zW]
                    rfl
                  refine pure_ (i := 23) (N := some 54) (v := undef) (a' := ?_) (lb 26 16777215) rfl rfl (by kernel_rfl) (fun _ _ _ h => h) (Or.inr ⟨by rfl, rfl⟩) ?_ ?_
                  rotate_left
                  · simp only [Act.put, zS, zT, zU, zV, zW]
                    rfl
                  refine pure_ (i := 24) (N := some 55) (v := undef) (a' := ?_) (lb 26 33554431) rfl rfl (by kernel_rfl) (fun _ _ _ h => h) (Or.inr ⟨by rfl, rfl⟩) ?_ ?_
                  rotate_left
                  · simp only [Act.put, zS, zT, zU, zV, zW]
                    rfl
                  refine pure_ (i := 25) (N := some 56) (v := ?_) (a' := ?_) (lb 26 67108863) rfl rfl (by kernel_rfl) (fun _ _ _ h => h) (Or.inl ⟨by rfl, ?_⟩) ?_ ?_
                  rotate_left
                  · intro w'
                    go_simp
                    with_reducible rfl
                  rotate_left
                  · simp only [Act.put, zS, zT, zU, zV, zW]
                    rfl
                  refine done_ (by kernel_rfl) ?_
                  go_wp2
                  go_meet
                  exact ⟨by rw [HBR2.out]; rfl, Aside0.mk (HMU.out.below HB.out)⟩
                | true =>
                  refine start_ (n := 26) (S := fun W => W.cell? (ad.add ((kk - 1) * 3)) = some (.string (usAt l (kk - 1)).f0.f0) ∧ W.cell? ⟨(ad.add ((kk - 1) * 3)).block, (ad.add ((kk - 1) * 3)).off + 1, none⟩ = some (.int .i64 (usAt l (kk - 1)).f0.f1) ∧ W.cell? ⟨gu, 0, none⟩ = some (.string (usAt l kk).f0.f0) ∧ W.cell? ⟨gu, 1, none⟩ = some (.int .i64 (usAt l kk).f0.f1) ∧ W.cell? ⟨gu, 2, none⟩ = some (.slice A2 (usAt l kk).f1.length c2)) (ds := []) (lb 26 0) (by kernel_rfl) rfl rfl (HS.out _ (by repeat (with_reducible first | exact HB.out | apply below_alloc | apply pw_below_drewN | apply below_drew1))) (fun hHeld => ?_)
                  replace HB := Aside0.mk (below_drew1 HB.out)
                  generalize wu.drew = wud at HB hHeld ⊢
                  refine pure_ (i := 0) (N := some 31) (v := ?_) (a' := ?_) (lb 26 1) rfl rfl (by kernel_rfl) (fun _ _ _ h => h) (Or.inl ⟨by rfl, ?_⟩) ?_ ?_
                  rotate_left
                  · intro w'
                    go_simp
                    with_reducible rfl
                  rotate_left
                  · simp only [Act.put, zS, zT, zU, zV, zW]
                    rfl
                  refine pure_ (i := 1) (N := some 32) (v := ?_) (a' := ?_) (lb 26 3) rfl rfl (by kernel_rfl) (fun _ _ _ h => h) (Or.inl ⟨by rfl, ?_⟩) ?_ ?_
                  rotate_left
                  · intro w'
                    go_simp
                    with_reducible rfl
                  rotate_left
                  · simp only [Act.put, zS, zT, zU, zV, zW]
                    rfl
                  refine pure_ (i := 2) (N := some 33) (v := ?_) (a' := ?_) (lb 26 7) rfl rfl (by kernel_rfl) (fun _ _ _ h => h) (Or.inl ⟨by rfl, ?_⟩) ?_ ?_
                  rotate_left
                  · intro w'
                    go_simp
                    with_reducible rfl
                  rotate_left
                  · simp only [Act.put, zS, zT, zU, zV, zW]
                    rfl
                  refine pure_ (i := 3) (N := some 34) (v := ?_) (a' := ?_) (lb 26 15) rfl rfl (by kernel_rfl) (fun _ _ _ h => h) (Or.inl ⟨by rfl, ?_⟩) ?_ ?_
                  rotate_left
                  · intro w'
                    go_simp
                    with_reducible rfl
                  rotate_left
                  · simp only [Act.put, zS, zT, zU, zV, zW]
                    rfl
                  refine pure_ (i := 4) (N := some 35) (v := ?_) (a' := ?_) (lb 26 31) rfl rfl (by kernel_rfl) (fun _ _ _ h => h) (Or.inl ⟨by rfl, ?_⟩) ?_ ?_
                  rotate_left
                  · intro w'
                    go_simp
                    with_reducible rfl
                  rotate_left
                  · simp only [Act.put, zS, zT, zU, zV, zW]
                    rfl
                  refine pure_ (i := 5) (N := some 36) (v := ?_) (a' := ?_) (lb 26 63) rfl rfl (by kernel_rfl) (fun _ _ _ h => h) (Or.inl ⟨by rfl, ?_⟩) ?_ ?_
                  rotate_left
                  · intro w'
                    go_simp
                    with_reducible rfl
                  rotate_left
                  · simp only [Act.put, zS, zT, zU, zV, zW]
                    rfl
                  refine pure_ (i := 6) (N := some 37) (v := ?_) (a' := ?_) (lb 26 127) rfl rfl (by kernel_rfl) (fun _ _ _ h => h) (Or.inl ⟨by rfl, ?_⟩) ?_ ?_
                  rotate_left
                  · intro w'
                    go_simp
                    with_reducible rfl
                  rotate_left
                  · simp only [Act.put, zS, zT, zU, zV, zW]
                    rfl
                  refine pure_ (i := 7) (N := some 38) (v := ?_) (a' := ?_) (lb 26 255) rfl rfl (by kernel_rfl) (fun _ _ _ h => h) (Or.inl ⟨by rfl, ?_⟩) ?_ ?_
                  rotate_left
                  · intro w'
                    go_simp
                    with_reducible rfl
                  rotate_left
                  · simp only [Act.put, zS, zT, zU, zV, zW]
                    rfl
                  refine pure_ (i := 9) (N := some 40) (v := ?_) (a' := ?_) (lb 26 767) rfl rfl (by kernel_rfl) (fun _ _ _ h => h) (Or.inl ⟨by rfl, ?_⟩) ?_ ?_
                  rotate_left
                  · intro w'
                    go_simp
                    with_reducible rfl
                  rotate_left
                  · simp only [Act.put, zS, zT, zU, zV, zW]
                    rfl
                  refine take_ (i := 8) (N := some 39) (v := ?_) (a' := ?_) (lb 26 1023) rfl rfl (by kernel_rfl) (fun _ _ _ h => h) (Or.inl ⟨by rfl, ?_⟩) hHeld ?_ ?_
                  rotate_left
                  · intro w' hS_
                    (try dsimp only at hS_)
                    obtain ⟨s0, s1, s2, s3, s4⟩ := hS_
                    go_simp
                    with_reducible rfl
                  rotate_left
                  · simp only [Act.put, zS, zT, zU, zV, zW]
                    rfl
                  refine take_ (i := 10) (N := some 41) (v := ?_) (a' := ?_) (lb 26 2047) rfl rfl (by kernel_rfl) (fun _ _ _ h => h) (Or.inl ⟨by rfl, ?_⟩) hHeld ?_ ?_
                  rotate_left
                  · intro w' hS_
                    (try dsimp only at hS_)
                    obtain ⟨s0, s1, s2, s3, s4⟩ := hS_
                    go_simp
                    with_reducible rfl
                  rotate_left
                  · simp only [Act.put, zS, zT, zU, zV, zW]
                    rfl
                  refine one_ (i := 11) (N := some 42) (lb 26 4095) rfl rfl (by kernel_rfl) (by decide) (fun K hK => ?_)
                  refine goes_ Try.func11 (by kernel_rfl) rfl #[.agg #[.string (usAt l (kk - 1)).f0.f0, .int .i64 (usAt l (kk - 1)).f0.f1], .agg #[.string (usAt l kk).f0.f0, .int .i64 (usAt l kk).f0.f1]] (by rfl) rfl rfl (by (try simp only [zX, zY, zZ]); first | done | rfl) ?_
                  refine (HLESS.out _).mono ?_
                  rintro e wv0 ⟨rfl, hb⟩
                  refine ⟨_, rfl, ?_⟩
                  replace HB := Aside0.mk (below_step HB.out hb)
                  clear hb
                  refine hK.out _ _ (HS.out _ (by repeat (with_reducible first | exact HB.out | apply below_alloc | apply pw_below_drewN | apply below_drew1))) (fun hHeld => ?_)
                  clear hK K
                  refine norm_ (a' := ?_) ?_ ?_
                  rotate_left
                  · show Act.put _ (some 42) _ = _
                    simp only [Act.put, zS, zT, zU, zV, zW]
                    rfl
                  refine pure_ (i := 12) (N := some 43) (v := ?_) (a' := ?_) (lb 26 8191) rfl rfl (by kernel_rfl) (fun _ _ _ h => h) (Or.inl ⟨by rfl, ?_⟩) ?_ ?_
                  rotate_left
                  · intro w'
                    go_simp
                    with_reducible rfl
                  rotate_left
                  · simp only [Act.put, zS, zT, zU, zV, zW]
                    rfl
                  refine pure_ (i := 13) (N := some 44) (v := ?_) (a' := ?_) (lb 26 16383) rfl rfl (by kernel_rfl) (fun _ _ _ h => h) (Or.inl ⟨by rfl, ?_⟩) ?_ ?_
                  rotate_left
                  · intro w'
                    go_simp
                    with_reducible rfl
                  rotate_left
                  · simp only [Act.put, zS, zT, zU, zV, zW]
                    rfl
                  refine pure_ (i := 14) (N := some 45) (v := ?_) (a' := ?_) (lb 26 32767) rfl rfl (by kernel_rfl) (fun _ _ _ h => h) (Or.inl ⟨by rfl, ?_⟩) ?_ ?_
                  rotate_left
                  · intro w'
                    go_simp
                    with_reducible rfl
                  rotate_left
                  · simp only [Act.put, zS, zT, zU, zV, zW]
                    rfl
                  refine pure_ (i := 15) (N := some 46) (v := ?_) (a' := ?_) (lb 26 65535) rfl rfl (by kernel_rfl) (fun _ _ _ h => h) (Or.inl ⟨by rfl, ?_⟩) ?_ ?_
                  rotate_left
                  · intro w'
                    go_simp
                    with_reducible rfl
                  rotate_left
                  · simp only [Act.put, zS, zT, zU, zV, zW]
                    rfl
                  refine take_ (i := 16) (N := some 47) (v := ?_) (a' := ?_) (lb 26 131071) rfl rfl (by kernel_rfl) (fun _ _ _ h => h) (Or.inl ⟨by rfl, ?_⟩) hHeld ?_ ?_
                  rotate_left
                  · intro w' hS_
                    (try dsimp only at hS_)
                    obtain ⟨s0, s1, s2, s3, s4⟩ := hS_
                    go_simp
                    with_reducible rfl
                  rotate_left
                  · simp only [Act.put, zS, zT, zU, zV, zW]
                    rfl
                  refine one_ (i := 17) (N := some 48) (lb 26 262143) rfl rfl (by kernel_rfl) (by decide) (fun K hK => ?_)
                  refine goes_ Try.func32 (by kernel_rfl) rfl #[.slice A2 (usAt l kk).f1.length c2] (by rfl) rfl rfl (by (try simp only [zX, zY, zZ]); first | done | rfl) ?_
                  refine (HFORM.out _ (by repeat (with_reducible first | exact HB.out | apply below_alloc | apply pw_below_drewN | apply below_drew1))).mono ?_
                  rintro e wv ⟨rfl, hb⟩
                  refine ⟨_, rfl, ?_⟩
                  replace HB := Aside0.mk (below_step HB.out hb)
                  clear hb
                  refine hK.out _ _ (HS.out _ (by repeat (with_reducible first | exact HB.out | apply below_alloc | apply pw_below_drewN | apply below_drew1))) (fun hHeld => ?_)
                  clear hK K
                  refine norm_ (a' := ?_) ?_ ?_
                  rotate_left
                  · show Act.put _ (some 48) _ = _
                    simp only [Act.put, zS, zT, zU, zV, zW]
                    rfl
                  refine pure_ (i := 18) (N := some 49) (v := ?_) (a' := ?_) (lb 26 524287) rfl rfl (by kernel_rfl) (fun _ _ _ h => h) (Or.inl ⟨by rfl, ?_⟩) ?_ ?_
                  rotate_left
                  · intro w'
                    go_simp
                    with_reducible rfl
                  rotate_left
                  · simp only [Act.put, zS, zT, zU, zV, zW]
                    rfl
                  refine pure_ (i := 19) (N := some 50) (v := ?_) (a' := ?_) (lb 26 1048575) rfl rfl (by kernel_rfl) (fun _ _ _ h => h) (Or.inl ⟨by rfl, ?_⟩) ?_ ?_
                  rotate_left
                  · intro w'
                    go_simp
                    with_reducible rfl
                  rotate_left
                  · simp only [Act.put, zS, zT, zU, zV, zW]
                    rfl
                  refine pure_ (i := 20) (N := some 51) (v := ?_) (a' := ?_) (lb 26 2097151) rfl rfl (by kernel_rfl) (fun _ _ _ h => h) (Or.inl ⟨by rfl, ?_⟩) ?_ ?_
                  rotate_left
                  · intro w'
                    go_simp
                    with_reducible rfl
                  rotate_left
                  · simp only [Act.put, zS, zT, zU, zV, zW]
                    rfl
                  refine pure_ (i := 21) (N := some 52) (v := ?_) (a' := ?_) (lb 26 4194303) rfl rfl (by kernel_rfl) (fun _ _ _ h => h) (Or.inl ⟨by rfl, ?_⟩) ?_ ?_
                  rotate_left
                  · intro w'
                    go_simp
                    with_reducible rfl
                  rotate_left
                  · simp only [Act.put, zS, zT, zU, zV, zW]
                    rfl
                  refine pure_ (i := 23) (N := some 54) (v := ?_) (a' := ?_) (lb 26 12582911) rfl rfl (by kernel_rfl) (fun _ _ _ h => h) (Or.inl ⟨by rfl, ?_⟩) ?_ ?_
                  rotate_left
                  · intro w'
                    go_simp
                    with_reducible rfl
                  rotate_left
                  · simp only [Act.put, zS, zT, zU, zV, zW]
                    rfl
                  refine take_ (i := 22) (N := some 53) (v := ?_) (a' := ?_) (lb 26 16777215) rfl rfl (by kernel_rfl) (fun _ _ _ h => h) (Or.inl ⟨by rfl, ?_⟩) hHeld ?_ ?_
                  rotate_left
                  · intro w' hS_
                    (try dsimp only at hS_)
                    obtain ⟨s0, s1, s2, s3, s4⟩ := hS_
                    go_simp
                    with_reducible rfl
                  rotate_left
                  · simp only [Act.put, zS, zT, zU, zV, zW]
                    rfl
                  refine one_ (i := 24) (N := some 55) (lb 26 33554431) rfl rfl (by kernel_rfl) (by decide) (fun K hK => ?_)
                  refine goes_ Try.func33 (by kernel_rfl) rfl #[.slice A2 (usAt l kk).f1.length c2, .func (.func 31) #[] #[.pointer (some ⟨B, 0, none⟩)]] (by rfl) rfl rfl (by (try simp only [zX, zY, zZ]); first | done | rfl) ?_
                  refine (HCONT.out _ (by repeat (with_reducible first | exact HB.out | apply below_alloc | apply pw_below_drewN | apply below_drew1))).mono ?_
                  rintro e wv2 ⟨rfl, hb⟩
                  refine ⟨_, rfl, ?_⟩
                  replace HB := Aside0.mk (below_step HB.out hb)
                  clear hb
                  refine hK.out _ _ (HS.out _ (by repeat (with_reducible first | exact HB.out | apply below_alloc | apply pw_below_drewN | apply below_drew1))) (fun hHeld => ?_)
                  clear hK K
                  refine norm_ (a' := ?_) ?_ ?_
                  rotate_left
                  · show Act.put _ (some 55) _ = _
                    simp only [Act.put, zS, zT, zU, zV, zW]
                    rfl
                  refine pure_ (i := 25) (N := some 56) (v := ?_) (a' := ?_) (lb 26 67108863) rfl rfl (by kernel_rfl) (fun _ _ _ h => h) (Or.inl ⟨by rfl, ?_⟩) ?_ ?_
                  rotate_left
                  · intro w'
                    go_simp
                    with_reducible rfl
                  rotate_left
                  · simp only [Act.put, zS, zT, zU, zV, zW]
                    rfl
                  refine done_ (by kernel_rfl) ?_
                  go_wp2
                  go_meet
                  exact ⟨by rw [HBR2.out]; rfl, Aside0.mk (HMU.out.below HB.out)⟩
          case rest =>
            obtain ⟨rfl, HM2⟩ := hcut
            cases br with
            | true =>
              have HE : Aside0 (R = 8) := Aside0.mk (by
                rw [HRES.out]
                unfold mayN
                rw [HHEAD.out, if_neg (by simp), if_pos]
                rw [List.any_eq_true]
                exact ⟨kk, List.mem_range.2 hkl, HBRE.out.symm⟩)
              go_wp2
              (try rw [Exit.noGoto_ret])
              go_ret
              exact ⟨by rw [HE.out]; rfl, HM2.out.2.2.2.2.2⟩
            | false =>
              go_wp2
              go_roundg (k - (kk + 1))
              case measure => omega
              case rel => exact ⟨kk + 1, by omega, by omega, by go_num, HM2, Aside0.mk fun j hj => by
                by_cases e : j = kk
                · rw [e]; exact HBRE.out.symm
                · exact HA.out j (by omega)⟩
        · have hkk2 : kk = k := by omega
          have HANY : Aside0 ((List.range l.length).any (badRow l) = false) := Aside0.mk (by
            rw [List.any_eq_false]
            intro j hj
            rw [HA.out j (by have := List.mem_range.1 hj; have := HN.out; omega)]
            simp)
          have hltz : ¬ (kk : Int) < (k : Int) := by omega
          clear hkk2 HA
          go_wp2
          go_step3
          have HD := Aside0.mk (show DBox w ((wr.alloc (.map #[] 0)).alloc (.cells #[.map (some wr.heap.size)] 59)) (wr.heap.size + 1) wr.heap.size [] from DBox.start HM.out.2.2.2.2.2)
          clear HM
          generalize (wr.alloc (.map #[] 0)).alloc (.cells #[.map (some wr.heap.size)] 59) = w2 at HD ⊢
          generalize wr.heap.size + 1 = B7 at HD ⊢
          generalize wr.heap.size = b7 at HD ⊢
          clear wr
          obtain ⟨D, hD⟩ : ∃ D, D = roundsN l (l.length + 1) [] := ⟨_, rfl⟩
          have HDD := Aside0.mk hD.symm
          clear hD
          go_wp2
          go_loopg [8] (l.length + 1) (fun gg s8 wr => ∃ done : List Nd, Aside0 (DBox w wr B7 b7 done) ∧ l.length + 1 ≤ gg + done.length ∧ Aside0 (roundsN l gg done = D))
          case atStart => exact ⟨[], HD, by simp, HDD⟩
          case round =>
            clear HD
            obtain ⟨done, HD, hfuel, HRN⟩ := hrel
            obtain ⟨nd, hnd⟩ : ∃ nd, nd = done.length := ⟨_, rfl⟩
            have HND := Aside0.mk hnd
            rw [← hnd] at hfuel
            have hlen := fun ty => map_len (P := Try.prog) (kt := 24) Try.underlying59 HD.out.2.2.2.2.1 ty
            have hsl : (setM done).length = nd := by rw [hnd]; unfold setM; rw [List.length_map]
            rw [hsl] at hlen
            have hc7 : wr.cell? ⟨B7, 0, none⟩ = some (.map (some b7)) := blk_cell HD.out.2.2.2.1 0
            clear hsl hnd
            by_cases hmore : nd < k
            · have hmz : (nd : Int) < (k : Int) := by omega
              obtain ⟨g, rfl⟩ : ∃ g, gk = g + 1 := ⟨gk - 1, by have := HN.out; omega⟩
              go_wp2
              clear hlen hc7
              obtain ⟨wo, hwo⟩ : ∃ wo : World, wo = wr := ⟨_, rfl⟩
              go_loopg [68] k (fun gg s68 wr => ∃ i : Nat, i ≤ k ∧ k - i ≤ gg ∧ s68 = .int .i64 i ∧ Aside0 (DBox w wr B7 b7 ((l.take i).foldl doneStep done)))
              case atStart => exact ⟨0, Nat.zero_le _, by omega, rfl, HD⟩
              case round =>
                obtain ⟨i, hik, hgi, rfl, HDI⟩ := hrel
                by_cases hi : i < k
                · have hiz : (i : Int) < (k : Int) := by omega
                  have hil : i < l.length := by have := HN.out; omega
                  obtain ⟨ad, A2, c2, rfl, x0, x1, x2, x3, x4⟩ := at_T40 (Kd.C_below HR.out HDI.out.2.2.2.2.2.2) (i : Int) (by omega) (by have := HN.out; omega)
                  have hz : rd_T40 l i = usAt l i := by simp [rd_T40, usAt]
                  rw [hz] at x0 x1 x2 x3 x4
                  simp only [Int.toNat_natCast] at x0 x1 x2
                  have hmem := usAt_mem hil
                  have hnode := HF.out.node _ hmem
                  have hsucc : (l.take (i + 1)).foldl doneStep done = doneStep ((l.take i).foldl doneStep done) (usAt l i) := by
                    rw [List.take_succ_eq_append_getElem hil, List.foldl_append]
                    simp [usAt, List.getD_eq_getElem?_getD, List.getElem?_eq_getElem hil]
                  have hcont := fun (W : World) (hb : Below wr.heap.size wr W) => contains_any 34 #[.pointer (some ⟨B7, 0, none⟩)] (enters_of Try.func34 (by kernel_rfl) rfl) _ A2 c2 (usAt l i).f1 W (Kd.C_below x4 hb) x3 (HF.out.refs _ hmem) (HF.out.ref _ hmem)
                    (pred_undone B7 b7 _ W (Nat.lt_of_lt_of_le (blk_lt HDI.out.2.2.2.1) hb.size) (blk_cell (HDI.out.below hb).2.2.2.1 0) (HDI.out.below hb).2.2.2.2.1 HDI.out.2.2.2.2.2.1)
                  have hstep : doneStep ((l.take i).foldl doneStep done) (usAt l i) = if anyP (fun x => !decide (x ∈ (l.take i).foldl doneStep done)) (usAt l i).f1 = true then (l.take i).foldl doneStep done else addN ((l.take i).foldl doneStep done) (usAt l i).f0 := rfl
                  rw [← hsucc] at hstep
                  have HSTEP := Aside0.mk hstep
                  have HNODE := Aside0.mk hnode
                  clear hz hmem hnode hsucc hstep x3 x4
                  generalize anyP (fun x => !decide (x ∈ (l.take i).foldl doneStep done)) (usAt l i).f1 = q at hcont HSTEP
                  generalize (l.take i).foldl doneStep done = dn at HDI HSTEP
                  generalize usAt l i = y at *
                  obtain ⟨⟨y0, y1⟩, y2⟩ := y
                  have HCONT := Aside0.mk hcont
                  have hc7 : ∀ W, Below wr.heap.size wr W → W.cell? ⟨B7, 0, none⟩ = some (.map (some b7)) := fun W hb => blk_cell (HDI.out.below hb).2.2.2.1 0
                  have HC7 := Aside0.mk hc7
                  have hbx := below_alloc (Below.refl _ wr) (.cells #[.string y0, .int .i64 y1, .slice A2 y2.length c2] 40)
                  have HBX := Aside0.mk hbx
                  have BKX := Aside0.mk (blk_new wr (.cells #[.string y0, .int .i64 y1, .slice A2 y2.length c2] 40))
                  have hge := HDI.out.2.2.2.2.2.2.size
                  clear hcont hc7 hbx
                  cases q with
                  | true =>
                    go_wp2_with (go_at_call 33; refine (HCONT.out _ HBX.out).mono ?_; rintro e wv ⟨rfl, hb⟩)
                    have HBV := Aside0.mk (HBX.out.trans (hb.mono HBX.out.size))
                    clear hb
                    go_roundg (k - (i + 1))
                    case measure => omega
                    case rel => exact ⟨i + 1, by omega, by omega, by go_num, Aside0.mk (by rw [HSTEP.out, if_pos (by simp)]; exact HDI.out.below HBV.out)⟩
                  | false =>
                    go_wp2_with (first | (go_at_call 33; refine (HCONT.out _ HBX.out).mono ?_; rintro e wv ⟨rfl, hb⟩; have HBV := Aside0.mk (HBX.out.trans (hb.mono HBX.out.size)); have BKV := Aside0.mk (blk_below BKX.out hb); clear hb; have e7 := HC7.out _ HBV.out; have e0 := blk_cell BKV.out 0; have e1 := blk_cell BKV.out 1) | (at_mapUpdate; refine wpList_mapStore _ rfl _ _ _ 59 rfl kN 4 Try.underlying59 b7 (setM dn) rfl (HDI.out.below HBV.out).2.2.2.2.1 (fun p hp => by obtain ⟨z, hz, rfl⟩ := List.mem_map.1 hp; exact HDI.out.2.2.2.2.2.1 z hz) ⟨y0, y1⟩ rfl HNODE.out (.bool true) rfl ?_; intro w3 hm3 ht3))
                    have hd3 : DBox w w3 B7 b7 (addN dn ⟨y0, y1⟩) := by
                      have h0 := HDI.out.below HBV.out
                      refine ⟨h0.1, h0.2.1, h0.2.2.1, ?_, ?_, ?_, ?_⟩
                      · rw [← h0.2.2.2.1]
                        exact ht3.grown.block B7 (blk_lt h0.2.2.2.1) (by intro e; injection e with e; exact h0.2.2.1 e)
                      · rw [setM_put] at hm3; exact hm3
                      · intro x hx
                        unfold addN at hx
                        split at hx
                        · exact h0.2.2.2.2.2.1 x hx
                        · rcases List.mem_append.1 hx with hx | hx
                          · exact h0.2.2.2.2.2.1 x hx
                          · rw [List.mem_singleton] at hx; rw [hx]; exact HNODE.out
                      · exact h0.2.2.2.2.2.2.grown ht3.grown h0.2.2.2.2.2.2.size (fun k hk => by injection hk with hk; rw [← hk]; exact h0.2.1)
                    go_roundg (k - (i + 1))
                    case measure => omega
                    case rel => exact ⟨i + 1, by omega, by omega, by go_num, Aside0.mk (by rw [HSTEP.out, if_neg (by simp)]; exact hd3)⟩
                · have hiz : ¬ (i : Int) < (k : Int) := by omega
                  have hie : l.take i = l := List.take_of_length_le (by have := HN.out; omega)
                  have HD2 : Aside0 (DBox w wr B7 b7 (roundN l done)) := Aside0.mk (by have := HDI.out; rw [hie] at this; exact this)
                  clear HDI hie
                  obtain ⟨n2, hn2⟩ : ∃ n2, n2 = (roundN l done).length := ⟨_, rfl⟩
                  have HN2 := Aside0.mk hn2
                  have hge : nd ≤ n2 := by rw [hn2, HND.out]; exact fold_len l done
                  have hlen := fun ty => map_len (P := Try.prog) (kt := 24) Try.underlying59 HD2.out.2.2.2.2.1 ty
                  have hsl : (setM (roundN l done)).length = n2 := by rw [hn2]; unfold setM; rw [List.length_map]
                  rw [hsl] at hlen
                  have hc7 : wr.cell? ⟨B7, 0, none⟩ = some (.map (some b7)) := blk_cell HD2.out.2.2.2.1 0
                  clear hsl hn2
                  by_cases hsame : n2 = nd
                  · have heq : ((n2 : Int) == (nd : Int)) = true := by rw [beq_iff_eq]; omega
                    have HDE : Aside0 (D = roundN l done) := Aside0.mk (by
                      rw [← HRN.out, roundsN, if_neg (by have := HND.out; have := HN.out; omega), if_pos (by have := HND.out; have := HN2.out; omega)])
                    have hfz : (n2 : Int) < (k : Int) := by omega
                    have HE : Aside0 (R = 8) := Aside0.mk (by
                      rw [HRES.out]
                      unfold mayN
                      rw [HHEAD.out, if_neg (by simp), HANY.out, if_neg (by simp), HDD.out, HDE.out, if_pos (by have := HN2.out; have := HN.out; omega)])
                    clear hsame
                    go_wp2
                    (try rw [Exit.noGoto_ret])
                    go_ret
                    exact ⟨by rw [HE.out]; rfl, HD2.out.2.2.2.2.2.2⟩
                  · have heq : ((n2 : Int) == (nd : Int)) = false := by rw [beq_eq_false_iff_ne]; omega
                    have HRN2 : Aside0 (roundsN l g (roundN l done) = D) := Aside0.mk (by
                      have h := HRN.out
                      rw [roundsN, if_neg (by have := HND.out; have := HN.out; omega), if_neg (by have := HND.out; have := HN2.out; omega)] at h
                      exact h)
                    have hfu : l.length + 1 ≤ g + (roundN l done).length := by have := HN2.out; omega
                    clear hsame
                    go_wp2
                    go_roundg g
                    case measure => omega
                    case rel => exact ⟨roundN l done, HD2, hfu, HRN2⟩
            · have hmz : ¬ (nd : Int) < (k : Int) := by omega
              have HDE : Aside0 (D = done) := Aside0.mk (by
                rw [← HRN.out]
                cases gk with
                | zero => rfl
                | succ g => rw [roundsN, if_pos (by have := HND.out; have := HN.out; omega)])
              have HE : Aside0 (R = 0) := Aside0.mk (by
                rw [HRES.out]
                unfold mayN
                rw [HHEAD.out, if_neg (by simp), HANY.out, if_neg (by simp), HDD.out, HDE.out, if_neg (by have := HND.out; have := HN.out; omega)])
              go_wp2
              (try rw [Exit.noGoto_ret])
              go_ret
              exact ⟨by rw [HE.out]; rfl, HD.out.2.2.2.2.2.2⟩
    · have h2b : ((k : Int) == (n : Int)) = false := by rw [beq_eq_false_iff_ne]; omega
      have h2c : ((k : Int) != (n : Int)) = true := by rw [bne_iff_ne]; omega
      have HE : Aside0 (R = 8) := Aside0.mk (by rw [HRES.out]; unfold mayN badHead; rw [← HN.out, ← HK.out, decide_eq_false h1, decide_eq_true h2]; rfl)
      go_enter Try.func13, Try.ntmps13
      go_wp2
      go_step3
      go_wp2_with (go_at_call 26; refine hrefs.mono ?_; rintro e w1 ⟨b, m, rfl, hge, hM, hRM, hb1⟩; have hlen := HLEN.out (w1.alloc (.cells #[.map (some b)] 57)) b m (hM.alloc _) hRM)
      (try rw [Exit.noGoto_ret])
      go_ret
      exact ⟨by rw [HE.out]; rfl, below_alloc hb1 _⟩
end Go.Proofs.Ytddjhmelniphgaa.Print
