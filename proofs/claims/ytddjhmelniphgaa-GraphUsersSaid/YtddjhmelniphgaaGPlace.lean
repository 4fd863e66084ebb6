/- Contract of graph.place: where a node's row is, or would be. -/
import Derived.Test.YtddjhmelniphgaaHLb
import Derived.Test.YtddjhmelniphgaaGFormed
import Derived.Test.YtddjhmelniphgaaGMayN
import Derived.Test.YtddjhmelniphgaaHSq
import Derived.Deep.LoopGhost
namespace Go.Proofs.Ytddjhmelniphgaa.Print
open Go Go.RowKit Go.Shelf Go.Proofs.YtddjhmelniphgaaW.PrintWords Go.Proofs.YtddjhmelniphgaaW.PrintLast
set_option linter.unusedVariables false
set_option linter.unusedSimpArgs false
theorem below_grow (W : World) (q : Nat) (os : Array Obj) : Below W.heap.size W (Go.Sort.grow (W.drewN q) os) :=
  ⟨rfl, rfl, rfl, by unfold Go.Sort.grow; simp, fun k hk => by
    show (W.heap ++ os)[k]? = _
    rw [Array.getElem?_append_left hk]⟩
theorem cmpU_any (y0 : ByteArray) (y1 : Int) (v : Value) (x : Nd) (w : World) : Calls Try.prog 51 #[.agg #[.string y0, .int .i64 y1, v], encN x] w fun e w' => e = .returned (.int .i64 (ordN ⟨y0, y1⟩ x)) ∧ Below w.heap.size w w' := by
  have h := fun W => order_any ⟨y0, y1⟩ x W
  generalize ordN ⟨y0, y1⟩ x = r at h ⊢
  obtain ⟨x0, x1⟩ := x
  unfold encN at h ⊢
  go_enter Try.func51, Try.ntmps51
  go_wp2_with (go_at_call 30; refine (h _).mono ?_; rintro e w' ⟨rfl, q, os, rfl⟩)
  go_ret
  exact ⟨rfl, below_step (below_alloc (below_alloc (Below.refl _ _) _) _) (below_grow _ _ _)⟩
/-- Rows that stand in order. -/
def SortedU (l : List Us) : Prop := ∀ i, i + 1 < l.length → lessN (usAt l i).f0 (usAt l (i + 1)).f0 = true
def placeN (l : List Us) (x : Nd) : Nat := l.countP fun u => lessN u.f0 x
def inN (l : List Us) (x : Nd) : Bool := decide (x ∈ l.map (·.f0))
theorem SortedU.lt {l : List Us} (h : SortedU l) : ∀ k i, i + k + 1 < l.length → lessN (usAt l i).f0 (usAt l (i + k + 1)).f0 = true
  | 0, i, hk => h i (by omega)
  | k + 1, i, hk => lessN_trans (h.lt k i (by omega)) (by have := h (i + k + 1) (by omega); rw [show i + (k + 1) + 1 = i + k + 1 + 1 by omega]; exact this)
theorem SortedU.mono {l : List Us} (h : SortedU l) {x : Nd} {a b : Nat} (hab : a ≤ b) (hb : b < l.length) (hx : lessN (usAt l b).f0 x = true) : lessN (usAt l a).f0 x = true := by
  rcases Nat.eq_or_lt_of_le hab with e | e
  · rw [e]; exact hx
  · have := h.lt (b - a - 1) a (by omega)
    rw [show a + (b - a - 1) + 1 = b by omega] at this
    exact lessN_trans this hx
theorem countP_split (p : Us → Bool) : ∀ (l : List Us) (i : Nat), i ≤ l.length → (∀ t, t < i → p (usAt l t) = true) → (∀ t, i ≤ t → t < l.length → p (usAt l t) = false) → l.countP p = i
  | [], i, hi, _, _ => by simp at hi; simp [hi]
  | a :: r, 0, _, _, h2 => by
    rw [List.countP_eq_zero]
    intro x hx
    obtain ⟨t, ht, rfl⟩ := List.getElem_of_mem hx
    have := h2 t (Nat.zero_le _) ht
    unfold usAt at this
    rw [List.getD_eq_getElem?_getD, List.getElem?_eq_getElem ht] at this
    simp at this
    simp [this]
  | a :: r, i + 1, hi, h1, h2 => by
    have ha : p a = true := by simpa [usAt] using h1 0 (Nat.succ_pos _)
    rw [List.countP_cons_of_pos ha, countP_split p r i (by simpa using hi) (fun t ht => by simpa [usAt] using h1 (t + 1) (by omega)) (fun t h3 h4 => by simpa [usAt] using h2 (t + 1) (by omega) (by simpa using h4))]
/-- At a boundary: is the node there? -/
theorem in_at {l : List Us} (h : SortedU l) {x : Nd} {i : Nat} (hi : i ≤ l.length) (h1 : ∀ t, t < i → lessN (usAt l t).f0 x = true) (h2 : ∀ t, i ≤ t → t < l.length → lessN (usAt l t).f0 x = false) :
    inN l x = (decide (i < l.length) && decide (ordN (usAt l i).f0 x = 0)) := by
  unfold inN
  rw [Bool.eq_iff_iff, decide_eq_true_iff, Bool.and_eq_true, decide_eq_true_iff, decide_eq_true_iff, List.mem_map]
  constructor
  · rintro ⟨u, hu, rfl⟩
    obtain ⟨t, ht, rfl⟩ := List.getElem_of_mem hu
    have e : usAt l t = l[t] := by unfold usAt; rw [List.getD_eq_getElem?_getD, List.getElem?_eq_getElem ht]; rfl
    rw [← e] at h1 h2 ⊢
    have hit : i ≤ t := by
      rcases Nat.lt_or_ge t i with h3 | h3
      · have := h1 t h3; rw [lessN_irrefl] at this; cases this
      · exact h3
    have : t = i := by
      rcases Nat.eq_or_lt_of_le hit with h3 | h3
      · exact h3.symm
      · exfalso
        have h4 := h2 i (Nat.le_refl _) (by omega)
        have h5 := h.lt (t - i - 1) i (by omega)
        rw [show i + (t - i - 1) + 1 = t by omega] at h5
        rw [h5] at h4; cases h4
    subst this
    exact ⟨ht, ordN_zero.2 rfl⟩
  · rintro ⟨hlt, h0⟩
    exact ⟨usAt l i, usAt_mem hlt, ordN_zero.1 h0⟩

def placePost (l : List Us) (x : Nd) (w : World) (e : Ending) (w' : World) : Prop := e = .returned (.tuple #[.int .i64 (placeN l x : Nat), .bool (inN l x)]) ∧ Below w.heap.size w w'
set_option maxRecDepth 100000 in
set_option maxHeartbeats 4000000 in
theorem search_any (A : Option Addr) (c : Nat) (l : List Us) (x : Nd) (w : World) (hr : Kd.C k40 w A l.length l) (hc : l.length ≤ c) (hbig : l.length ≤ 1048576) (hs : SortedU l) :
    Calls Try.prog 50 #[.slice A l.length c, encN x, .func (.func 51) #[] #[]] w (placePost l x w) := by
  have HR := Aside0.mk hr
  have HSO := Aside0.mk hs
  obtain ⟨n, hn⟩ : ∃ n, n = l.length := ⟨_, rfl⟩
  have HN := Aside0.mk hn
  rw [← hn] at hc hbig ⊢
  clear hr hs hn
  obtain ⟨x0, x1⟩ := x
  obtain ⟨at0, hat⟩ : ∃ at0 : Nat, at0 = placeN l ⟨x0, x1⟩ := ⟨_, rfl⟩
  obtain ⟨is, his⟩ : ∃ is : Bool, is = inN l ⟨x0, x1⟩ := ⟨_, rfl⟩
  have HAT := Aside0.mk hat
  have HIS := Aside0.mk his
  unfold placePost
  rw [← hat, ← his]
  clear hat his
  unfold encN
  go_enter Try.func50, Try.ntmps50
  go_wp2
  have HBX := Aside0.mk (blk_new w (.cells #[.string x0, .int .i64 x1] 24))
  obtain ⟨g4, hg4⟩ : ∃ g4, g4 = w.heap.size := ⟨_, rfl⟩
  have HG4 := Aside0.mk hg4
  rw [← hg4] at HBX ⊢
  clear hg4
  go_loopg [9, 10] n (fun kx s9 s10 wr => ∃ lo hi : Nat, s9 = .int .i64 lo ∧ s10 = .int .i64 hi ∧ lo ≤ hi ∧ hi ≤ n ∧ hi - lo ≤ kx ∧ Aside0 (Below w.heap.size w wr) ∧ Aside0 (wr.heap[g4]? = some (.cells #[.string x0, .int .i64 x1] 24 (0, 0))) ∧ Aside0 ((∀ t, t < lo → lessN (usAt l t).f0 ⟨x0, x1⟩ = true) ∧ (∀ t, hi ≤ t → t < n → lessN (usAt l t).f0 ⟨x0, x1⟩ = false)))
  case atStart => exact ⟨0, n, rfl, rfl, Nat.zero_le _, Nat.le_refl _, by omega, Aside0.mk (below_alloc (Below.refl _ _) _), HBX, Aside0.mk ⟨fun t ht => absurd ht (Nat.not_lt_zero _), fun t h1 h2 => by omega⟩⟩
  case round =>
    clear HBX
    obtain ⟨lo, hi, rfl, rfl, hlh, hin, hgg, HBW, HBK, HI⟩ := hrel
    by_cases hlt : lo < hi
    · have hltz : (lo : Int) < (hi : Int) := by omega
      obtain ⟨mid, hmid⟩ : ∃ mid, mid = (lo + hi) / 2 := ⟨_, rfl⟩
      have hm1 : lo ≤ mid := by omega
      have hm2 : mid < hi := by omega
      have hmz : ((lo : Int) + (hi : Int)) / 2 = (mid : Int) := by omega
      have HMZ := Aside0.mk hmz
      have hmid2 : (mid : Int) < (n : Int) := by omega
      clear hmid hmz
      obtain ⟨ad, A2, c2, rfl, z0, z1, z2, _, _⟩ := at_T40 (Kd.C_below HR.out HBW.out) (mid : Int) (by omega) (by have := HN.out; omega)
      have hz : rd_T40 l (mid : Int) = usAt l mid := by simp only [rd_T40, usAt, Int.toNat_natCast]
      rw [hz, Int.toNat_natCast] at z0 z1 z2
      have hadl := World.block_lt_of_cell? _ _ z0
      have d0 : wr.cell? ⟨g4, 0, none⟩ = some (.string x0) := blk_cell HBK.out 0
      have d1 : wr.cell? ⟨g4, 1, none⟩ = some (.int .i64 x1) := blk_cell HBK.out 1
      have hg4 := blk_lt HBK.out
      have HS := Aside0.mk (fun W (hb : Below wr.heap.size wr W) => show W.cell? (ad.add (mid * 3)) = some (.string (usAt l mid).f0.f0) ∧ W.cell? ⟨(ad.add (mid * 3)).block, (ad.add (mid * 3)).off + 1, none⟩ = some (.int .i64 (usAt l mid).f0.f1) ∧ W.cell? ⟨(ad.add (mid * 3)).block, (ad.add (mid * 3)).off + 2, none⟩ = some (.slice A2 (usAt l mid).f1.length c2) ∧ W.cell? ⟨g4, 0, none⟩ = some (.string x0) ∧ W.cell? ⟨g4, 1, none⟩ = some (.int .i64 x1) from ⟨(hb.cell (p := ad.add (mid * 3)) hadl).trans z0, (hb.cell (p := ⟨(ad.add (mid * 3)).block, (ad.add (mid * 3)).off + 1, none⟩) hadl).trans z1, (hb.cell (p := ⟨(ad.add (mid * 3)).block, (ad.add (mid * 3)).off + 2, none⟩) hadl).trans z2, (hb.cell (p := ⟨g4, 0, none⟩) hg4).trans d0, (hb.cell (p := ⟨g4, 1, none⟩) hg4).trans d1⟩)
      obtain ⟨r, hr⟩ : ∃ r, r = ordN (usAt l mid).f0 ⟨x0, x1⟩ := ⟨_, rfl⟩
      have HRQ := Aside0.mk hr
      have hcmp : ∀ W : World, Calls Try.prog 51 #[.agg #[.string (usAt l mid).f0.f0, .int .i64 (usAt l mid).f0.f1, .slice A2 (usAt l mid).f1.length c2], .agg #[.string x0, .int .i64 x1]] W fun e w' => e = .returned (.int .i64 r) ∧ Below W.heap.size W w' := fun W => by
        rw [hr]; exact cmpU_any (usAt l mid).f0.f0 (usAt l mid).f0.f1 (.slice A2 (usAt l mid).f1.length c2) ⟨x0, x1⟩ W
      have hlq : lessN (usAt l mid).f0 ⟨x0, x1⟩ = decide (r < 0) := by rw [hr]; rfl
      have HLQ := Aside0.mk hlq
      have HCMP := Aside0.mk hcmp
      have HB := Aside0.mk (Below.refl wr.heap.size wr)
      clear hz z0 z1 z2 d0 d1 hadl hg4 hcmp hlq hr
      cases hle : decide (r < 0) with
      | true =>
        have HLE := Aside0.mk hle
        have hltr : r < 0 := of_decide_eq_true hle
        clear hle
        go_wp2
        rw [HMZ.out]
        refine start_ (n := 8) (S := fun W => W.cell? (ad.add (mid * 3)) = some (.string (usAt l mid).f0.f0) ∧ W.cell? ⟨(ad.add (mid * 3)).block, (ad.add (mid * 3)).off + 1, none⟩ = some (.int .i64 (usAt l mid).f0.f1) ∧ W.cell? ⟨(ad.add (mid * 3)).block, (ad.add (mid * 3)).off + 2, none⟩ = some (.slice A2 (usAt l mid).f1.length c2) ∧ W.cell? ⟨g4, 0, none⟩ = some (.string x0) ∧ W.cell? ⟨g4, 1, none⟩ = some (.int .i64 x1)) (ds := []) (lb 8 0) (by kernel_rfl) rfl rfl (HS.out _ (by repeat (with_reducible first | exact HB.out | apply below_alloc | apply pw_below_drewN | apply below_drew1))) (fun hHeld => ?_)
        replace HB := Aside0.mk (below_drew1 HB.out)
        generalize wr.drew = wrd at HB hHeld ⊢
        refine pure_ (i := 0) (N := some 24) (v := ?_) (a' := ?_) (lb 8 1) rfl rfl (by kernel_rfl) (fun _ _ _ h => h) (Or.inl ⟨by rfl, ?_⟩) ?_ ?_
        rotate_left
        · intro w'
          go_simp
          with_reducible rfl
        rotate_left
        · simp only [Act.put, zS, zT, zU, zV, zW]
          rfl
        refine pure_ (i := 1) (N := some 25) (v := ?_) (a' := ?_) (lb 8 3) rfl rfl (by kernel_rfl) (fun _ _ _ h => h) (Or.inl ⟨by rfl, ?_⟩) ?_ ?_
        rotate_left
        · intro w'
          go_simp
          with_reducible rfl
        rotate_left
        · simp only [Act.put, zS, zT, zU, zV, zW]
          rfl
        refine pure_ (i := 2) (N := some 26) (v := ?_) (a' := ?_) (lb 8 7) rfl rfl (by kernel_rfl) (fun _ _ _ h => h) (Or.inl ⟨by rfl, ?_⟩) ?_ ?_
        rotate_left
        · intro w'
          go_simp
          with_reducible rfl
        rotate_left
        · simp only [Act.put, zS, zT, zU, zV, zW]
          rfl
        refine pure_ (i := 3) (N := some 27) (v := ?_) (a' := ?_) (lb 8 15) rfl rfl (by kernel_rfl) (fun _ _ _ h => h) (Or.inl ⟨by rfl, ?_⟩) ?_ ?_
        rotate_left
        · intro w'
          go_simp
          with_reducible rfl
        rotate_left
        · simp only [Act.put, zS, zT, zU, zV, zW]
          rfl
        refine take_ (i := 4) (N := some 28) (v := ?_) (a' := ?_) (lb 8 31) rfl rfl (by kernel_rfl) (fun _ _ _ h => h) (Or.inl ⟨by rfl, ?_⟩) hHeld ?_ ?_
        rotate_left
        · intro w' hS_
          (try dsimp only at hS_)
          obtain ⟨s0, s1, s2, s3, s4⟩ := hS_
          go_simp
          with_reducible rfl
        rotate_left
        · simp only [Act.put, zS, zT, zU, zV, zW]
          rfl
        refine take_ (i := 5) (N := some 29) (v := ?_) (a' := ?_) (lb 8 63) rfl rfl (by kernel_rfl) (fun _ _ _ h => h) (Or.inl ⟨by rfl, ?_⟩) hHeld ?_ ?_
        rotate_left
        · intro w' hS_
          (try dsimp only at hS_)
          obtain ⟨s0, s1, s2, s3, s4⟩ := hS_
          go_simp
          with_reducible rfl
        rotate_left
        · simp only [Act.put, zS, zT, zU, zV, zW]
          rfl
        refine one_ (i := 6) (N := some 30) (lb 8 127) rfl rfl (by kernel_rfl) (by decide) (fun K hK => ?_)
        refine call_ 51 #[.agg #[.string (usAt l mid).f0.f0, .int .i64 (usAt l mid).f0.f1, .slice A2 (usAt l mid).f1.length c2], .agg #[.string x0, .int .i64 x1]] (by rfl) rfl (by have he := fun W => enters_ (P := Try.prog) Try.func51 (by kernel_rfl) rfl #[.agg #[.string (usAt l mid).f0.f0, .int .i64 (usAt l mid).f0.f1, .slice A2 (usAt l mid).f1.length c2], .agg #[.string x0, .int .i64 x1]] W; unfold execOp; simp [resolve, Deferred.ofValue, invoke, Act.eval, he]) ?_
        refine (HCMP.out _).mono ?_
        rintro e wv ⟨rfl, hb⟩
        refine ⟨_, rfl, ?_⟩
        replace HB := Aside0.mk (below_step HB.out hb)
        clear hb
        refine hK.out _ _ (HS.out _ (by repeat (with_reducible first | exact HB.out | apply below_alloc | apply pw_below_drewN | apply below_drew1))) (fun hHeld => ?_)
        clear hK K
        refine norm_ (a' := ?_) ?_ ?_
        rotate_left
        · show Act.put _ (some 30) _ = _
          simp only [Act.put, zS, zT, zU, zV, zW]
          rfl
        refine pure_ (i := 7) (N := some 31) (v := ?_) (a' := ?_) (lb 8 255) rfl rfl (by kernel_rfl) (fun _ _ _ h => h) (Or.inl ⟨by rfl, ?_⟩) ?_ ?_
        rotate_left
        · intro w'
          go_simp
          with_reducible rfl
        rotate_left
        · simp only [Act.put, zS, zT, zU, zV, zW]
          rfl
        refine done_ (by kernel_rfl) ?_
        go_wp2
        go_roundg (hi - (mid + 1))
        case measure => omega
        case rel => exact ⟨mid + 1, hi, by go_num, rfl, by omega, hin, Nat.le_refl _, Aside0.mk (below_step HBW.out HB.out), Aside0.mk (blk_below HBK.out HB.out), Aside0.mk ⟨fun t ht => HSO.out.mono (show t ≤ mid by omega) (by have := HN.out; omega) (by rw [HLQ.out]; exact HLE.out), HI.out.2⟩⟩
      | false =>
        have HLE := Aside0.mk hle
        have hltr : ¬ r < 0 := of_decide_eq_false hle
        clear hle
        go_wp2
        rw [HMZ.out]
        refine start_ (n := 8) (S := fun W => W.cell? (ad.add (mid * 3)) = some (.string (usAt l mid).f0.f0) ∧ W.cell? ⟨(ad.add (mid * 3)).block, (ad.add (mid * 3)).off + 1, none⟩ = some (.int .i64 (usAt l mid).f0.f1) ∧ W.cell? ⟨(ad.add (mid * 3)).block, (ad.add (mid * 3)).off + 2, none⟩ = some (.slice A2 (usAt l mid).f1.length c2) ∧ W.cell? ⟨g4, 0, none⟩ = some (.string x0) ∧ W.cell? ⟨g4, 1, none⟩ = some (.int .i64 x1)) (ds := []) (lb 8 0) (by kernel_rfl) rfl rfl (HS.out _ (by repeat (with_reducible first | exact HB.out | apply below_alloc | apply pw_below_drewN | apply below_drew1))) (fun hHeld => ?_)
        replace HB := Aside0.mk (below_drew1 HB.out)
        generalize wr.drew = wrd at HB hHeld ⊢
        refine pure_ (i := 0) (N := some 24) (v := ?_) (a' := ?_) (lb 8 1) rfl rfl (by kernel_rfl) (fun _ _ _ h => h) (Or.inl ⟨by rfl, ?_⟩) ?_ ?_
        rotate_left
        · intro w'
          go_simp
          with_reducible rfl
        rotate_left
        · simp only [Act.put, zS, zT, zU, zV, zW]
          rfl
        refine pure_ (i := 1) (N := some 25) (v := ?_) (a' := ?_) (lb 8 3) rfl rfl (by kernel_rfl) (fun _ _ _ h => h) (Or.inl ⟨by rfl, ?_⟩) ?_ ?_
        rotate_left
        · intro w'
          go_simp
          with_reducible rfl
        rotate_left
        · simp only [Act.put, zS, zT, zU, zV, zW]
          rfl
        refine pure_ (i := 2) (N := some 26) (v := ?_) (a' := ?_) (lb 8 7) rfl rfl (by kernel_rfl) (fun _ _ _ h => h) (Or.inl ⟨by rfl, ?_⟩) ?_ ?_
        rotate_left
        · intro w'
          go_simp
          with_reducible rfl
        rotate_left
        · simp only [Act.put, zS, zT, zU, zV, zW]
          rfl
        refine pure_ (i := 3) (N := some 27) (v := ?_) (a' := ?_) (lb 8 15) rfl rfl (by kernel_rfl) (fun _ _ _ h => h) (Or.inl ⟨by rfl, ?_⟩) ?_ ?_
        rotate_left
        · intro w'
          go_simp
          with_reducible rfl
        rotate_left
        · simp only [Act.put, zS, zT, zU, zV, zW]
          rfl
        refine take_ (i := 4) (N := some 28) (v := ?_) (a' := ?_) (lb 8 31) rfl rfl (by kernel_rfl) (fun _ _ _ h => h) (Or.inl ⟨by rfl, ?_⟩) hHeld ?_ ?_
        rotate_left
        · intro w' hS_
          (try dsimp only at hS_)
          obtain ⟨s0, s1, s2, s3, s4⟩ := hS_
          go_simp
          with_reducible rfl
        rotate_left
        · simp only [Act.put, zS, zT, zU, zV, zW]
          rfl
        refine take_ (i := 5) (N := some 29) (v := ?_) (a' := ?_) (lb 8 63) rfl rfl (by kernel_rfl) (fun _ _ _ h => h) (Or.inl ⟨by rfl, ?_⟩) hHeld ?_ ?_
        rotate_left
        · intro w' hS_
          (try dsimp only at hS_)
          obtain ⟨s0, s1, s2, s3, s4⟩ := hS_
          go_simp
          with_reducible rfl
        rotate_left
        · simp only [Act.put, zS, zT, zU, zV, zW]
          rfl
        refine one_ (i := 6) (N := some 30) (lb 8 127) rfl rfl (by kernel_rfl) (by decide) (fun K hK => ?_)
        refine call_ 51 #[.agg #[.string (usAt l mid).f0.f0, .int .i64 (usAt l mid).f0.f1, .slice A2 (usAt l mid).f1.length c2], .agg #[.string x0, .int .i64 x1]] (by rfl) rfl (by have he := fun W => enters_ (P := Try.prog) Try.func51 (by kernel_rfl) rfl #[.agg #[.string (usAt l mid).f0.f0, .int .i64 (usAt l mid).f0.f1, .slice A2 (usAt l mid).f1.length c2], .agg #[.string x0, .int .i64 x1]] W; unfold execOp; simp [resolve, Deferred.ofValue, invoke, Act.eval, he]) ?_
        refine (HCMP.out _).mono ?_
        rintro e wv ⟨rfl, hb⟩
        refine ⟨_, rfl, ?_⟩
        replace HB := Aside0.mk (below_step HB.out hb)
        clear hb
        refine hK.out _ _ (HS.out _ (by repeat (with_reducible first | exact HB.out | apply below_alloc | apply pw_below_drewN | apply below_drew1))) (fun hHeld => ?_)
        clear hK K
        refine norm_ (a' := ?_) ?_ ?_
        rotate_left
        · show Act.put _ (some 30) _ = _
          simp only [Act.put, zS, zT, zU, zV, zW]
          rfl
        refine pure_ (i := 7) (N := some 31) (v := ?_) (a' := ?_) (lb 8 255) rfl rfl (by kernel_rfl) (fun _ _ _ h => h) (Or.inl ⟨by rfl, ?_⟩) ?_ ?_
        rotate_left
        · intro w'
          go_simp
          with_reducible rfl
        rotate_left
        · simp only [Act.put, zS, zT, zU, zV, zW]
          rfl
        refine done_ (by kernel_rfl) ?_
        go_wp2
        go_roundg (mid - lo)
        case measure => omega
        case rel => exact ⟨lo, mid, rfl, by go_num, by omega, by omega, Nat.le_refl _, Aside0.mk (below_step HBW.out HB.out), Aside0.mk (blk_below HBK.out HB.out), Aside0.mk ⟨HI.out.1, fun t h1 h2 => by
          cases h3 : lessN (usAt l t).f0 ⟨x0, x1⟩ with
          | false => rfl
          | true =>
            have h4 := HSO.out.mono h1 (by have := HN.out; omega) h3
            rw [HLQ.out, HLE.out] at h4; cases h4⟩⟩
    · have hhl : hi = lo := by omega
      subst hhl
      have hltz : ¬ (hi : Int) < (hi : Int) := by omega
      have HATE : Aside0 (at0 = hi) := Aside0.mk (by
        rw [HAT.out]
        exact countP_split _ l hi (by have := HN.out; omega) HI.out.1 (fun t h1 h2 => HI.out.2 t h1 (by have := HN.out; omega)))
      have hise := in_at HSO.out (x := ⟨x0, x1⟩) (i := hi) (by have := HN.out; omega) HI.out.1 (fun t h1 h2 => HI.out.2 t h1 (by have := HN.out; omega))
      rw [← HIS.out, ← HN.out] at hise
      have HISE := Aside0.mk hise
      clear hise
      by_cases hn : hi < n
      · obtain ⟨mid, hmid⟩ : ∃ mid, mid = hi := ⟨_, rfl⟩
        subst hmid
        have hmz : (mid : Int) < (n : Int) := by omega
        have hmy : decide ((mid : Int) < (n : Int)) = true := decide_eq_true hmz
        obtain ⟨ad, A2, c2, rfl, z0, z1, z2, _, _⟩ := at_T40 (Kd.C_below HR.out HBW.out) (mid : Int) (by omega) (by have := HN.out; omega)
        have hz : rd_T40 l (mid : Int) = usAt l mid := by simp only [rd_T40, usAt, Int.toNat_natCast]
        rw [hz, Int.toNat_natCast] at z0 z1 z2
        have hadl := World.block_lt_of_cell? _ _ z0
        have d0 : wr.cell? ⟨g4, 0, none⟩ = some (.string x0) := blk_cell HBK.out 0
        have d1 : wr.cell? ⟨g4, 1, none⟩ = some (.int .i64 x1) := blk_cell HBK.out 1
        have hg4 := blk_lt HBK.out
        have HS := Aside0.mk (fun W (hb : Below wr.heap.size wr W) => show W.cell? (ad.add (mid * 3)) = some (.string (usAt l mid).f0.f0) ∧ W.cell? ⟨(ad.add (mid * 3)).block, (ad.add (mid * 3)).off + 1, none⟩ = some (.int .i64 (usAt l mid).f0.f1) ∧ W.cell? ⟨(ad.add (mid * 3)).block, (ad.add (mid * 3)).off + 2, none⟩ = some (.slice A2 (usAt l mid).f1.length c2) ∧ W.cell? ⟨g4, 0, none⟩ = some (.string x0) ∧ W.cell? ⟨g4, 1, none⟩ = some (.int .i64 x1) from ⟨(hb.cell (p := ad.add (mid * 3)) hadl).trans z0, (hb.cell (p := ⟨(ad.add (mid * 3)).block, (ad.add (mid * 3)).off + 1, none⟩) hadl).trans z1, (hb.cell (p := ⟨(ad.add (mid * 3)).block, (ad.add (mid * 3)).off + 2, none⟩) hadl).trans z2, (hb.cell (p := ⟨g4, 0, none⟩) hg4).trans d0, (hb.cell (p := ⟨g4, 1, none⟩) hg4).trans d1⟩)
        obtain ⟨r, hr⟩ : ∃ r, r = ordN (usAt l mid).f0 ⟨x0, x1⟩ := ⟨_, rfl⟩
        have HRQ := Aside0.mk hr
        have hcmp : ∀ W : World, Calls Try.prog 51 #[.agg #[.string (usAt l mid).f0.f0, .int .i64 (usAt l mid).f0.f1, .slice A2 (usAt l mid).f1.length c2], .agg #[.string x0, .int .i64 x1]] W fun e w' => e = .returned (.int .i64 r) ∧ Below W.heap.size W w' := fun W => by
          rw [hr]; exact cmpU_any (usAt l mid).f0.f0 (usAt l mid).f0.f1 (.slice A2 (usAt l mid).f1.length c2) ⟨x0, x1⟩ W
        have hlq : lessN (usAt l mid).f0 ⟨x0, x1⟩ = decide (r < 0) := by rw [hr]; rfl
        have HLQ := Aside0.mk hlq
        have HCMP := Aside0.mk hcmp
        have HB := Aside0.mk (Below.refl wr.heap.size wr)
        clear hz z0 z1 z2 d0 d1 hadl hg4 hcmp hlq hr
        cases hle : decide (r = 0) with
        | true =>
          have HLE := Aside0.mk hle
          have hr0 : r = 0 := of_decide_eq_true hle
          have hr1 : (r == 0) = true := by rw [beq_iff_eq]; exact hr0
          have HR0 := Aside0.mk hr0
          clear hle hr0
          go_wp2
          refine start_ (n := 16) (S := fun W => W.cell? (ad.add (mid * 3)) = some (.string (usAt l mid).f0.f0) ∧ W.cell? ⟨(ad.add (mid * 3)).block, (ad.add (mid * 3)).off + 1, none⟩ = some (.int .i64 (usAt l mid).f0.f1) ∧ W.cell? ⟨(ad.add (mid * 3)).block, (ad.add (mid * 3)).off + 2, none⟩ = some (.slice A2 (usAt l mid).f1.length c2) ∧ W.cell? ⟨g4, 0, none⟩ = some (.string x0) ∧ W.cell? ⟨g4, 1, none⟩ = some (.int .i64 x1)) (ds := []) (lb 16 0) (by kernel_rfl) rfl rfl (HS.out _ (by repeat (with_reducible first | exact HB.out | apply below_alloc | apply pw_below_drewN | apply below_drew1))) (fun hHeld => ?_)
          replace HB := Aside0.mk (below_drew1 HB.out)
          generalize wr.drew = wrd at HB hHeld ⊢
          refine pure_ (i := 0) (N := some 35) (v := ?_) (a' := ?_) (lb 16 1) rfl rfl (by kernel_rfl) (fun _ _ _ h => h) (Or.inl ⟨by rfl, ?_⟩) ?_ ?_
          rotate_left
          · intro w'
            go_simp
            with_reducible rfl
          rotate_left
          · simp only [Act.put, zS, zT, zU, zV, zW]
            rfl
          refine pure_ (i := 1) (N := some 36) (v := ?_) (a' := ?_) (lb 16 3) rfl rfl (by kernel_rfl) (fun _ _ _ h => h) (Or.inl ⟨by rfl, ?_⟩) ?_ ?_
          rotate_left
          · intro w'
            go_simp
            with_reducible rfl
          rotate_left
          · simp only [Act.put, zS, zT, zU, zV, zW]
            rfl
          refine pure_ (i := 2) (N := some 37) (v := ?_) (a' := ?_) (lb 16 7) rfl rfl (by kernel_rfl) (fun _ _ _ h => h) (Or.inl ⟨by rfl, ?_⟩) ?_ ?_
          rotate_left
          · intro w'
            go_simp
            with_reducible rfl
          rotate_left
          · simp only [Act.put, zS, zT, zU, zV, zW]
            rfl
          refine pure_ (i := 3) (N := some 38) (v := ?_) (a' := ?_) (lb 16 15) rfl rfl (by kernel_rfl) (fun _ _ _ h => h) (Or.inl ⟨by rfl, ?_⟩) ?_ ?_
          rotate_left
          · intro w'
            go_simp
            with_reducible rfl
          rotate_left
          · simp only [Act.put, zS, zT, zU, zV, zW]
            rfl
          refine pure_ (i := 4) (N := some 39) (v := ?_) (a' := ?_) (lb 16 31) rfl rfl (by kernel_rfl) (fun _ _ _ h => h) (Or.inl ⟨by rfl, ?_⟩) ?_ ?_
          rotate_left
          · intro w'
            go_simp
            with_reducible rfl
          rotate_left
          · simp only [Act.put, zS, zT, zU, zV, zW]
            rfl
          refine pure_ (i := 5) (N := some 40) (v := ?_) (a' := ?_) (lb 16 63) rfl rfl (by kernel_rfl) (fun _ _ _ h => h) (Or.inl ⟨by rfl, ?_⟩) ?_ ?_
          rotate_left
          · intro w'
            go_simp
            with_reducible rfl
          rotate_left
          · simp only [Act.put, zS, zT, zU, zV, zW]
            rfl
          refine pure_ (i := 6) (N := some 41) (v := ?_) (a' := ?_) (lb 16 127) rfl rfl (by kernel_rfl) (fun _ _ _ h => h) (Or.inl ⟨by rfl, ?_⟩) ?_ ?_
          rotate_left
          · intro w'
            go_simp
            with_reducible rfl
          rotate_left
          · simp only [Act.put, zS, zT, zU, zV, zW]
            rfl
          refine pure_ (i := 7) (N := some 42) (v := ?_) (a' := ?_) (lb 16 255) rfl rfl (by kernel_rfl) (fun _ _ _ h => h) (Or.inl ⟨by rfl, ?_⟩) ?_ ?_
          rotate_left
          · intro w'
            go_simp
            with_reducible rfl
          rotate_left
          · simp only [Act.put, zS, zT, zU, zV, zW]
            rfl
          refine pure_ (i := 8) (N := some 43) (v := ?_) (a' := ?_) (lb 16 511) rfl rfl (by kernel_rfl) (fun _ _ _ h => h) (Or.inl ⟨by rfl, ?_⟩) ?_ ?_
          rotate_left
          · intro w'
            go_simp
            with_reducible rfl
          rotate_left
          · simp only [Act.put, zS, zT, zU, zV, zW]
            rfl
          refine take_ (i := 9) (N := some 44) (v := ?_) (a' := ?_) (lb 16 1023) rfl rfl (by kernel_rfl) (fun _ _ _ h => h) (Or.inl ⟨by rfl, ?_⟩) hHeld ?_ ?_
          rotate_left
          · intro w' hS_
            (try dsimp only at hS_)
            obtain ⟨s0, s1, s2, s3, s4⟩ := hS_
            go_simp
            with_reducible rfl
          rotate_left
          · simp only [Act.put, zS, zT, zU, zV, zW]
            rfl
          refine take_ (i := 10) (N := some 45) (v := ?_) (a' := ?_) (lb 16 2047) rfl rfl (by kernel_rfl) (fun _ _ _ h => h) (Or.inl ⟨by rfl, ?_⟩) hHeld ?_ ?_
          rotate_left
          · intro w' hS_
            (try dsimp only at hS_)
            obtain ⟨s0, s1, s2, s3, s4⟩ := hS_
            go_simp
            with_reducible rfl
          rotate_left
          · simp only [Act.put, zS, zT, zU, zV, zW]
            rfl
          refine one_ (i := 11) (N := some 46) (lb 16 4095) rfl rfl (by kernel_rfl) (by decide) (fun K hK => ?_)
          refine call_ 51 #[.agg #[.string (usAt l mid).f0.f0, .int .i64 (usAt l mid).f0.f1, .slice A2 (usAt l mid).f1.length c2], .agg #[.string x0, .int .i64 x1]] (by rfl) rfl (by have he := fun W => enters_ (P := Try.prog) Try.func51 (by kernel_rfl) rfl #[.agg #[.string (usAt l mid).f0.f0, .int .i64 (usAt l mid).f0.f1, .slice A2 (usAt l mid).f1.length c2], .agg #[.string x0, .int .i64 x1]] W; unfold execOp; simp [resolve, Deferred.ofValue, invoke, Act.eval, he]) ?_
          refine (HCMP.out _).mono ?_
          rintro e wv ⟨rfl, hb⟩
          refine ⟨_, rfl, ?_⟩
          replace HB := Aside0.mk (below_step HB.out hb)
          clear hb
          refine hK.out _ _ (HS.out _ (by repeat (with_reducible first | exact HB.out | apply below_alloc | apply pw_below_drewN | apply below_drew1))) (fun hHeld => ?_)
          clear hK K
          refine norm_ (a' := ?_) ?_ ?_
          rotate_left
          · show Act.put _ (some 46) _ = _
            simp only [Act.put, zS, zT, zU, zV, zW]
            rfl
          refine pure_ (i := 12) (N := some 47) (v := ?_) (a' := ?_) (lb 16 8191) rfl rfl (by kernel_rfl) (fun _ _ _ h => h) (Or.inl ⟨by rfl, ?_⟩) ?_ ?_
          rotate_left
          · intro w'
            go_simp
            with_reducible rfl
          rotate_left
          · simp only [Act.put, zS, zT, zU, zV, zW]
            rfl
          refine pure_ (i := 13) (N := some 48) (v := ?_) (a' := ?_) (lb 16 16383) rfl rfl (by kernel_rfl) (fun _ _ _ h => h) (Or.inl ⟨by rfl, ?_⟩) ?_ ?_
          rotate_left
          · intro w'
            go_simp
            with_reducible rfl
          rotate_left
          · simp only [Act.put, zS, zT, zU, zV, zW]
            rfl
          refine pure_ (i := 14) (N := some 6) (v := ?_) (a' := ?_) (lb 16 32767) rfl rfl (by kernel_rfl) (fun _ _ _ h => h) (Or.inl ⟨by rfl, ?_⟩) ?_ ?_
          rotate_left
          · intro w'
            go_simp
            with_reducible rfl
          rotate_left
          · simp only [Act.put, zS, zT, zU, zV, zW]
            rfl
          refine pure_ (i := 15) (N := some 7) (v := ?_) (a' := ?_) (lb 16 65535) rfl rfl (by kernel_rfl) (fun _ _ _ h => h) (Or.inl ⟨by rfl, ?_⟩) ?_ ?_
          rotate_left
          · intro w'
            go_simp
            with_reducible rfl
          rotate_left
          · simp only [Act.put, zS, zT, zU, zV, zW]
            rfl
          refine done_ (by kernel_rfl) ?_
          go_wp2
          go_ret2
          exact ⟨by rw [HATE.out, HISE.out, decide_eq_true hn, ← HRQ.out, decide_eq_true HR0.out]; rfl, below_step HBW.out HB.out⟩
        | false =>
          have HLE := Aside0.mk hle
          have hr0 : ¬ r = 0 := of_decide_eq_false hle
          have hr1 : (r == 0) = false := by rw [beq_eq_false_iff_ne]; exact hr0
          have HR0 := Aside0.mk hr0
          clear hle hr0
          go_wp2
          refine start_ (n := 16) (S := fun W => W.cell? (ad.add (mid * 3)) = some (.string (usAt l mid).f0.f0) ∧ W.cell? ⟨(ad.add (mid * 3)).block, (ad.add (mid * 3)).off + 1, none⟩ = some (.int .i64 (usAt l mid).f0.f1) ∧ W.cell? ⟨(ad.add (mid * 3)).block, (ad.add (mid * 3)).off + 2, none⟩ = some (.slice A2 (usAt l mid).f1.length c2) ∧ W.cell? ⟨g4, 0, none⟩ = some (.string x0) ∧ W.cell? ⟨g4, 1, none⟩ = some (.int .i64 x1)) (ds := []) (lb 16 0) (by kernel_rfl) rfl rfl (HS.out _ (by repeat (with_reducible first | exact HB.out | apply below_alloc | apply pw_below_drewN | apply below_drew1))) (fun hHeld => ?_)
          replace HB := Aside0.mk (below_drew1 HB.out)
          generalize wr.drew = wrd at HB hHeld ⊢
          refine pure_ (i := 0) (N := some 35) (v := ?_) (a' := ?_) (lb 16 1) rfl rfl (by kernel_rfl) (fun _ _ _ h => h) (Or.inl ⟨by rfl, ?_⟩) ?_ ?_
          rotate_left
          · intro w'
            go_simp
            with_reducible rfl
          rotate_left
          · simp only [Act.put, zS, zT, zU, zV, zW]
            rfl
          refine pure_ (i := 1) (N := some 36) (v := ?_) (a' := ?_) (lb 16 3) rfl rfl (by kernel_rfl) (fun _ _ _ h => h) (Or.inl ⟨by rfl, ?_⟩) ?_ ?_
          rotate_left
          · intro w'
            go_simp
            with_reducible rfl
          rotate_left
          · simp only [Act.put, zS, zT, zU, zV, zW]
            rfl
          refine pure_ (i := 2) (N := some 37) (v := ?_) (a' := ?_) (lb 16 7) rfl rfl (by kernel_rfl) (fun _ _ _ h => h) (Or.inl ⟨by rfl, ?_⟩) ?_ ?_
          rotate_left
          · intro w'
            go_simp
            with_reducible rfl
          rotate_left
          · simp only [Act.put, zS, zT, zU, zV, zW]
            rfl
          refine pure_ (i := 3) (N := some 38) (v := ?_) (a' := ?_) (lb 16 15) rfl rfl (by kernel_rfl) (fun _ _ _ h => h) (Or.inl ⟨by rfl, ?_⟩) ?_ ?_
          rotate_left
          · intro w'
            go_simp
            with_reducible rfl
          rotate_left
          · simp only [Act.put, zS, zT, zU, zV, zW]
            rfl
          refine pure_ (i := 4) (N := some 39) (v := ?_) (a' := ?_) (lb 16 31) rfl rfl (by kernel_rfl) (fun _ _ _ h => h) (Or.inl ⟨by rfl, ?_⟩) ?_ ?_
          rotate_left
          · intro w'
            go_simp
            with_reducible rfl
          rotate_left
          · simp only [Act.put, zS, zT, zU, zV, zW]
            rfl
          refine pure_ (i := 5) (N := some 40) (v := ?_) (a' := ?_) (lb 16 63) rfl rfl (by kernel_rfl) (fun _ _ _ h => h) (Or.inl ⟨by rfl, ?_⟩) ?_ ?_
          rotate_left
          · intro w'
            go_simp
            with_reducible rfl
          rotate_left
          · simp only [Act.put, zS, zT, zU, zV, zW]
            rfl
          refine pure_ (i := 6) (N := some 41) (v := ?_) (a' := ?_) (lb 16 127) rfl rfl (by kernel_rfl) (fun _ _ _ h => h) (Or.inl ⟨by rfl, ?_⟩) ?_ ?_
          rotate_left
          · intro w'
            go_simp
            with_reducible rfl
          rotate_left
          · simp only [Act.put, zS, zT, zU, zV, zW]
            rfl
          refine pure_ (i := 7) (N := some 42) (v := ?_) (a' := ?_) (lb 16 255) rfl rfl (by kernel_rfl) (fun _ _ _ h => h) (Or.inl ⟨by rfl, ?_⟩) ?_ ?_
          rotate_left
          · intro w'
            go_simp
            with_reducible rfl
          rotate_left
          · simp only [Act.put, zS, zT, zU, zV, zW]
            rfl
          refine pure_ (i := 8) (N := some 43) (v := ?_) (a' := ?_) (lb 16 511) rfl rfl (by kernel_rfl) (fun _ _ _ h => h) (Or.inl ⟨by rfl, ?_⟩) ?_ ?_
          rotate_left
          · intro w'
            go_simp
            with_reducible rfl
          rotate_left
          · simp only [Act.put, zS, zT, zU, zV, zW]
            rfl
          refine take_ (i := 9) (N := some 44) (v := ?_) (a' := ?_) (lb 16 1023) rfl rfl (by kernel_rfl) (fun _ _ _ h => h) (Or.inl ⟨by rfl, ?_⟩) hHeld ?_ ?_
          rotate_left
          · intro w' hS_
            (try dsimp only at hS_)
            obtain ⟨s0, s1, s2, s3, s4⟩ := hS_
            go_simp
            with_reducible rfl
          rotate_left
          · simp only [Act.put, zS, zT, zU, zV, zW]
            rfl
          refine take_ (i := 10) (N := some 45) (v := ?_) (a' := ?_) (lb 16 2047) rfl rfl (by kernel_rfl) (fun _ _ _ h => h) (Or.inl ⟨by rfl, ?_⟩) hHeld ?_ ?_
          rotate_left
          · intro w' hS_
            (try dsimp only at hS_)
            obtain ⟨s0, s1, s2, s3, s4⟩ := hS_
            go_simp
            with_reducible rfl
          rotate_left
          · simp only [Act.put, zS, zT, zU, zV, zW]
            rfl
          refine one_ (i := 11) (N := some 46) (lb 16 4095) rfl rfl (by kernel_rfl) (by decide) (fun K hK => ?_)
          refine call_ 51 #[.agg #[.string (usAt l mid).f0.f0, .int .i64 (usAt l mid).f0.f1, .slice A2 (usAt l mid).f1.length c2], .agg #[.string x0, .int .i64 x1]] (by rfl) rfl (by have he := fun W => enters_ (P := Try.prog) Try.func51 (by kernel_rfl) rfl #[.agg #[.string (usAt l mid).f0.f0, .int .i64 (usAt l mid).f0.f1, .slice A2 (usAt l mid).f1.length c2], .agg #[.string x0, .int .i64 x1]] W; unfold execOp; simp [resolve, Deferred.ofValue, invoke, Act.eval, he]) ?_
          refine (HCMP.out _).mono ?_
          rintro e wv ⟨rfl, hb⟩
          refine ⟨_, rfl, ?_⟩
          replace HB := Aside0.mk (below_step HB.out hb)
          clear hb
          refine hK.out _ _ (HS.out _ (by repeat (with_reducible first | exact HB.out | apply below_alloc | apply pw_below_drewN | apply below_drew1))) (fun hHeld => ?_)
          clear hK K
          refine norm_ (a' := ?_) ?_ ?_
          rotate_left
          · show Act.put _ (some 46) _ = _
            simp only [Act.put, zS, zT, zU, zV, zW]
            rfl
          refine pure_ (i := 12) (N := some 47) (v := ?_) (a' := ?_) (lb 16 8191) rfl rfl (by kernel_rfl) (fun _ _ _ h => h) (Or.inl ⟨by rfl, ?_⟩) ?_ ?_
          rotate_left
          · intro w'
            go_simp
            with_reducible rfl
          rotate_left
          · simp only [Act.put, zS, zT, zU, zV, zW]
            rfl
          refine pure_ (i := 13) (N := some 48) (v := ?_) (a' := ?_) (lb 16 16383) rfl rfl (by kernel_rfl) (fun _ _ _ h => h) (Or.inl ⟨by rfl, ?_⟩) ?_ ?_
          rotate_left
          · intro w'
            go_simp
            with_reducible rfl
          rotate_left
          · simp only [Act.put, zS, zT, zU, zV, zW]
            rfl
          refine pure_ (i := 14) (N := some 6) (v := ?_) (a' := ?_) (lb 16 32767) rfl rfl (by kernel_rfl) (fun _ _ _ h => h) (Or.inl ⟨by rfl, ?_⟩) ?_ ?_
          rotate_left
          · intro w'
            go_simp
            with_reducible rfl
          rotate_left
          · simp only [Act.put, zS, zT, zU, zV, zW]
            rfl
          refine pure_ (i := 15) (N := some 7) (v := ?_) (a' := ?_) (lb 16 65535) rfl rfl (by kernel_rfl) (fun _ _ _ h => h) (Or.inl ⟨by rfl, ?_⟩) ?_ ?_
          rotate_left
          · intro w'
            go_simp
            with_reducible rfl
          rotate_left
          · simp only [Act.put, zS, zT, zU, zV, zW]
            rfl
          refine done_ (by kernel_rfl) ?_
          go_wp2
          go_ret2
          exact ⟨by rw [HATE.out, HISE.out, decide_eq_true hn, ← HRQ.out, decide_eq_false HR0.out]; rfl, below_step HBW.out HB.out⟩
      · have hmz : ¬ (hi : Int) < (n : Int) := by omega
        have HB := Aside0.mk (Below.refl wr.heap.size wr)
        go_wp2
        refine start_ (n := 16) (S := fun _ => True) (ds := []) (lb 16 0) (by kernel_rfl) rfl rfl (trivial) (fun hHeld => ?_)
        replace HB := Aside0.mk (below_drew1 HB.out)
        generalize wr.drew = wrd at HB hHeld ⊢
        refine pure_ (i := 0) (N := some 35) (v := ?_) (a' := ?_) (lb 16 1) rfl rfl (by kernel_rfl) (fun _ _ _ h => h) (Or.inl ⟨by rfl, ?_⟩) ?_ ?_
        rotate_left
        · intro w'
          go_simp
          with_reducible rfl
        rotate_left
        · simp only [Act.put, zS, zT, zU, zV, zW]
          rfl
        refine pure_ (i := 1) (N := some 36) (v := ?_) (a' := ?_) (lb 16 3) rfl rfl (by kernel_rfl) (fun _ _ _ h => h) (Or.inl ⟨by rfl, ?_⟩) ?_ ?_
        rotate_left
        · intro w'
          go_simp
          with_reducible rfl
        rotate_left
        · simp only [Act.put, zS, zT, zU, zV, zW]
          rfl
        refine pure_ (i := 2) (N := some 37) (v := ?_) (a' := ?_) (lb 16 7) rfl rfl (by kernel_rfl) (fun _ _ _ h => h) (Or.inl ⟨by rfl, ?_⟩) ?_ ?_
        rotate_left
        · intro w'
          go_simp
          with_reducible rfl
        rotate_left
        · simp only [Act.put, zS, zT, zU, zV, zW]
          rfl
        refine pure_ (i := 3) (N := some 38) (v := ?_) (a' := ?_) (lb 16 15) rfl rfl (by kernel_rfl) (fun _ _ _ h => h) (Or.inl ⟨by rfl, ?_⟩) ?_ ?_
        rotate_left
        · intro w'
          go_simp
          with_reducible rfl
        rotate_left
        · simp only [Act.put, zS, zT, zU, zV, zW]
          rfl
        refine pure_ (i := 4) (N := some 39) (v := ?_) (a' := ?_) (lb 16 31) rfl rfl (by kernel_rfl) (fun _ _ _ h => h) (Or.inl ⟨by rfl, ?_⟩) ?_ ?_
        rotate_left
        · intro w'
          go_simp
          with_reducible rfl
        rotate_left
        · simp only [Act.put, zS, zT, zU, zV, zW]
          rfl
        refine pure_ (i := 5) (N := some 40) (v := undef) (a' := ?_) (lb 16 63) rfl rfl (by kernel_rfl) (fun _ _ _ h => h) (Or.inr ⟨by rfl, rfl⟩) ?_ ?_
        rotate_left
        · simp only [Act.put, zS, zT, zU, zV, zW]
          rfl
        refine pure_ (i := 6) (N := some 41) (v := undef) (a' := ?_) (lb 16 127) rfl rfl (by kernel_rfl) (fun _ _ _ h => h) (Or.inr ⟨by rfl, rfl⟩) ?_ ?_
        rotate_left
        · simp only [Act.put, zS, zT, zU, zV, zW]
          rfl
        refine pure_ (i := 7) (N := some 42) (v := undef) (a' := ?_) (lb 16 255) rfl rfl (by kernel_rfl) (fun _ _ _ h => h) (Or.inr ⟨by rfl, rfl⟩) ?_ ?_
        rotate_left
        · simp only [Act.put, zS, zT, zU, zV, zW]
          rfl
        refine pure_ (i := 8) (N := some 43) (v := undef) (a' := ?_) (lb 16 511) rfl rfl (by kernel_rfl) (fun _ _ _ h => h) (Or.inr ⟨by rfl, rfl⟩) ?_ ?_
        rotate_left
        · simp only [Act.put, zS, zT, zU, zV, zW]
          rfl
        refine pure_ (i := 9) (N := some 44) (v := undef) (a' := ?_) (lb 16 1023) rfl rfl (by kernel_rfl) (fun _ _ _ h => h) (Or.inr ⟨by rfl, rfl⟩) ?_ ?_
        rotate_left
        · simp only [Act.put, zS, zT, zU, zV, zW]
          rfl
        refine pure_ (i := 10) (N := some 45) (v := undef) (a' := ?_) (lb 16 2047) rfl rfl (by kernel_rfl) (fun _ _ _ h => h) (Or.inr ⟨by rfl, rfl⟩) ?_ ?_
        rotate_left
        · simp only [Act.put, zS, zT, zU, zV, zW]
          rfl
        refine pure_ (i := 11) (N := some 46) (v := undef) (a' := ?_) (lb 16 4095) rfl rfl (by kernel_rfl) (fun _ _ _ h => h) (Or.inr ⟨by rfl, rfl⟩) ?_ ?_
        rotate_left
        · simp only [Act.put, zS, zT, zU, zV, zW]
          rfl
        refine pure_ (i := 12) (N := some 47) (v := undef) (a' := ?_) (lb 16 8191) rfl rfl (by kernel_rfl) (fun _ _ _ h => h) (Or.inr ⟨by rfl, rfl⟩) ?_ ?_
        rotate_left
        · simp only [Act.put, zS, zT, zU, zV, zW]
          rfl
        refine pure_ (i := 13) (N := some 48) (v := ?_) (a' := ?_) (lb 16 16383) rfl rfl (by kernel_rfl) (fun _ _ _ h => h) (Or.inl ⟨by rfl, ?_⟩) ?_ ?_
        rotate_left
        · intro w'
          go_simp
          with_reducible rfl
        rotate_left
        · simp only [Act.put, zS, zT, zU, zV, zW]
          rfl
        refine pure_ (i := 14) (N := some 6) (v := ?_) (a' := ?_) (lb 16 32767) rfl rfl (by kernel_rfl) (fun _ _ _ h => h) (Or.inl ⟨by rfl, ?_⟩) ?_ ?_
        rotate_left
        · intro w'
          go_simp
          with_reducible rfl
        rotate_left
        · simp only [Act.put, zS, zT, zU, zV, zW]
          rfl
        refine pure_ (i := 15) (N := some 7) (v := ?_) (a' := ?_) (lb 16 65535) rfl rfl (by kernel_rfl) (fun _ _ _ h => h) (Or.inl ⟨by rfl, ?_⟩) ?_ ?_
        rotate_left
        · intro w'
          go_simp
          with_reducible rfl
        rotate_left
        · simp only [Act.put, zS, zT, zU, zV, zW]
          rfl
        refine done_ (by kernel_rfl) ?_
        go_wp2
        go_ret2
        exact ⟨by rw [HATE.out, HISE.out, decide_eq_false hn]; rfl, below_step HBW.out HB.out⟩
set_option maxRecDepth 100000 in
theorem place_any (A : Option Addr) (c : Nat) (l : List Us) (x : Nd) (w : World) (hr : Kd.C k40 w A l.length l) (hc : l.length ≤ c) (hbig : l.length ≤ 1048576) (hs : SortedU l) :
    Calls Try.prog 38 #[.slice A l.length c, encN x] w (placePost l x w) := by
  have h := fun (W : World) (hb : Below w.heap.size w W) => search_any A c l x W (Kd.C_below hr hb) hc hbig hs
  unfold placePost at h ⊢
  clear hr hs
  generalize placeN l x = a at h ⊢
  generalize inN l x = b at h ⊢
  generalize l.length = n at h ⊢
  obtain ⟨x0, x1⟩ := x
  unfold encN at h ⊢
  have H := Aside0.mk h
  clear h
  go_enter Try.func38, Try.ntmps38
  go_wp2_with (go_at_call 50; refine (H.out _ (below_alloc (Below.refl _ _) _)).mono ?_; rintro e w' ⟨rfl, hb⟩)
  go_ret2
  exact ⟨rfl, below_step (below_alloc (Below.refl _ _) _) hb⟩
end Go.Proofs.Ytddjhmelniphgaa.Print
