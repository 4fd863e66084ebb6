/- Contract of the reference's order. -/
import Derived.Test.YtddjhmelniphgaaHLb
import Derived.Test.YtddjhmelniphgaaGOrdW
import Derived.Test.YtddjhmelniphgaaGUsers
import Derived.Test.YtddjhmelniphgaaGRank
import Derived.Test.YtddjhmelniphgaaPrint5
namespace Go.Proofs.Ytddjhmelniphgaa.Print
open Go Go.RowKit Go.Proofs.YtddjhmelniphgaaW.PrintWords Go.Proofs.YtddjhmelniphgaaW.PrintLast
set_option linter.unusedVariables false
set_option linter.unusedSimpArgs false
theorem at_l0 (l : List Us) (x : Nd) (hl : l.length ≤ 1048576) : ∀ d i fuel, l.length = i + d → d < fuel → ∃ r, codicilref19_at.l0 fuel l (i : Int) x.f0 x.f1 = some r ∧ ((inN (l.drop i) x = true ∧ ∃ j : Nat, r = (j : Int) ∧ j < l.length ∧ (usAt l j).f0 = x) ∨ (inN (l.drop i) x = false ∧ r = -1))
  | 0, i, fuel, hd, hf => by
    obtain ⟨fuel, rfl⟩ : ∃ q, fuel = q + 1 := ⟨fuel - 1, by omega⟩
    refine ⟨-1, ?_, .inr ⟨?_, rfl⟩⟩
    · unfold codicilref19_at.l0
      rw [if_neg (by omega)]
    · rw [List.drop_of_length_le (by omega)]; rfl
  | d + 1, i, fuel, hd, hf => by
    obtain ⟨fuel, rfl⟩ : ∃ q, fuel = q + 1 := ⟨fuel - 1, by omega⟩
    have hi : i < l.length := by omega
    have hg : rd_T40 l (i : Int) = l[i] := by
      simp [rd_T40, List.getElem?_eq_getElem hi]
    have hu : usAt l i = l[i] := by unfold usAt; rw [List.getD_eq_getElem?_getD, List.getElem?_eq_getElem hi]; rfl
    unfold codicilref19_at.l0
    rw [if_pos (by omega), if_pos (by omega), hg, ndEq l[i].f0 x, List.drop_eq_getElem_cons hi]
    by_cases h : l[i].f0 = x
    · rw [if_pos (decide_eq_true h)]
      exact ⟨_, rfl, .inl ⟨by unfold inN; rw [decide_eq_true_iff, List.map_cons]; exact h ▸ List.mem_cons_self, i, rfl, hi, by rw [hu]; exact h⟩⟩
    · rw [if_neg (by simp [h]), wrapS i (by omega)]
      obtain ⟨r, h1, h2⟩ := at_l0 l x hl d (i + 1) fuel (by omega) (by omega)
      have he : inN (l[i] :: l.drop (i + 1)) x = inN (l.drop (i + 1)) x := by
        unfold inN
        rw [decide_eq_decide, List.map_cons, List.mem_cons]
        exact ⟨fun h3 => h3.resolve_left (fun e => h e.symm), .inr⟩
      rw [he]
      exact ⟨r, h1, h2⟩
theorem at_in {l : List Us} {x : Nd} (hl : l.length ≤ 1048576) (hx : inN l x = true) (fuel : Nat) (hf : l.length < fuel) : ∃ j : Nat, codicilref19_at.f fuel l x.f0 x.f1 = some (j : Int) ∧ j < l.length ∧ (usAt l j).f0 = x := by
  obtain ⟨r, h1, h2⟩ := at_l0 l x hl l.length 0 fuel (by omega) hf
  rw [List.drop_zero] at h2
  rcases h2 with ⟨_, j, rfl, h3, h4⟩ | ⟨h3, _⟩
  · exact ⟨j, h1, h3, h4⟩
  · rw [hx] at h3; cases h3
theorem at_out {l : List Us} {x : Nd} (hl : l.length ≤ 1048576) (hx : inN l x = false) (fuel : Nat) (hf : l.length < fuel) : codicilref19_at.f fuel l x.f0 x.f1 = some (-1) := by
  obtain ⟨r, h1, h2⟩ := at_l0 l x hl l.length 0 fuel (by omega) hf
  rw [List.drop_zero] at h2
  rcases h2 with ⟨h3, _⟩ | ⟨_, rfl⟩
  · rw [hx] at h3; cases h3
  · exact h1
theorem refN_mem {l : List Us} {rk : Nd → Nat} (hr : RankU l rk) (hc : ClosedU l) : ∀ (k : Nat) (xs out : List Nd), (∀ x ∈ xs, inN l x = true) → ∀ y ∈ refN l k xs out, y ∈ out ∨ (∃ z ∈ xs, rk y ≤ rk z)
  | 0, _, _, _, y, h => .inl h
  | k + 1, [], out, _, y, h => .inl h
  | k + 1, x :: r, out, hx, y, h => by
    have h1 := refN_mem hr hc (k + 1) r (stepR (refN l k) l out x) (fun z hz => hx z (List.mem_cons_of_mem _ hz)) y h
    rcases h1 with h1 | ⟨z, hz, h2⟩
    · unfold stepR at h1
      split at h1
      · exact .inl h1
      · rcases List.mem_append.1 h1 with h1 | h1
        · rcases refN_mem hr hc k (refsOf l x) out (hc x) y h1 with h3 | ⟨z, hz, h3⟩
          · exact .inl h3
          · exact .inr ⟨x, List.mem_cons_self, Nat.le_trans h3 (Nat.le_of_lt (hr x (hx x List.mem_cons_self) z hz))⟩
        · rw [List.mem_singleton] at h1
          exact .inr ⟨x, List.mem_cons_self, by rw [h1]; exact Nat.le_refl _⟩
    · exact .inr ⟨z, List.mem_cons_of_mem _ hz, h2⟩
theorem refN_fresh {l : List Us} {rk : Nd → Nat} (hr : RankU l rk) (hc : ClosedU l) (k : Nat) {x : Nd} {out : List Nd} (hx : inN l x = true) (hn : x ∉ out) : x ∉ refN l k (refsOf l x) out := fun h => by
  rcases refN_mem hr hc k (refsOf l x) out (hc x) x h with h1 | ⟨z, hz, h1⟩
  · exact hn h1
  · have := hr x hx z hz; omega
theorem stepR_len {l : List Us} {rk : Nd → Nat} (hr : RankU l rk) (hc : ClosedU l) (k : Nat) (f : ∀ (xs out : List Nd) (N : Nat), (∀ x ∈ xs, inN l x = true) → out.length + unmet l out ≤ N → (refN l k xs out).length + unmet l (refN l k xs out) ≤ N)
    {x : Nd} {out : List Nd} (hx : inN l x = true) {N : Nat} (h : out.length + unmet l out ≤ N) : (stepR (refN l k) l out x).length + unmet l (stepR (refN l k) l out x) ≤ N := by
  unfold stepR
  split
  · exact h
  · rename_i hn
    have h1 := f (refsOf l x) out N (hc x) h
    have h2 := unmet_lt hx (refN_fresh hr hc k hx hn)
    rw [List.length_append, List.length_singleton]
    omega
theorem refN_len {l : List Us} {rk : Nd → Nat} (hr : RankU l rk) (hc : ClosedU l) : ∀ (k : Nat) (xs out : List Nd) (N : Nat), (∀ x ∈ xs, inN l x = true) → out.length + unmet l out ≤ N → (refN l k xs out).length + unmet l (refN l k xs out) ≤ N
  | 0, _, _, _, _, h => h
  | k + 1, [], _, _, _, h => h
  | k + 1, x :: r, out, N, hx, h =>
    refN_len hr hc (k + 1) r (stepR (refN l k) l out x) N (fun z hz => hx z (List.mem_cons_of_mem _ hz)) (stepR_len hr hc k (fun ys o M hy ho => refN_len hr hc k ys o M hy ho) (hx x List.mem_cons_self) h)
structure RefH (w : World) (A0 : Option Addr) (c0 : Nat) (l : List Us) (rk : Nd → Nat) : Prop where
  row : Kd.C k40 w A0 l.length l
  cap : l.length ≤ c0
  sorted : SortedU l
  closed : ClosedU l
  fit : FitU l
  rank : RankU l rk
def RefPost (w : World) (R : List Nd) (e : Ending) (W' : World) : Prop := ∃ v', e = .returned v' ∧ W'.ownsRow w.heap.size 24 2 v' R.length (cellsN R) ∧ Below w.heap.size w W'
def RefAt (w : World) (A0 : Option Addr) (c0 : Nat) (l : List Us) (rk : Nd → Nat) (k : Nat) : Prop :=
  ∀ (W : World) (out : List Nd) (v : Value) (xs : List Nd) (A : Option Addr) (c : Nat), Below w.heap.size w W → W.ownsRow w.heap.size 24 2 v out.length (cellsN out) → Kd.C k24 w A xs.length xs → xs.length ≤ c → xs.length ≤ 1048576 → (∀ x ∈ xs, inN l x = true ∧ rk x + 1 < k) → out.length + unmet l out ≤ l.length →
    Calls Try.prog 29 #[.slice A0 l.length c0, .slice A xs.length c, v] W (RefPost w (refN l k xs out))
attribute [local go_sem high] eqA24
set_option maxRecDepth 100000 in
set_option maxHeartbeats 8000000 in
theorem ref_step (w : World) (A0 : Option Addr) (c0 : Nat) (l : List Us) (rk : Nd → Nat) (H : RefH w A0 c0 l rk) (k : Nat) (ih : 0 < k → RefAt w A0 c0 l rk k) : RefAt w A0 c0 l rk (k + 1) := by
  intro W out v xs A c hb ho hC hc hl hx hlen
  obtain ⟨Av, cv, rfl⟩ := own_slice ho
  have HH := Aside0.mk H
  have IH := Aside0.mk ih
  have HB := Aside0.mk hb
  have HO := Aside0.mk ho
  have HC := Aside0.mk hC
  have HX := Aside0.mk hx
  have HLE := Aside0.mk hlen
  obtain ⟨n, hn⟩ : ∃ n, n = l.length := ⟨_, rfl⟩
  obtain ⟨p, hp⟩ : ∃ p, p = xs.length := ⟨_, rfl⟩
  obtain ⟨q, hq⟩ : ∃ q, q = out.length := ⟨_, rfl⟩
  have HN := Aside0.mk hn
  have HP := Aside0.mk hp
  have HQ := Aside0.mk hq
  rw [← hp] at hc hl ⊢
  rw [← hn, ← hq]
  clear H ih hb ho hC hx hlen hn hp hq
  go_enter Try.func29, Try.ntmps29
  go_wp2
  go_loopg [2, 7] p (fun gg s2 s7 wr => ∃ (i : Nat) (out' : List Nd) (A' : Option Addr) (c' : Nat), i ≤ p ∧ p - i ≤ gg ∧ s7 = .int .i64 i ∧ s2 = .slice A' out'.length c' ∧ Aside0 (Below w.heap.size w wr) ∧ Aside0 (wr.ownsRow w.heap.size 24 2 (.slice A' out'.length c') out'.length (cellsN out')) ∧ Aside0 (out' = (xs.take i).foldl (stepR (refN l k) l) out ∧ out'.length + unmet l out' ≤ l.length))
  case atStart => exact ⟨0, out, Av, cv, Nat.zero_le _, by omega, rfl, by rw [HQ.out], HB, HO, Aside0.mk ⟨rfl, HLE.out⟩⟩
  case round =>
    clear HB HO HQ
    obtain ⟨i, out', A', c', hin, hgg, rfl, rfl, HB, HO, HI⟩ := hrel
    rename World => wo
    by_cases hlt : i < p
    · have hltz : (i : Int) < (p : Int) := by omega
      obtain ⟨ad, rfl, h0, h1⟩ := at_T24 HC.out (i : Int) (by omega) (by have := HP.out; omega)
      obtain ⟨y0, hy0⟩ : ∃ y0, y0 = (rd_T24 xs (i : Int)) := ⟨_, rfl⟩
      rw [← hy0] at h0 h1
      have hxl : i < xs.length := by have := HP.out; omega
      have hyx : y0 = xs[i] := by rw [hy0]; simp [rd_T24, List.getElem?_eq_getElem hxl]
      have HTK := Aside0.mk (show xs.take (i + 1) = xs.take i ++ [y0] by rw [hyx]; exact List.take_succ_eq_append_getElem hxl)
      have HYI := Aside0.mk (show inN l y0 = true ∧ rk y0 + 1 < k + 1 by rw [hyx]; exact HX.out _ (List.getElem_mem hxl))
      clear hy0 hyx hxl
      obtain ⟨ya, yb⟩ := y0
      simp only [Int.toNat_natCast] at h0 h1
      have hadl := World.block_lt_of_cell? _ _ h0
      have HLW := Aside0.mk (fun W (hb : Below w.heap.size w W) => show W.cell? (ad.add (i * 2)) = some (.string ya) ∧ W.cell? ⟨(ad.add (i * 2)).block, (ad.add (i * 2)).off + 1, none⟩ = some (.int .i64 yb) from ⟨(hb.cell (p := ad.add (i * 2)) hadl).trans h0, (hb.cell (p := ⟨(ad.add (i * 2)).block, (ad.add (i * 2)).off + 1, none⟩) hadl).trans h1⟩)
      have HRO := Aside0.mk (Kd.R_reads' (cellsN_R HO.out)).2.2
      obtain ⟨q', hq'⟩ : ∃ q', q' = out'.length := ⟨_, rfl⟩
      have HQ := Aside0.mk hq'
      have hq20 : q' ≤ 1048576 := by have := HI.out.2; have := HH.out.fit.len; omega
      rw [← hq'] at HO ⊢
      clear hq' h0 h1 hadl
      go_wp2
      go_loopg [8, 9] q' (fun gg s8 s9 wr => ∃ (j : Nat) (hv : Bool), j ≤ q' ∧ q' - j ≤ gg ∧ s9 = .int .i64 j ∧ s8 = .bool hv ∧ Aside0 (Below wo.heap.size wo wr) ∧ Aside0 (hv = decide ((⟨ya, yb⟩ : Nd) ∈ out'.take j)))
      case atStart => exact ⟨0, false, Nat.zero_le _, by omega, rfl, rfl, Aside0.mk (Below.refl _ _), Aside0.mk (by simp)⟩
      case round =>
        obtain ⟨j, hv, hjn, hjg, rfl, rfl, HBX, HHV⟩ := hrel
        by_cases hjlt : j < q'
        · have hjz : (j : Int) < (q' : Int) := by omega
          obtain ⟨ado, rfl, z0, z1⟩ := at_T24 (Kd.C_below HRO.out HBX.out) (j : Int) (by omega) (by have := HQ.out; omega)
          obtain ⟨y1, hy1⟩ : ∃ y1, y1 = (rd_T24 out' (j : Int)) := ⟨_, rfl⟩
          rw [← hy1] at z0 z1
          have hol : j < out'.length := by have := HQ.out; omega
          have hyx : y1 = out'[j] := by rw [hy1]; simp [rd_T24, List.getElem?_eq_getElem hol]
          have HTJ := Aside0.mk (show out'.take (j + 1) = out'.take j ++ [y1] by rw [hyx]; exact List.take_succ_eq_append_getElem hol)
          clear hy1 hyx hol
          obtain ⟨za, zb⟩ := y1
          simp only [Int.toNat_natCast] at z0 z1
          obtain ⟨bb, hbb⟩ : ∃ bb, bb = (za.toList == ya.toList && (zb == yb)) := ⟨_, rfl⟩
          have HBB := Aside0.mk (hbb.trans (ndEq ⟨za, zb⟩ ⟨ya, yb⟩))
          have hbb2 : (za.toList == ya.toList && (zb == yb)) = bb := hbb.symm
          have hu24 := Try.underlying24
          have hzl := World.block_lt_of_cell? _ _ z0
          have HSS := Aside0.mk (fun W (hb : Below wr.heap.size wr W) => show W.cell? (ado.add (j * 2)) = some (.string za) ∧ W.cell? ⟨(ado.add (j * 2)).block, (ado.add (j * 2)).off + 1, none⟩ = some (.int .i64 zb) ∧ W.cell? (ad.add (i * 2)) = some (.string ya) ∧ W.cell? ⟨(ad.add (i * 2)).block, (ad.add (i * 2)).off + 1, none⟩ = some (.int .i64 yb) from ⟨(hb.cell (p := ado.add (j * 2)) hzl).trans z0, (hb.cell (p := ⟨(ado.add (j * 2)).block, (ado.add (j * 2)).off + 1, none⟩) hzl).trans z1, (HLW.out W (below_step (below_step HB.out HBX.out) hb)).1, (HLW.out W (below_step (below_step HB.out HBX.out) hb)).2⟩)
          have HBO := HB
          clear HB hbb z0 z1 hzl
          have HB := Aside0.mk (Below.refl wr.heap.size wr)
          cases hv with
          | true =>
            go_wp2
            refine start_ (n := 13) (S := fun W => W.cell? (ado.add (j * 2)) = some (.string za) ∧ W.cell? ⟨(ado.add (j * 2)).block, (ado.add (j * 2)).off + 1, none⟩ = some (.int .i64 zb) ∧ W.cell? (ad.add (i * 2)) = some (.string ya) ∧ W.cell? ⟨(ad.add (i * 2)).block, (ad.add (i * 2)).off + 1, none⟩ = some (.int .i64 yb)) (ds := []) (lb 13 0) (by kernel_rfl) rfl rfl (HSS.out _ (by repeat (with_reducible first | exact HB.out | apply below_alloc | apply pw_below_drewN | apply below_drew1))) (fun hHeld => ?_)
            replace HB := Aside0.mk (below_drew1 HB.out)
            generalize wr.drew = wrd at HB hHeld ⊢
            refine pure_ (i := 0) (N := some 22) (v := ?_) (a' := ?_) (lb 13 1) rfl rfl (by kernel_rfl) (fun _ _ _ h => h) (Or.inl ⟨by rfl, ?_⟩) ?_ ?_
            rotate_left
            · intro w'
              go_simp
              with_reducible rfl
            rotate_left
            · simp only [Act.put, List.setIfInBounds_toArray, List.set_cons_zero, List.set_cons_succ, i64_w, i32_w]
              rfl
            refine pure_ (i := 1) (N := some 23) (v := ?_) (a' := ?_) (lb 13 3) rfl rfl (by kernel_rfl) (fun _ _ _ h => h) (Or.inl ⟨by rfl, ?_⟩) ?_ ?_
            rotate_left
            · intro w'
              go_simp
              with_reducible rfl
            rotate_left
            · simp only [Act.put, List.setIfInBounds_toArray, List.set_cons_zero, List.set_cons_succ, i64_w, i32_w]
              rfl
            refine pure_ (i := 2) (N := some 24) (v := undef) (a' := ?_) (lb 13 7) rfl rfl (by kernel_rfl) (fun _ _ _ h => h) (Or.inr ⟨by rfl, rfl⟩) ?_ ?_
            rotate_left
            · simp only [Act.put, List.setIfInBounds_toArray, List.set_cons_zero, List.set_cons_succ, i64_w, i32_w]
              rfl
            refine pure_ (i := 3) (N := some 25) (v := undef) (a' := ?_) (lb 13 15) rfl rfl (by kernel_rfl) (fun _ _ _ h => h) (Or.inr ⟨by rfl, rfl⟩) ?_ ?_
            rotate_left
            · simp only [Act.put, List.setIfInBounds_toArray, List.set_cons_zero, List.set_cons_succ, i64_w, i32_w]
              rfl
            refine pure_ (i := 4) (N := some 26) (v := undef) (a' := ?_) (lb 13 31) rfl rfl (by kernel_rfl) (fun _ _ _ h => h) (Or.inr ⟨by rfl, rfl⟩) ?_ ?_
            rotate_left
            · simp only [Act.put, List.setIfInBounds_toArray, List.set_cons_zero, List.set_cons_succ, i64_w, i32_w]
              rfl
            refine pure_ (i := 5) (N := some 27) (v := undef) (a' := ?_) (lb 13 63) rfl rfl (by kernel_rfl) (fun _ _ _ h => h) (Or.inr ⟨by rfl, rfl⟩) ?_ ?_
            rotate_left
            · simp only [Act.put, List.setIfInBounds_toArray, List.set_cons_zero, List.set_cons_succ, i64_w, i32_w]
              rfl
            refine pure_ (i := 6) (N := some 28) (v := undef) (a' := ?_) (lb 13 127) rfl rfl (by kernel_rfl) (fun _ _ _ h => h) (Or.inr ⟨by rfl, rfl⟩) ?_ ?_
            rotate_left
            · simp only [Act.put, List.setIfInBounds_toArray, List.set_cons_zero, List.set_cons_succ, i64_w, i32_w]
              rfl
            refine pure_ (i := 7) (N := some 29) (v := undef) (a' := ?_) (lb 13 255) rfl rfl (by kernel_rfl) (fun _ _ _ h => h) (Or.inr ⟨by rfl, rfl⟩) ?_ ?_
            rotate_left
            · simp only [Act.put, List.setIfInBounds_toArray, List.set_cons_zero, List.set_cons_succ, i64_w, i32_w]
              rfl
            refine pure_ (i := 8) (N := some 30) (v := undef) (a' := ?_) (lb 13 511) rfl rfl (by kernel_rfl) (fun _ _ _ h => h) (Or.inr ⟨by rfl, rfl⟩) ?_ ?_
            rotate_left
            · simp only [Act.put, List.setIfInBounds_toArray, List.set_cons_zero, List.set_cons_succ, i64_w, i32_w]
              rfl
            refine pure_ (i := 9) (N := some 31) (v := undef) (a' := ?_) (lb 13 1023) rfl rfl (by kernel_rfl) (fun _ _ _ h => h) (Or.inr ⟨by rfl, rfl⟩) ?_ ?_
            rotate_left
            · simp only [Act.put, List.setIfInBounds_toArray, List.set_cons_zero, List.set_cons_succ, i64_w, i32_w]
              rfl
            refine pure_ (i := 10) (N := some 32) (v := undef) (a' := ?_) (lb 13 2047) rfl rfl (by kernel_rfl) (fun _ _ _ h => h) (Or.inr ⟨by rfl, rfl⟩) ?_ ?_
            rotate_left
            · simp only [Act.put, List.setIfInBounds_toArray, List.set_cons_zero, List.set_cons_succ, i64_w, i32_w]
              rfl
            refine pure_ (i := 11) (N := some 33) (v := ?_) (a' := ?_) (lb 13 4095) rfl rfl (by kernel_rfl) (fun _ _ _ h => h) (Or.inl ⟨by rfl, ?_⟩) ?_ ?_
            rotate_left
            · intro w'
              go_simp
              with_reducible rfl
            rotate_left
            · simp only [Act.put, List.setIfInBounds_toArray, List.set_cons_zero, List.set_cons_succ, i64_w, i32_w]
              rfl
            refine pure_ (i := 12) (N := some 8) (v := ?_) (a' := ?_) (lb 13 8191) rfl rfl (by kernel_rfl) (fun _ _ _ h => h) (Or.inl ⟨by rfl, ?_⟩) ?_ ?_
            rotate_left
            · intro w'
              go_simp
              with_reducible rfl
            rotate_left
            · simp only [Act.put, List.setIfInBounds_toArray, List.set_cons_zero, List.set_cons_succ, i64_w, i32_w]
              rfl
            refine done_ (by kernel_rfl) ?_
            go_wp2
            go_roundg (q' - (j + 1))
            case measure => omega
            case rel => exact ⟨j + 1, true, by omega, Nat.le_refl _, by go_num, rfl, Aside0.mk (below_step HBX.out HB.out), Aside0.mk (by
              have h5 := of_decide_eq_true HHV.out.symm
              rw [HTJ.out, decide_eq_true (List.mem_append_left _ h5)])⟩
          | false =>
            go_wp2
            refine start_ (n := 13) (S := fun W => W.cell? (ado.add (j * 2)) = some (.string za) ∧ W.cell? ⟨(ado.add (j * 2)).block, (ado.add (j * 2)).off + 1, none⟩ = some (.int .i64 zb) ∧ W.cell? (ad.add (i * 2)) = some (.string ya) ∧ W.cell? ⟨(ad.add (i * 2)).block, (ad.add (i * 2)).off + 1, none⟩ = some (.int .i64 yb)) (ds := []) (lb 13 0) (by kernel_rfl) rfl rfl (HSS.out _ (by repeat (with_reducible first | exact HB.out | apply below_alloc | apply pw_below_drewN | apply below_drew1))) (fun hHeld => ?_)
            replace HB := Aside0.mk (below_drew1 HB.out)
            generalize wr.drew = wrd at HB hHeld ⊢
            refine pure_ (i := 0) (N := some 22) (v := ?_) (a' := ?_) (lb 13 1) rfl rfl (by kernel_rfl) (fun _ _ _ h => h) (Or.inl ⟨by rfl, ?_⟩) ?_ ?_
            rotate_left
            · intro w'
              go_simp
              with_reducible rfl
            rotate_left
            · simp only [Act.put, List.setIfInBounds_toArray, List.set_cons_zero, List.set_cons_succ, i64_w, i32_w]
              rfl
            refine pure_ (i := 1) (N := some 23) (v := ?_) (a' := ?_) (lb 13 3) rfl rfl (by kernel_rfl) (fun _ _ _ h => h) (Or.inl ⟨by rfl, ?_⟩) ?_ ?_
            rotate_left
            · intro w'
              go_simp
              with_reducible rfl
            rotate_left
            · simp only [Act.put, List.setIfInBounds_toArray, List.set_cons_zero, List.set_cons_succ, i64_w, i32_w]
              rfl
            refine pure_ (i := 2) (N := some 24) (v := ?_) (a' := ?_) (lb 13 7) rfl rfl (by kernel_rfl) (fun _ _ _ h => h) (Or.inl ⟨by rfl, ?_⟩) ?_ ?_
            rotate_left
            · intro w'
              go_simp
              with_reducible rfl
            rotate_left
            · simp only [Act.put, List.setIfInBounds_toArray, List.set_cons_zero, List.set_cons_succ, i64_w, i32_w]
              rfl
            refine pure_ (i := 3) (N := some 25) (v := ?_) (a' := ?_) (lb 13 15) rfl rfl (by kernel_rfl) (fun _ _ _ h => h) (Or.inl ⟨by rfl, ?_⟩) ?_ ?_
            rotate_left
            · intro w'
              go_simp
              with_reducible rfl
            rotate_left
            · simp only [Act.put, List.setIfInBounds_toArray, List.set_cons_zero, List.set_cons_succ, i64_w, i32_w]
              rfl
            refine pure_ (i := 4) (N := some 26) (v := ?_) (a' := ?_) (lb 13 31) rfl rfl (by kernel_rfl) (fun _ _ _ h => h) (Or.inl ⟨by rfl, ?_⟩) ?_ ?_
            rotate_left
            · intro w'
              go_simp
              with_reducible rfl
            rotate_left
            · simp only [Act.put, List.setIfInBounds_toArray, List.set_cons_zero, List.set_cons_succ, i64_w, i32_w]
              rfl
            refine pure_ (i := 6) (N := some 28) (v := ?_) (a' := ?_) (lb 13 95) rfl rfl (by kernel_rfl) (fun _ _ _ h => h) (Or.inl ⟨by rfl, ?_⟩) ?_ ?_
            rotate_left
            · intro w'
              go_simp
              with_reducible rfl
            rotate_left
            · simp only [Act.put, List.setIfInBounds_toArray, List.set_cons_zero, List.set_cons_succ, i64_w, i32_w]
              rfl
            refine pure_ (i := 7) (N := some 29) (v := ?_) (a' := ?_) (lb 13 223) rfl rfl (by kernel_rfl) (fun _ _ _ h => h) (Or.inl ⟨by rfl, ?_⟩) ?_ ?_
            rotate_left
            · intro w'
              go_simp
              with_reducible rfl
            rotate_left
            · simp only [Act.put, List.setIfInBounds_toArray, List.set_cons_zero, List.set_cons_succ, i64_w, i32_w]
              rfl
            refine pure_ (i := 8) (N := some 30) (v := ?_) (a' := ?_) (lb 13 479) rfl rfl (by kernel_rfl) (fun _ _ _ h => h) (Or.inl ⟨by rfl, ?_⟩) ?_ ?_
            rotate_left
            · intro w'
              go_simp
              with_reducible rfl
            rotate_left
            · simp only [Act.put, List.setIfInBounds_toArray, List.set_cons_zero, List.set_cons_succ, i64_w, i32_w]
              rfl
            refine take_ (i := 5) (N := some 27) (v := ?_) (a' := ?_) (lb 13 511) rfl rfl (by kernel_rfl) (fun _ _ _ h => h) (Or.inl ⟨by rfl, ?_⟩) hHeld ?_ ?_
            rotate_left
            · intro w' hS_
              (try dsimp only at hS_)
              obtain ⟨s0, s1, s2, s3⟩ := hS_
              go_simp
              with_reducible rfl
            rotate_left
            · simp only [Act.put, List.setIfInBounds_toArray, List.set_cons_zero, List.set_cons_succ, i64_w, i32_w]
              rfl
            refine take_ (i := 9) (N := some 31) (v := ?_) (a' := ?_) (lb 13 1023) rfl rfl (by kernel_rfl) (fun _ _ _ h => h) (Or.inl ⟨by rfl, ?_⟩) hHeld ?_ ?_
            rotate_left
            · intro w' hS_
              (try dsimp only at hS_)
              obtain ⟨s0, s1, s2, s3⟩ := hS_
              go_simp
              with_reducible rfl
            rotate_left
            · simp only [Act.put, List.setIfInBounds_toArray, List.set_cons_zero, List.set_cons_succ, i64_w, i32_w]
              rfl
            refine pure_ (i := 10) (N := some 32) (v := ?_) (a' := ?_) (lb 13 2047) rfl rfl (by kernel_rfl) (fun _ _ _ h => h) (Or.inl ⟨by rfl, ?_⟩) ?_ ?_
            rotate_left
            · intro w'
              go_simp
              with_reducible rfl
            rotate_left
            · simp only [Act.put, List.setIfInBounds_toArray, List.set_cons_zero, List.set_cons_succ, i64_w, i32_w]
              rfl
            refine pure_ (i := 11) (N := some 33) (v := ?_) (a' := ?_) (lb 13 4095) rfl rfl (by kernel_rfl) (fun _ _ _ h => h) (Or.inl ⟨by rfl, ?_⟩) ?_ ?_
            rotate_left
            · intro w'
              go_simp
              with_reducible rfl
            rotate_left
            · simp only [Act.put, List.setIfInBounds_toArray, List.set_cons_zero, List.set_cons_succ, i64_w, i32_w]
              rfl
            refine pure_ (i := 12) (N := some 8) (v := ?_) (a' := ?_) (lb 13 8191) rfl rfl (by kernel_rfl) (fun _ _ _ h => h) (Or.inl ⟨by rfl, ?_⟩) ?_ ?_
            rotate_left
            · intro w'
              go_simp
              with_reducible rfl
            rotate_left
            · simp only [Act.put, List.setIfInBounds_toArray, List.set_cons_zero, List.set_cons_succ, i64_w, i32_w]
              rfl
            refine done_ (by kernel_rfl) ?_
            go_wp2
            go_roundg (q' - (j + 1))
            case measure => omega
            case rel => exact ⟨j + 1, bb, by omega, Nat.le_refl _, by go_num, rfl, Aside0.mk (below_step HBX.out HB.out), Aside0.mk (by
              have h5 := of_decide_eq_false HHV.out.symm
              rw [HTJ.out, HBB.out, decide_eq_decide, List.mem_append, List.mem_singleton]
              exact ⟨fun h6 => .inr h6.symm, fun h6 => h6.elim (fun h7 => absurd h7 h5) Eq.symm⟩)⟩
        · have hje : j = q' := by omega
          subst hje
          have hjz : ¬ (j : Int) < (j : Int) := by omega
          have HTA := Aside0.mk (show out'.take j = out' by rw [HQ.out, List.take_length])
          cases hv with
          | true =>
            go_wp2
            go_roundg (p - (i + 1))
            case measure => omega
            case rel => exact ⟨i + 1, out', A', c', by omega, Nat.le_refl _, by go_num, by rw [HQ.out], Aside0.mk (below_step HB.out HBX.out), Aside0.mk (by rw [← HQ.out]; exact pw_own_below HO.out HBX.out), Aside0.mk ⟨by
              have h5 := of_decide_eq_true HHV.out.symm
              rw [HTA.out] at h5
              rw [HTK.out, List.foldl_append, ← HI.out.1]
              simp only [List.foldl_cons, List.foldl_nil, stepR, if_pos h5], HI.out.2⟩⟩
          | false =>
            have h5 := of_decide_eq_false HHV.out.symm
            rw [HTA.out] at h5
            have HNO := Aside0.mk h5
            obtain ⟨ja, hja, hjl, hjx⟩ := at_in HH.out.fit.len HYI.out.1 (l.length + 1) (by omega)
            obtain ⟨ad0, A2, c2, rfl, z0, z1, z2, z3, z4⟩ := at_T40 HH.out.row (ja : Int) (by omega) (by omega)
            have hz : rd_T40 l (ja : Int) = usAt l ja := by simp only [rd_T40, usAt, Int.toNat_natCast]
            have hrf : (usAt l ja).f1 = refsOf l ⟨ya, yb⟩ := by rw [← hjx]; exact (refsOf_row HH.out.sorted (usAt_mem hjl)).symm
            rw [hz, hrf] at z2 z3 z4
            rw [Int.toNat_natCast] at z2
            rw [hz, Int.toNat_natCast] at z0
            have hcl2 := World.block_lt_of_cell? _ _ z0
            have HZ2 := Aside0.mk (fun W (hb : Below w.heap.size w W) => show W.cell? ⟨(ad0.add (ja * 3)).block, (ad0.add (ja * 3)).off + 2, none⟩ = some (.slice A2 (refsOf l ⟨ya, yb⟩).length c2) from (hb.cell (p := ⟨(ad0.add (ja * 3)).block, (ad0.add (ja * 3)).off + 2, none⟩) hcl2).trans z2)
            have HFRE := Aside0.mk (refN_fresh HH.out.rank HH.out.closed k HYI.out.1 h5)
            have HSL := Aside0.mk (stepR_len HH.out.rank HH.out.closed k (fun ys o M hy ho => refN_len HH.out.rank HH.out.closed k ys o M hy ho) HYI.out.1 HI.out.2)
            have HSTEP := Aside0.mk (show stepR (refN l k) l out' (⟨ya, yb⟩ : Nd) = refN l k (refsOf l ⟨ya, yb⟩) out' ++ [⟨ya, yb⟩] by unfold stepR; rw [if_neg h5])
            rw [HSTEP.out] at HSL
            have HAT := Aside0.mk (fun W (hb : Below w.heap.size w W) => codicilref19_at.calls (l.length + 1) (some ad0) c0 l ya yb (ja : Int) W (Kd.C_below HH.out.row hb) HH.out.cap hja)
            rw [← HN.out] at HAT
            have hjn : (ja : Int) < (n : Int) := by have := HN.out; omega
            have HREC := Aside0.mk (fun (W : World) (hb : Below w.heap.size w W) (ho : W.ownsRow w.heap.size 24 2 (.slice A' j c') out'.length (cellsN out')) => IH.out (by have := HYI.out.2; omega) W out' (.slice A' j c') (refsOf l ⟨ya, yb⟩) A2 c2 hb ho z4 z3 (by rw [← hrf]; exact HH.out.fit.refs _ (usAt_mem hjl)) (fun z hz => ⟨HH.out.closed _ z hz, by have := HH.out.rank _ HYI.out.1 z hz; have := HYI.out.2; omega⟩) HI.out.2)
            rw [← HN.out] at HREC
            have HO2 := Aside0.mk (show wr.ownsRow w.heap.size 24 2 (.slice A' j c') out'.length (cellsN out') by rw [← HQ.out]; exact pw_own_below HO.out HBX.out)
            have HB2 := Aside0.mk (below_step HB.out HBX.out)
            obtain ⟨q2, hq2⟩ : ∃ q2, q2 = (refsOf l (⟨ya, yb⟩ : Nd)).length := ⟨_, rfl⟩
            rw [← hq2] at HZ2 HREC
            have hlc := (HLW.out wr HB2.out).1
            have hld := (HLW.out wr HB2.out).2
            clear h5 hja hjl hjx z0 z1 z2 z3 z4 hz hrf hcl2 hq2
            go_wp2_with (first | (go_at_call 28; refine (HAT.out wr HB2.out).mono ?_; rintro e w4 ⟨rfl, hb4⟩; have HB4 := Aside0.mk (below_step HB2.out hb4); have HO4 := Aside0.mk (pw_own_below HO2.out hb4); clear hb4; have hz4 := HZ2.out w4 HB4.out) | (go_at_call 29; refine (HREC.out w4 HB4.out HO4.out).mono ?_; rintro e w5 ⟨v5, rfl, ho5, hb5⟩; refine Hid.out ?_))
            refine Lib.hid ?_
            obtain ⟨o5, hoe⟩ : ∃ o5, o5 = refN l k (refsOf l ⟨ya, yb⟩) out' := ⟨_, rfl⟩
            rw [← hoe] at ho5 HSTEP HSL
            obtain ⟨A5, c5, rfl⟩ := own_slice ho5
            have HO5 := Aside0.mk ho5
            have HB5 := Aside0.mk hb5
            have g0 := (HLW.out w5 hb5).1
            have g1 := (HLW.out w5 hb5).2
            have hl5 : o5.length ≤ 1048576 := by
              have h6 := HSL.out
              rw [List.length_append] at h6
              have := HH.out.fit.len
              omega
            obtain ⟨q5, hq5⟩ : ∃ q5, q5 = o5.length := ⟨_, rfl⟩
            have HQ5 := Aside0.mk hq5
            rw [← hq5] at HO5 hl5 ⊢
            clear ho5 hb5 hlc hld hoe hq5 hz4
            go_wp2_with (at_builtin; refine Hid.out ?_)
            refine Lib.hid ?_
            refine print_append_cells w.heap.size rfl _ _ 25 24 (.agg #[.string ⟨#[]⟩, .int .i64 0]) 2 24 rfl Try.underlying25 info24 rfl (by decide) (by decide) (.slice A5 q5 c5) q5 (cellsN o5) [.string ya, .int .i64 yb] rfl rfl rfl (by simp [Value.oneCell']) HO5.out HB5.out HB5.out.size (by omega) ?_
            intro v6 w6 ho6 hb6 hg6 hat6
            obtain ⟨A6, c6, rfl⟩ := own_slice ho6
            go_wp2
            go_roundg (p - (i + 1))
            case measure => omega
            case rel => exact ⟨i + 1, o5 ++ [⟨ya, yb⟩], A6, c6, by omega, Nat.le_refl _, by go_num, by rw [List.length_append, List.length_singleton, ← HQ5.out], Aside0.mk hb6, Aside0.mk (by
              rw [List.length_append, List.length_singleton, cellsN_snoc, ← HQ5.out]
              exact ho6), Aside0.mk ⟨by
              rw [HTK.out, List.foldl_append, ← HI.out.1]
              simp only [List.foldl_cons, List.foldl_nil]
              exact HSTEP.out.symm, HSL.out⟩⟩
    · have hie : i = p := by omega
      subst hie
      have hltz : ¬ (i : Int) < (i : Int) := by omega
      have HTA := Aside0.mk (show xs.take i = xs by rw [HP.out, List.take_length])
      go_wp2
      go_ret
      refine ⟨_, rfl, ?_, HB.out⟩
      have h2 := HI.out.1
      rw [HTA.out] at h2
      show wo.ownsRow w.heap.size 24 2 _ (xs.foldl (stepR (refN l k) l) out).length (cellsN (xs.foldl (stepR (refN l k) l) out))
      rw [← h2]
      exact HO.out
end Go.Proofs.Ytddjhmelniphgaa.Print
