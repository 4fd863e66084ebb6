/- Contract of subject.Hard: a version is taken away. -/
import Derived.Test.YtkcjekboakoejaaHSoft
import Derived.Test.YtkcjekboakoejaaHClip
import Derived.Deep.RegionLaw
namespace Go.Proofs.Ytkcjekboakoejaa.Print
open Go.RowKit Go.Shelf Go.Proofs.YtkcjekboakoejaaW.PrintWords Go.Proofs.YtkcjekboakoejaaW.PrintLast
set_option linter.unusedVariables false
set_option linter.unusedSimpArgs false

def hardP (p : Int × Int) (a0 : ByteArray) (a1 : Int) (l : List V30) : ByteArray × Int × List V30 × Int :=
  if p.2 = 0 then (a0, a1, l.take p.1.toNat ++ l.drop (p.1.toNat + 1), 0) else (⟨#[]⟩, 0, [], p.2)

set_option maxHeartbeats 4000000 in
set_option maxRecDepth 100000 in
theorem hard_any (a0 : ByteArray) (a1 : Int) (A : Option Addr) (c : Nat) (l : List V30) (n : Int) (w : World) (hr : Kd.C k30 w A l.length l) (hc : l.length ≤ c) (hbig : l.length ≤ 1048576) (hids : idsOk l = true)
    (r : ByteArray × Int × List V30 × Int) (hres : hardP (placeP (mayB a0 a1 l) l n true) a0 a1 l = r) :
    Calls Try.prog 16 #[.agg #[.string a0, .int .i64 a1, .slice A l.length c], .int .i64 n] w fun e w' => ∃ (A' : Option Addr) (c' : Nat), e = .returned (.tuple #[.agg #[.string r.1, .int .i64 r.2.1, .slice A' r.2.2.1.length c'], .int .i64 r.2.2.2]) ∧ Kd.C k30 w' A' r.2.2.1.length r.2.2.1 ∧ r.2.2.1.length ≤ c' ∧ Below w.heap.size w w' ∧ (∀ x, A' = some x → 0 < r.2.2.1.length → A = some x ∨ w.heap.size ≤ x.block) := by
  have hplace := fun (W : World) (hb : Below w.heap.size w W) => place_any a0 a1 A c l n true W (Kd.C_below hr hb) hc hbig hids
  have hok := @placeP_ok (mayB a0 a1 l) l n true
  have HR := Aside0.mk hr
  clear hr
  generalize placeP (mayB a0 a1 l) l n true = p at hplace hres hok
  obtain ⟨i, e0⟩ := p
  have HRES := Aside0.mk hres
  clear hres
  by_cases he : e0 = 0
  · subst he
    obtain ⟨h0, h1, _⟩ := hok rfl
    clear hok
    obtain ⟨k, rfl⟩ : ∃ k : Nat, i = k := ⟨i.toNat, by omega⟩
    go_enter Try.func16, Try.ntmps16
    go_wp2_with fail
    have hb0 := ((Below.refl _ w).alloc (Nat.le_refl _) (.cells #[.string a0, .int .i64 a1, .slice A l.length c] 24)).alloc (by simp) (.cells #[.string ⟨#[]⟩, .int .i64 0, .slice none 0 0] 24)
    refine (hplace _ hb0).mono ?_
    rintro e w1 ⟨rfl, hb⟩
    have HB1 := Aside0.mk (hb0.trans (hb.mono (by simp; omega)))
    have BK0 := Aside0.mk (blk_below (blk_alloc (blk_new w (.cells #[.string a0, .int .i64 a1, .slice A l.length c] 24)) (.cells #[.string ⟨#[]⟩, .int .i64 0, .slice none 0 0] 24)) hb)
    have BK1 := Aside0.mk (blk_below (blk_new (w.alloc (.cells #[.string a0, .int .i64 a1, .slice A l.length c] 24)) (.cells #[.string ⟨#[]⟩, .int .i64 0, .slice none 0 0] 24)) hb)
    have hsz : (w.alloc (.cells #[.string a0, .int .i64 a1, .slice A l.length c] 24)).heap.size = w.heap.size + 1 := by simp
    rw [hsz] at BK1
    clear hb hb0 hplace hsz
    obtain ⟨ad, hA⟩ : ∃ ad, A = some ad := by
      obtain ⟨ad, hh, _⟩ := at_T30 HR.out k h0 h1
      exact ⟨ad, hh⟩
    subst hA
    have hrun0 := info_parts info30
    obtain ⟨i0, hi, hz0, hz1, hz2⟩ := hrun0
    have hC1 := Kd.C_take (m := k) (Kd.C_below HR.out HB1.out) (by omega)
    have hC2 := Kd.C_drop (m := k + 1) (c := c) (Kd.C_below HR.out HB1.out) (by omega) hc
    obtain ⟨a2, ha2⟩ : ∃ a2, (if c = k + 1 then some ad else (some ad).map (·.add ((k + 1) * (k30).sz))) = some a2 := by
      split
      · exact ⟨_, rfl⟩
      · exact ⟨_, rfl⟩
    rw [ha2] at hC2
    have s1 : ∀ W : World, (Instr.slice 22 (.slice (some ad) l.length c) none (some (.int .i64 k)) (some (.int .i64 k))).run Try.prog W = .ok (.slice (some ad) k k) W := by
      intro W
      have hel : Try.prog.elem 22 = 30 := by simp [Program.elem, Try.underlying22]
      rw [run_slice_hm W _ _ _ _ (by rw [hel]; exact Try.underlying22) .i64 .i64 k k (by omega) (by omega) (by omega), hel]
      simp [sizeOf, typeInfo, hi, sliced, Result.andThen, Addr.add]
    have s2 : ∀ W : World, (Instr.slice 22 (.slice (some ad) l.length c) (some (.int .i64 ((k : Int) + 1))) none none).run Try.prog W = .ok (.slice (some a2) (l.length - (k + 1)) (c - (k + 1))) W := by
      intro W
      rw [cut_from 22 30 .i64 Try.underlying22 hi 3 hz1 (some ad) l.length c ((k : Int) + 1) (by omega) (by omega) W]
      rw [show ((k : Int) + 1).toNat = k + 1 by omega, show (if c = k + 1 then some ad else (some ad).map (·.add ((k + 1) * 3))) = some a2 from ha2]
    have e1 : (l.take k).length = k := by rw [List.length_take]; omega
    have e2 : (l.drop (k + 1)).length = l.length - (k + 1) := by rw [List.length_drop]
    rw [e1] at hC1
    rw [e2] at hC2
    obtain ⟨x, cap, w3, hrun, hcap, hC3, hb3, hx⟩ := clip_append k30 22 30 Try.underlying22 hi hz0 hz1 hz2 rfl (by decide) w1.drew ad a2 k (l.length - (k + 1)) (c - (k + 1)) (l.take k) (l.drop (k + 1)) e1 e2 (Kd.C_drew hC1) (Kd.C_drew hC2) (by omega) (by omega)
    have HX := Aside0.mk (show 0 < k + (l.length - (k + 1)) → x.block < w.heap.size ∨ w.heap.size + 1 < x.block from fun hp => by
      rcases hx with rfl | hx
      · exact .inl (Kd.C_lt HR.out (by omega) (by decide))
      · exact .inr (Nat.lt_of_lt_of_le (blk_lt BK1.out) hx))
    have HX2 := Aside0.mk (show x = ad ∨ w.heap.size ≤ x.block from hx.imp id (fun h => Nat.le_trans (below_size HB1.out) h))
    clear hx
    have HB3 := Aside0.mk hb3
    have HCAP := Aside0.mk hcap
    have HC3 := Aside0.mk hC3
    have BK0' := Aside0.mk (blk_below (blk_drew BK0.out) hb3)
    have BK1' := Aside0.mk (blk_below (blk_drew BK1.out) hb3)
    have z2 := blk_cell BK0.out 2
    simp at z2
    have z00 : w3.cell? ⟨w.heap.size, 0, none⟩ = some (.string a0) := blk_cell BK0'.out 0
    have z01 : w3.cell? ⟨w.heap.size, 1, none⟩ = some (.int .i64 a1) := blk_cell BK0'.out 1
    have z02 : w3.cell? ⟨w.heap.size, 2, none⟩ = some (.slice (some ad) l.length c) := blk_cell BK0'.out 2
    have z10 : w3.cell? ⟨w.heap.size + 1, 0, none⟩ = some (.string ⟨#[]⟩) := blk_cell BK1'.out 0
    have z11 : w3.cell? ⟨w.heap.size + 1, 1, none⟩ = some (.int .i64 0) := blk_cell BK1'.out 1
    have z12 : w3.cell? ⟨w.heap.size + 1, 2, none⟩ = some (.slice none 0 0) := blk_cell BK1'.out 2
    have f02 := blk_frozen BK0'.out 2
    have f10 := blk_frozen BK1'.out 0
    have f11 := blk_frozen BK1'.out 1
    have f12 := blk_frozen BK1'.out 2
    have E1 := Aside0.mk e1
    have E2 := Aside0.mk e2
    clear e1 e2 hC1 hC2 hC3 hcap hb3 ha2 hi hz0 hz1 hz2 i0
    generalize l.length - (k + 1) = m at s2 hrun HCAP HC3 E2 HX
    have w1e : IntKind.i64.wrap ((k : Int) + 1) = (k : Int) + 1 := by rw [IntKind.wrap_i64]; omega
    have HRUN := Aside0.mk hrun
    clear hrun
    go_wp2
    go_region_law (refine step_append_run rfl (.tmp 22) (.tmp 27) 22 rfl (.slice (some ad) k k) (.slice (some a2) m (c - (k + 1))) (.slice (some x) (k + m) cap) (by simp [Act.eval, Act.put]) (by simp [Act.eval, Act.put]) HRUN.out ?_)
    all_goals
      go_wp2
      refine bodyPost_ret (v := .tuple #[.agg #[.string a0, .int .i64 a1, .slice (some x) (k + m) cap], .int .i64 0]) ?_ rfl ?_
      · simp [results, Try.results16, go_sem, z10, z11, z12]
      · have hl : (l.take k ++ l.drop (k + 1)).length = k + m := by rw [List.length_append, E1.out, E2.out]
        refine ⟨some x, cap, ?_, ?_, ?_, ?_⟩
        · rw [← HRES.out]
          show _ = Ending.returned (.tuple #[.agg #[.string a0, .int .i64 a1, .slice (some x) (l.take k ++ l.drop (k + 1)).length cap], .int .i64 0])
          rw [hl]
        · rw [← HRES.out]
          show Kd.C k30 _ (some x) (l.take k ++ l.drop (k + 1)).length (l.take k ++ l.drop (k + 1))
          rw [hl]
          exact c_set (c_set (c_set (c_set HC3.out (fun ad h hp => by cases h; have := HX.out hp; omega) _) (fun ad h hp => by cases h; have := HX.out hp; omega) _) (fun ad h hp => by cases h; have := HX.out hp; omega) _) (fun ad h hp => by cases h; have := HX.out hp; omega) _
        · rw [← HRES.out]
          show (l.take k ++ l.drop (k + 1)).length ≤ cap
          rw [hl]; exact HCAP.out
        · exact ⟨below_set (below_set (below_set (below_set (below_step (below_drew1 HB1.out) HB3.out) (Nat.le_refl _)) (by omega)) (by omega)) (by omega), fun x' hx' _ => by cases hx'; exact HX2.out.imp (fun h => by rw [h]) id⟩
  · have heb : (e0 == 0) = false := by simp [he]
    have hec : (e0 != 0) = true := by simp [he]
    have HE := Aside0.mk he
    clear he hok
    go_enter Try.func16, Try.ntmps16
    go_wp2_with fail
    have hb0 := ((Below.refl _ w).alloc (Nat.le_refl _) (.cells #[.string a0, .int .i64 a1, .slice A l.length c] 24)).alloc (by simp) (.cells #[.string ⟨#[]⟩, .int .i64 0, .slice none 0 0] 24)
    refine (hplace _ hb0).mono ?_
    rintro e w1 ⟨rfl, hb⟩
    have HB1 := Aside0.mk (hb0.trans (hb.mono (by simp; omega)))
    have BK1 := Aside0.mk (blk_below (blk_new (w.alloc (.cells #[.string a0, .int .i64 a1, .slice A l.length c] 24)) (.cells #[.string ⟨#[]⟩, .int .i64 0, .slice none 0 0] 24)) hb)
    have hsz : (w.alloc (.cells #[.string a0, .int .i64 a1, .slice A l.length c] 24)).heap.size = w.heap.size + 1 := by simp
    rw [hsz] at BK1
    clear hb hb0 hplace hsz
    have z10 : w1.cell? ⟨w.heap.size + 1, 0, none⟩ = some (.string ⟨#[]⟩) := blk_cell BK1.out 0
    have z11 : w1.cell? ⟨w.heap.size + 1, 1, none⟩ = some (.int .i64 0) := blk_cell BK1.out 1
    have z12 : w1.cell? ⟨w.heap.size + 1, 2, none⟩ = some (.slice none 0 0) := blk_cell BK1.out 2
    have f10 := blk_frozen BK1.out 0
    have f11 := blk_frozen BK1.out 1
    have f12 := blk_frozen BK1.out 2
    go_wp2
    refine bodyPost_ret (v := .tuple #[.agg #[.string ⟨#[]⟩, .int .i64 0, .slice none 0 0], .int .i64 e0]) ?_ rfl ?_
    · simp [results, Try.results16, go_sem, z10, z11, z12]
    · have hr : hardP (i, e0) a0 a1 l = (⟨#[]⟩, 0, [], e0) := by unfold hardP; rw [if_neg (by simpa using HE.out)]
      rw [← HRES.out, hr]
      exact ⟨none, 0, rfl, Kd.C_nil _ _, Nat.zero_le _, below_set (below_set (below_set HB1.out (by omega)) (by omega)) (by omega), fun x' hx' _ => by cases hx'⟩
end Go.Proofs.Ytkcjekboakoejaa.Print
