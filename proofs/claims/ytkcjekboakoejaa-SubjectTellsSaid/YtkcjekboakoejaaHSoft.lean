/- Contract of subject.Soft: a version is put aside. -/
import Derived.Test.YtkcjekboakoejaaHPlace
import Derived.Test.YtkcjekboakoejaaHClone
namespace Go.Proofs.Ytkcjekboakoejaa.Print
open Go.RowKit Go.Shelf Go.Proofs.YtkcjekboakoejaaW.PrintWords Go.Proofs.YtkcjekboakoejaaW.PrintLast
set_option linter.unusedVariables false
set_option linter.unusedSimpArgs false

theorem placeP_ok {may : Bool} {l : List V30} {n : Int} {soft : Bool} (h : (placeP may l n soft).2 = 0) : 0 ≤ (placeP may l n soft).1 ∧ (placeP may l n soft).1 < l.length ∧ may = true := by
  have hr := idxP_range (fun x => x.f0 == n) l 0
  unfold placeP at h ⊢
  split at h
  · simp at h
  · rename_i hm
    rw [if_neg hm]
    split at h
    · simp at h
    · rename_i hi
      rw [if_neg hi]
      split at h
      · simp at h
      · rename_i hs
        rw [if_neg hs]
        exact ⟨by omega, by omega, by simpa using hm⟩

def softP (p : Int × Int) (a0 : ByteArray) (a1 : Int) (l : List V30) : ByteArray × Int × List V30 × Int :=
  if p.2 = 0 then (a0, a1, l.set p.1.toNat ⟨(rd_T30 l p.1).f0, (rd_T30 l p.1).f1, true⟩, 0) else (⟨#[]⟩, 0, [], p.2)

set_option maxHeartbeats 4000000 in
set_option maxRecDepth 100000 in
theorem soft_any (a0 : ByteArray) (a1 : Int) (A : Option Addr) (c : Nat) (l : List V30) (n : Int) (w : World) (hr : Kd.C k30 w A l.length l) (hc : l.length ≤ c) (hbig : l.length ≤ 1048576) (hids : idsOk l = true)
    (r : ByteArray × Int × List V30 × Int) (hres : softP (placeP (mayB a0 a1 l) l n false) a0 a1 l = r) :
    Calls Try.prog 14 #[.agg #[.string a0, .int .i64 a1, .slice A l.length c], .int .i64 n] w fun e w' => ∃ v2_ : Value, e = .returned (.tuple #[.agg #[.string r.1, .int .i64 r.2.1, v2_], .int .i64 r.2.2.2]) ∧ Kd.R k30 30 w' w.heap.size (fun _ => True) v2_ r.2.2.1 ∧ Below w.heap.size w w' := by
  have hplace := fun (W : World) (hb : Below w.heap.size w W) => place_any a0 a1 A c l n false W (Kd.C_below hr hb) hc hbig hids
  have hok := @placeP_ok (mayB a0 a1 l) l n false
  have HR := Aside0.mk hr
  clear hr
  generalize placeP (mayB a0 a1 l) l n false = p at hplace hres hok
  obtain ⟨i, e0⟩ := p
  have HRES := Aside0.mk hres
  clear hres
  by_cases he : e0 = 0
  · subst he
    obtain ⟨h0, h1, _⟩ := hok rfl
    clear hok
    go_enter Try.func14, Try.ntmps14
    go_wp2_with fail
    have hb0 := ((Below.refl _ w).alloc (Nat.le_refl _) (.cells #[.string a0, .int .i64 a1, .slice A l.length c] 24)).alloc (by simp) (.cells #[.string ⟨#[]⟩, .int .i64 0, .slice none 0 0] 24)
    refine (hplace _ hb0).mono ?_
    rintro e w1 ⟨rfl, hb⟩
    have HB1 := Aside0.mk (hb0.trans (hb.mono (by simp; omega)))
    have BK0 := Aside0.mk (blk_below (blk_alloc (blk_new w (.cells #[.string a0, .int .i64 a1, .slice A l.length c] 24)) (.cells #[.string ⟨#[]⟩, .int .i64 0, .slice none 0 0] 24)) hb)
    have BK1 := Aside0.mk (blk_below (blk_new (w.alloc (.cells #[.string a0, .int .i64 a1, .slice A l.length c] 24)) (.cells #[.string ⟨#[]⟩, .int .i64 0, .slice none 0 0] 24)) hb)
    have hsz : (w.alloc (.cells #[.string a0, .int .i64 a1, .slice A l.length c] 24)).heap.size = w.heap.size + 1 := by simp
    rw [hsz] at BK1
    clear hb hb0 hplace hsz
    have z2 := blk_cell BK0.out 2
    simp at z2
    obtain ⟨ad, hA⟩ : ∃ ad, A = some ad := by
      obtain ⟨ad, hh, _⟩ := at_T30 HR.out i h0 h1
      exact ⟨ad, hh⟩
    subst hA
    go_wp2_with fail
    refine (clone_any ad c l _ (Kd.C_below HR.out HB1.out) hc hbig).mono ?_
    rintro e w2 ⟨v2, rfl, hR2, hb⟩
    obtain ⟨g, cap, rfl, hg1, hg2, hg3⟩ := Kd.R_form hR2 (by omega)
    have HG := Aside0.mk hg3
    have HB2 := Aside0.mk (below_step HB1.out hb)
    have BK0' := Aside0.mk (blk_below BK0.out hb)
    have BK1' := Aside0.mk (blk_below BK1.out hb)
    have n0 : w.heap.size < g := Nat.lt_of_lt_of_le (blk_lt BK0.out) hg1
    have n1 : w.heap.size + 1 < g := Nat.lt_of_lt_of_le (blk_lt BK1.out) hg1
    have HR2 := Aside0.mk (Kd.R_lower hR2 HB1.out.size)
    clear hb BK0 BK1 hR2 hg3 z2 hg1
    obtain ⟨ce, hcl, hM, hcc, hfr⟩ := Kd.R_elem HR2.out z30 i h0 h1
    obtain rfl := k30_openM hM
    have x2 : w2.cell? ⟨g, i.toNat * 3 + 2, none⟩ = some (.bool ((rd_T30 l i).f2)) := hcc 2 _ rfl
    have f2 : w2.frozen? ⟨g, i.toNat * 3 + 2, none⟩ = false := hfr 2
    have z00 : w2.cell? ⟨w.heap.size, 0, none⟩ = some (.string a0) := blk_cell BK0'.out 0
    have z01 : w2.cell? ⟨w.heap.size, 1, none⟩ = some (.int .i64 a1) := blk_cell BK0'.out 1
    have z02 : w2.cell? ⟨w.heap.size, 2, none⟩ = some (.slice (some ad) l.length c) := blk_cell BK0'.out 2
    have z10 : w2.cell? ⟨w.heap.size + 1, 0, none⟩ = some (.string ⟨#[]⟩) := blk_cell BK1'.out 0
    have z11 : w2.cell? ⟨w.heap.size + 1, 1, none⟩ = some (.int .i64 0) := blk_cell BK1'.out 1
    have z12 : w2.cell? ⟨w.heap.size + 1, 2, none⟩ = some (.slice none 0 0) := blk_cell BK1'.out 2
    have f00 := blk_frozen BK0'.out 2
    have f10 := blk_frozen BK1'.out 0
    have f11 := blk_frozen BK1'.out 1
    have f12 := blk_frozen BK1'.out 2
    have HCC := Aside0.mk hcc
    have HCL := Aside0.mk hcl
    clear hM hcc hcl hfr
    have m0 : g ≠ w.heap.size := by omega
    have m1 : g ≠ w.heap.size + 1 := by omega
    have m2 : w.heap.size ≠ g := by omega
    have m3 : w.heap.size + 1 ≠ g := by omega
    go_wp2
    refine bodyPost_ret (v := .tuple #[.agg #[.string a0, .int .i64 a1, .slice (some ⟨g, 0, none⟩) l.length cap], .int .i64 0]) ?_ rfl ?_
    · simp [results, Try.results14, go_sem, z10, z11, z12, m1, m3]
    · have r1 := Kd.R_set HR2.out BK0'.out (by decide) 2 (.slice (some ⟨g, 0, none⟩) l.length cap)
      obtain ⟨ce, hcl, hM, hcc, hfr⟩ := Kd.R_elem r1 z30 i h0 h1
      obtain rfl := k30_openM hM
      have r2 := (Kd.R_seg r1 i h0 h1 (seg := [.bool true]) (j := 2) hcl hcc (show 3 ≤ 3 from by decide) (x' := (⟨(rd_T30 l i).f0, (rd_T30 l i).f1, true⟩ : V30)) (k30_mkM _ _ _ (⟨(rd_T30 l i).f0, (rd_T30 l i).f1, true⟩ : V30)) (fun _ hk => hk)).1
      have b1 := blk_far (p := ⟨g, i.toNat * 3 + 2, none⟩) (blk_far (p := ⟨w.heap.size, 2, none⟩) BK1'.out (show w.heap.size + 1 ≠ w.heap.size by omega) (.slice (some ⟨g, 0, none⟩) l.length cap)) m3 (.bool true)
      have r3 := Kd.R_set r2 b1 (by decide) 0 (.string a0)
      have b2 := blk_set b1 0 (.string a0)
      have r4 := Kd.R_set r3 b2 (by decide) 1 (.int .i64 a1)
      have b3 := blk_set b2 1 (.int .i64 a1)
      have r5 := Kd.R_set r4 b3 (by decide) 2 (.slice (some ⟨g, 0, none⟩) l.length cap)
      refine ⟨.slice (some ⟨g, 0, none⟩) l.length cap, ?_, ?_, ?_⟩
      · rw [← HRES.out]; rfl
      · rw [← HRES.out]
        exact r5
      · exact below_set (below_set (below_set (below_set (below_set HB2.out (Nat.le_refl _)) (by omega)) (by omega)) (by omega)) (by omega)
  · have heb : (e0 == 0) = false := by simp [he]
    have hec : (e0 != 0) = true := by simp [he]
    have HE := Aside0.mk he
    clear he hok
    go_enter Try.func14, Try.ntmps14
    go_wp2_with fail
    have hb0 := ((Below.refl _ w).alloc (Nat.le_refl _) (.cells #[.string a0, .int .i64 a1, .slice A l.length c] 24)).alloc (by simp) (.cells #[.string ⟨#[]⟩, .int .i64 0, .slice none 0 0] 24)
    refine (hplace _ hb0).mono ?_
    rintro e w1 ⟨rfl, hb⟩
    have HB1 := Aside0.mk (hb0.trans (hb.mono (by simp; omega)))
    have BK1 := Aside0.mk (blk_below (blk_new (w.alloc (.cells #[.string a0, .int .i64 a1, .slice A l.length c] 24)) (.cells #[.string ⟨#[]⟩, .int .i64 0, .slice none 0 0] 24)) hb)
    have hsz : (w.alloc (.cells #[.string a0, .int .i64 a1, .slice A l.length c] 24)).heap.size = w.heap.size + 1 := by simp
    rw [hsz] at BK1
    clear hb hb0 hplace hsz
    have z10 : w1.cell? ⟨w.heap.size + 1, 0, none⟩ = some (.string ⟨#[]⟩) := blk_cell BK1.out 0
    have z11 : w1.cell? ⟨w.heap.size + 1, 1, none⟩ = some (.int .i64 0) := blk_cell BK1.out 1
    have z12 : w1.cell? ⟨w.heap.size + 1, 2, none⟩ = some (.slice none 0 0) := blk_cell BK1.out 2
    have f10 := blk_frozen BK1.out 0
    have f11 := blk_frozen BK1.out 1
    have f12 := blk_frozen BK1.out 2
    go_wp2
    refine bodyPost_ret (v := .tuple #[.agg #[.string ⟨#[]⟩, .int .i64 0, .slice none 0 0], .int .i64 e0]) ?_ rfl ?_
    · simp [results, Try.results14, go_sem, z10, z11, z12]
    · have hr : softP (i, e0) a0 a1 l = (⟨#[]⟩, 0, [], e0) := by unfold softP; rw [if_neg (by simpa using HE.out)]
      rw [← HRES.out, hr]
      exact ⟨.slice none 0 0, rfl, Kd.R_nil _ _ _ _ _, below_set (below_set (below_set HB1.out (by omega)) (by omega)) (by omega)⟩
end Go.Proofs.Ytkcjekboakoejaa.Print
