/- Contract of subject.place: the place of a number, whose version must be put aside, or must not. -/
import Derived.Test.YtkcjekboakoejaaHMay18
namespace Go.Proofs.Ytkcjekboakoejaa.Print
open Go.RowKit Go.Shelf Go.Proofs.YtkcjekboakoejaaW.PrintWords Go.Proofs.YtkcjekboakoejaaW.PrintLast
set_option linter.unusedVariables false
set_option linter.unusedSimpArgs false

theorem pred_place (n : Int) (B : Nat) (w : World) (hB : B < w.heap.size) (hcell : w.cell? ⟨B, 0, none⟩ = some (.int .i64 n)) :
    PredV 58 #[.pointer (some ⟨B, 0, none⟩)] (fun x => x.f0 == n) w := fun W x hb => by
  have hc : W.cell? ⟨B, 0, none⟩ = some (.int .i64 n) := (hb.cell (p := ⟨B, 0, none⟩) hB).trans hcell
  have hBW : B < W.heap.size := Nat.lt_of_lt_of_le hB hb.size
  have hne : B ≠ W.heap.size := by omega
  clear hb hcell
  go_enter Try.func58, Try.ntmps58
  go_wp2
  go_ret
  exact ⟨rfl, (Below.refl _ _).alloc (Nat.le_refl _) _⟩

def placeP (may : Bool) (l : List V30) (n : Int) (soft : Bool) : Int × Int :=
  if may = false then (0, 8) else if idxP (fun x => x.f0 == n) l 0 < 0 then (0, 5) else if (rd_T30 l (idxP (fun x => x.f0 == n) l 0)).f2 ≠ soft then (0, 3) else (idxP (fun x => x.f0 == n) l 0, 0)

set_option maxHeartbeats 2000000 in
theorem place_any (a0 : ByteArray) (a1 : Int) (A : Option Addr) (c : Nat) (l : List V30) (n : Int) (soft : Bool) (w : World) (hr : Kd.C k30 w A l.length l) (hc : l.length ≤ c) (hbig : l.length ≤ 1048576) (hids : idsOk l = true) :
    Calls Try.prog 40 #[.agg #[.string a0, .int .i64 a1, .slice A l.length c], .int .i64 n, .bool soft] w fun e w' => e = .returned (.tuple #[.int .i64 (placeP (mayB a0 a1 l) l n soft).1, .int .i64 (placeP (mayB a0 a1 l) l n soft).2]) ∧ Below w.heap.size w w' := by
  have hcall := fun (W : World) (hb : Below w.heap.size w W) (hB : w.heap.size + 1 < W.heap.size) (hcell : W.cell? ⟨w.heap.size + 1, 0, none⟩ = some (.int .i64 n)) =>
    index_any 58 #[.pointer (some ⟨w.heap.size + 1, 0, none⟩)] (enters_of Try.func58 (by kernel_rfl) rfl) _ A c l W (Kd.C_below hr hb) hc hbig (pred_place n _ W hB hcell)
  have hmay := fun (W : World) (hb : Below w.heap.size w W) => may18_any a0 a1 A c l W (Kd.C_below hr hb) hc hbig hids
  have HR := Aside0.mk hr
  clear hr
  have hp : placeP (mayB a0 a1 l) l n soft = placeP (mayB a0 a1 l) l n soft := rfl
  conv at hp => rhs; unfold placeP
  have hrange := idxP_range (fun x => x.f0 == n) l 0
  generalize placeP (mayB a0 a1 l) l n soft = r at hp ⊢
  generalize idxP (fun x => x.f0 == n) l 0 = i at hp hrange hcall
  obtain ⟨r0, r1⟩ := r
  generalize mayB a0 a1 l = may at hp hmay
  have HP := Aside0.mk hp
  clear hp
  go_enter Try.func40, Try.ntmps40
  go_wp2_with fail
  have hb0 := ((Below.refl _ w).alloc (Nat.le_refl _) (.cells #[.string a0, .int .i64 a1, .slice A l.length c] 24)).alloc (by simp) (.cells #[.int .i64 n] 3)
  refine (hcall _ hb0 (by simp) (by go_simp)).mono ?_
  rintro e w1 ⟨rfl, hb⟩
  have hb1 := hb0.trans (hb.mono (by simp; omega))
  have hblk := blk_below (blk_alloc (blk_new w (.cells #[.string a0, .int .i64 a1, .slice A l.length c] 24)) (.cells #[.int .i64 n] 3)) hb
  obtain ⟨z0, z1, z2⟩ : w1.cell? ⟨w.heap.size, 0, none⟩ = some (.string a0) ∧ w1.cell? ⟨w.heap.size, 1, none⟩ = some (.int .i64 a1) ∧ w1.cell? ⟨w.heap.size, 2, none⟩ = some (.slice A l.length c) := ⟨blk_cell hblk 0, blk_cell hblk 1, blk_cell hblk 2⟩
  have HBLK := Aside0.mk hblk
  have HB1 := Aside0.mk hb1
  clear hb hb0 hb1 hblk hcall
  go_wp2_with fail
  refine (hmay _ HB1.out).mono ?_
  rintro e w2 ⟨rfl, hb⟩
  have hb2 := below_step HB1.out hb
  have hblk := blk_below HBLK.out hb
  clear z0 z1 z2 HBLK
  obtain ⟨z0, z1, z2⟩ : w2.cell? ⟨w.heap.size, 0, none⟩ = some (.string a0) ∧ w2.cell? ⟨w.heap.size, 1, none⟩ = some (.int .i64 a1) ∧ w2.cell? ⟨w.heap.size, 2, none⟩ = some (.slice A l.length c) := ⟨blk_cell hblk 0, blk_cell hblk 1, blk_cell hblk 2⟩
  have HBLK := Aside0.mk hblk
  have HB2 := Aside0.mk hb2
  clear hb hb2 hblk hmay
  cases may with
  | false =>
    have h8 : mayE false = 8 := rfl
    rw [h8]
    go_wp2
    go_ret2
    exact ⟨by have := HP.out; simp at this; obtain ⟨rfl, rfl⟩ := this; rfl, HB2.out⟩
  | true =>
    have h8 : mayE true = 0 := rfl
    rw [h8]
    by_cases hi : i < 0
    · have HI := Aside0.mk hi
      go_wp2
      go_ret2
      exact ⟨by have := HP.out; simp [HI.out] at this; obtain ⟨rfl, rfl⟩ := this; rfl, HB2.out⟩
    · have h0 : 0 ≤ i := by omega
      have h1 : i < (l.length : Int) := by omega
      have HI := Aside0.mk hi
      clear hi hrange
      obtain ⟨ad, rfl, c0, c1, c2⟩ := at_T30 (Kd.C_below HR.out HB2.out) i h0 h1
      generalize rd_T30 l i = y at HP c0 c1 c2
      obtain ⟨y0, y1, y2⟩ := y
      clear c0 c1
      cases y2 <;> cases soft
      all_goals
        go_wp2
        go_ret2
        exact ⟨by have := HP.out; rw [if_neg (by decide), if_neg (by omega)] at this; simp at this; obtain ⟨rfl, rfl⟩ := this; rfl, HB2.out⟩
end Go.Proofs.Ytkcjekboakoejaa.Print
