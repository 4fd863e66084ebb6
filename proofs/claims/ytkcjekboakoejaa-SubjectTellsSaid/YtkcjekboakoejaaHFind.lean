/- Contracts of subject.Find and subject.Has: the first version of a number; the first that lives of an id. -/
import Derived.Test.YtkcjekboakoejaaHVer
namespace Go.Proofs.Ytkcjekboakoejaa.Print
open Go.RowKit Go.Shelf Go.Proofs.YtkcjekboakoejaaW.PrintWords Go.Proofs.YtkcjekboakoejaaW.PrintLast
set_option linter.unusedVariables false
set_option linter.unusedSimpArgs false

/-- 'v.N == n', n in the cell ⟨B, 0⟩. -/
theorem pred_find (n : Int) (B : Nat) (w : World) (hB : B < w.heap.size) (hcell : w.cell? ⟨B, 0, none⟩ = some (.int .i64 n)) :
    PredV 44 #[.pointer (some ⟨B, 0, none⟩)] (fun x => x.f0 == n) w := fun W x hb => by
  have hc : W.cell? ⟨B, 0, none⟩ = some (.int .i64 n) := (hb.cell (p := ⟨B, 0, none⟩) hB).trans hcell
  have hBW : B < W.heap.size := Nat.lt_of_lt_of_le hB hb.size
  have hne : B ≠ W.heap.size := by omega
  clear hb hcell
  go_enter Try.func44, Try.ntmps44
  go_wp2
  go_ret
  exact ⟨rfl, (Below.refl _ _).alloc (Nat.le_refl _) _⟩

/-- '!v.Soft && v.ID == id', id in the cell ⟨B, 0⟩. -/
theorem pred_has (n : Int) (B : Nat) (w : World) (hB : B < w.heap.size) (hcell : w.cell? ⟨B, 0, none⟩ = some (.int .u32 n)) :
    PredV 45 #[.pointer (some ⟨B, 0, none⟩)] (fun x => !x.f2 && (x.f1 == n)) w := fun W x hb => by
  have hc : W.cell? ⟨B, 0, none⟩ = some (.int .u32 n) := (hb.cell (p := ⟨B, 0, none⟩) hB).trans hcell
  have hBW : B < W.heap.size := Nat.lt_of_lt_of_le hB hb.size
  have hne : B ≠ W.heap.size := by omega
  clear hb hcell
  obtain ⟨x0, x1, x2⟩ := x
  cases x2 with
  | true =>
    go_enter Try.func45, Try.ntmps45
    go_wp2
    go_ret
    exact ⟨rfl, (Below.refl _ _).alloc (Nat.le_refl _) _⟩
  | false =>
    go_enter Try.func45, Try.ntmps45
    go_wp2
    go_ret
    exact ⟨rfl, (Below.refl _ _).alloc (Nat.le_refl _) _⟩

set_option maxHeartbeats 1000000 in
theorem find_any (a0 : ByteArray) (a1 : Int) (A : Option Addr) (c : Nat) (l : List V30) (n : Int) (w : World) (hr : Kd.C k30 w A l.length l) (hc : l.length ≤ c) (hbig : l.length ≤ 1048576) :
    Calls Try.prog 21 #[.agg #[.string a0, .int .i64 a1, .slice A l.length c], .int .i64 n] w fun e w' => e = .returned (.tuple #[.agg #[.int .i64 (firstP (fun x => x.f0 == n) l).1.f0, .int .u32 (firstP (fun x => x.f0 == n) l).1.f1, .bool (firstP (fun x => x.f0 == n) l).1.f2], .bool (firstP (fun x => x.f0 == n) l).2]) ∧ Below w.heap.size w w' := by
  have hcall := fun (W : World) (hb : Below w.heap.size w W) (hB : w.heap.size + 1 < W.heap.size) (hcell : W.cell? ⟨w.heap.size + 1, 0, none⟩ = some (.int .i64 n)) =>
    first_any 44 #[.pointer (some ⟨w.heap.size + 1, 0, none⟩)] (enters_of Try.func44 (by kernel_rfl) rfl) _ A c l W (Kd.C_below hr hb) hc hbig (pred_find n _ W hB hcell)
  clear hr
  generalize firstP (fun x => x.f0 == n) l = r at hcall ⊢
  obtain ⟨⟨y0, y1, y2⟩, y3⟩ := r
  go_enter Try.func21, Try.ntmps21
  go_wp2_with fail
  have hb0 := ((((Below.refl _ w).alloc (Nat.le_refl _) (.cells #[.string a0, .int .i64 a1, .slice A l.length c] 24)).alloc (by simp) (.cells #[.int .i64 n] 3)).alloc (by simp; omega) (.cells #[.int .i64 0, .int .u32 0, .bool false] 30))
  refine (hcall _ hb0 (by simp) (by go_simp)).mono ?_
  rintro e w1 ⟨rfl, hb⟩
  have hb1 := hb0.trans (hb.mono (by simp; omega))
  have hblk := blk_below (blk_new _ (.cells #[.int .i64 0, .int .u32 0, .bool false] 30)) hb
  have hsz : ((w.alloc (.cells #[.string a0, .int .i64 a1, .slice A l.length c] 24)).alloc (.cells #[.int .i64 n] 3)).heap.size = w.heap.size + 1 + 1 := by simp
  rw [hsz] at hblk
  obtain ⟨z0, z1, z2⟩ : w1.cell? ⟨w.heap.size + 1 + 1, 0, none⟩ = some (.int .i64 0) ∧ w1.cell? ⟨w.heap.size + 1 + 1, 1, none⟩ = some (.int .u32 0) ∧ w1.cell? ⟨w.heap.size + 1 + 1, 2, none⟩ = some (.bool false) := ⟨blk_cell hblk 0, blk_cell hblk 1, blk_cell hblk 2⟩
  have f0 := blk_frozen hblk 0
  have f1 := blk_frozen hblk 1
  have f2 := blk_frozen hblk 2
  have HB0 := Aside0.mk hb1
  clear hb hb0 hb1 hblk hcall hsz
  go_wp2
  refine bodyPost_ret (v := .tuple #[.agg #[.int .i64 y0, .int .u32 y1, .bool y2], .bool y3]) ?_ rfl ?_
  · simp [results, Try.results21, go_sem, z0, z1, z2]
  · exact ⟨rfl, below_set (below_set (below_set HB0.out (by omega)) (by omega)) (by omega)⟩

set_option maxHeartbeats 1000000 in
theorem has_any (a0 : ByteArray) (a1 : Int) (A : Option Addr) (c : Nat) (l : List V30) (n : Int) (w : World) (hr : Kd.C k30 w A l.length l) (hc : l.length ≤ c) (hbig : l.length ≤ 1048576) :
    Calls Try.prog 23 #[.agg #[.string a0, .int .i64 a1, .slice A l.length c], .int .u32 n] w fun e w' => e = .returned (.tuple #[.agg #[.int .i64 (firstP (fun x => !x.f2 && (x.f1 == n)) l).1.f0, .int .u32 (firstP (fun x => !x.f2 && (x.f1 == n)) l).1.f1, .bool (firstP (fun x => !x.f2 && (x.f1 == n)) l).1.f2], .bool (firstP (fun x => !x.f2 && (x.f1 == n)) l).2]) ∧ Below w.heap.size w w' := by
  have hcall := fun (W : World) (hb : Below w.heap.size w W) (hB : w.heap.size + 1 < W.heap.size) (hcell : W.cell? ⟨w.heap.size + 1, 0, none⟩ = some (.int .u32 n)) =>
    first_any 45 #[.pointer (some ⟨w.heap.size + 1, 0, none⟩)] (enters_of Try.func45 (by kernel_rfl) rfl) _ A c l W (Kd.C_below hr hb) hc hbig (pred_has n _ W hB hcell)
  clear hr
  generalize firstP (fun x => !x.f2 && (x.f1 == n)) l = r at hcall ⊢
  obtain ⟨⟨y0, y1, y2⟩, y3⟩ := r
  go_enter Try.func23, Try.ntmps23
  go_wp2_with fail
  have hb0 := ((((Below.refl _ w).alloc (Nat.le_refl _) (.cells #[.string a0, .int .i64 a1, .slice A l.length c] 24)).alloc (by simp) (.cells #[.int .u32 n] 25)).alloc (by simp; omega) (.cells #[.int .i64 0, .int .u32 0, .bool false] 30))
  refine (hcall _ hb0 (by simp) (by go_simp)).mono ?_
  rintro e w1 ⟨rfl, hb⟩
  have hb1 := hb0.trans (hb.mono (by simp; omega))
  have hblk := blk_below (blk_new _ (.cells #[.int .i64 0, .int .u32 0, .bool false] 30)) hb
  have hsz : ((w.alloc (.cells #[.string a0, .int .i64 a1, .slice A l.length c] 24)).alloc (.cells #[.int .u32 n] 25)).heap.size = w.heap.size + 1 + 1 := by simp
  rw [hsz] at hblk
  obtain ⟨z0, z1, z2⟩ : w1.cell? ⟨w.heap.size + 1 + 1, 0, none⟩ = some (.int .i64 0) ∧ w1.cell? ⟨w.heap.size + 1 + 1, 1, none⟩ = some (.int .u32 0) ∧ w1.cell? ⟨w.heap.size + 1 + 1, 2, none⟩ = some (.bool false) := ⟨blk_cell hblk 0, blk_cell hblk 1, blk_cell hblk 2⟩
  have f0 := blk_frozen hblk 0
  have f1 := blk_frozen hblk 1
  have f2 := blk_frozen hblk 2
  have HB0 := Aside0.mk hb1
  clear hb hb0 hb1 hblk hcall hsz
  go_wp2
  refine bodyPost_ret (v := .tuple #[.agg #[.int .i64 y0, .int .u32 y1, .bool y2], .bool y3]) ?_ rfl ?_
  · simp [results, Try.results23, go_sem, z0, z1, z2]
  · exact ⟨rfl, below_set (below_set (below_set HB0.out (by omega)) (by omega)) (by omega)⟩

def subject_Find.f (a0_0 : ByteArray) (a0_1 : Int) (l0_2 : List V30) (a1 : Int) : Option (Int × Int × Bool × Bool) :=
  if l0_2.length ≤ 1048576 then some ((firstP (fun x => x.f0 == a1) l0_2).1.f0, (firstP (fun x => x.f0 == a1) l0_2).1.f1, (firstP (fun x => x.f0 == a1) l0_2).1.f2, (firstP (fun x => x.f0 == a1) l0_2).2) else none
def subject_Has.f (a0_0 : ByteArray) (a0_1 : Int) (l0_2 : List V30) (a1 : Int) : Option (Int × Int × Bool × Bool) :=
  if l0_2.length ≤ 1048576 then some ((firstP (fun x => !x.f2 && (x.f1 == a1)) l0_2).1.f0, (firstP (fun x => !x.f2 && (x.f1 == a1)) l0_2).1.f1, (firstP (fun x => !x.f2 && (x.f1 == a1)) l0_2).1.f2, (firstP (fun x => !x.f2 && (x.f1 == a1)) l0_2).2) else none
end Go.Proofs.Ytkcjekboakoejaa.Print
