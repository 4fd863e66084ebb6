/- Which texts are tokens, values of headers, targets: the predicates that http hands to strings.ContainsFunc. -/
import Derived.Test.YtddjhmelniphgaaGreatDoorPrint0
import Derived.Test.YtddjhmelniphgaaGreatDoorHShelf
import Derived.Test.YtddjhmelniphgaaGreatDoorHSq
namespace Go.Proofs.YtddjhmelniphgaaGreatDoor.Print
open Go.RowKit Go.Shelf Go.Lib Go.Proofs.YtddjhmelniphgaaGreatDoorW.PrintWords Go.Proofs.YtddjhmelniphgaaGreatDoorW.PrintLast
set_option linter.unusedVariables false
set_option linter.unusedSimpArgs false
def tokL : List UInt8 := [33, 35, 36, 37, 38, 39, 42, 43, 45, 46, 94, 95, 96, 124, 126]
def oddT (r : Nat) : Bool := !(decide (97 ≤ r) && decide (r ≤ 122) || decide (65 ≤ r) && decide (r ≤ 90) || decide (48 ≤ r) && decide (r ≤ 57) || decide (r < 127) && decide (0 ≤ Lib.indexByte tokL r.toUInt8))
def oddV (r : Nat) : Bool := (decide (r < 32) || decide (126 < r)) && decide (r ≠ 9)
def oddG (r : Nat) : Bool := decide (r < 33) || decide (126 < r)
theorem oddV_closure (w : World) : PredAt Tryz.prog 71 #[] encR oddV w := fun W r _ => by
  unfold FnGives
  rcases (by omega : r < 9 ∨ r = 9 ∨ (10 ≤ r ∧ r < 32) ∨ (32 ≤ r ∧ r ≤ 126) ∨ 126 < r) with h | h | ⟨h, h'⟩ | ⟨h, h'⟩ | h
  all_goals
    have hb : oddV r = oddV r := rfl
    conv at hb => rhs; simp only [oddV]
    have HB := Aside0.mk hb
    clear hb
    go_enter Tryz.func71, Tryz.ntmps71
    go_wp2
    all_goals first | (exfalso; omega) | (go_ret; refine ⟨?_, 0, rfl⟩; rw [HB.out]; refine congrArg (fun b => Ending.returned (.bool b)) ?_; rw [Bool.eq_iff_iff]; (first | (simp; done) | (simp; omega)))
theorem oddG_closure (w : World) : PredAt Tryz.prog 64 #[] encR oddG w := fun W r _ => by
  unfold FnGives
  rcases (by omega : r < 33 ∨ (33 ≤ r ∧ r ≤ 126) ∨ 126 < r) with h | ⟨h, h'⟩ | h
  all_goals
    have hb : oddG r = oddG r := rfl
    conv at hb => rhs; simp only [oddG]
    have HB := Aside0.mk hb
    clear hb
    go_enter Tryz.func64, Tryz.ntmps64
    go_wp2
    all_goals first | (exfalso; omega) | (go_ret; refine ⟨?_, 0, rfl⟩; rw [HB.out]; refine congrArg (fun b => Ending.returned (.bool b)) ?_; rw [Bool.eq_iff_iff]; (first | (simp; done) | (simp; omega)))
theorem tok_index (r : Nat) (hr : r < 127) (w : World) : Calls Tryz.prog 57 #[.string ⟨#[33, 35, 36, 37, 38, 39, 42, 43, 45, 46, 94, 95, 96, 124, 126]⟩, .int .u8 r] w fun e w' => e = .returned (.int .i64 (Lib.indexByte tokL r.toUInt8)) ∧ w' = w :=
  Tryz.strings_IndexByte ⟨#[33, 35, 36, 37, 38, 39, 42, 43, 45, 46, 94, 95, 96, 124, 126]⟩ r w
set_option maxHeartbeats 1000000 in
set_option maxRecDepth 100000 in
theorem oddT_closure (w : World) : PredAt Tryz.prog 62 #[] encR oddT w := fun W r _ => by
  unfold FnGives
  have hb : oddT r = oddT r := rfl
  conv at hb => rhs; simp only [oddT]
  have hI := tok_index r
  generalize Lib.indexByte tokL r.toUInt8 = ix at hb hI
  have HB := Aside0.mk hb
  clear hb
  rcases (by omega : 0 ≤ ix ∨ ix < 0) with hx | hx
  all_goals
    rcases (by omega : r < 48 ∨ (48 ≤ r ∧ r ≤ 57) ∨ (58 ≤ r ∧ r ≤ 64) ∨ (65 ≤ r ∧ r ≤ 90) ∨ (91 ≤ r ∧ r ≤ 96) ∨ (97 ≤ r ∧ r ≤ 122) ∨ (123 ≤ r ∧ r < 127) ∨ 127 ≤ r) with h | ⟨h, h'⟩ | ⟨h, h'⟩ | ⟨h, h'⟩ | ⟨h, h'⟩ | ⟨h, h'⟩ | ⟨h, h'⟩ | h
  all_goals
    go_enter Tryz.func62, Tryz.ntmps62
    go_wp2_with (go_at_call 57; refine (hI (by omega) _).mono ?_; rintro e w' ⟨rfl, rfl⟩)
    all_goals first | (exfalso; omega) | (go_ret; refine ⟨?_, 0, rfl⟩; rw [HB.out]; refine congrArg (fun b => Ending.returned (.bool b)) ?_; rw [Bool.eq_iff_iff]; (first | (simp; done) | (simp; omega)))
end Go.Proofs.YtddjhmelniphgaaGreatDoor.Print
