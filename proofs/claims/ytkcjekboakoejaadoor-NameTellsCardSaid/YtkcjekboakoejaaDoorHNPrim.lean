/- Contracts of name.Simple, Full, Primitive and of strings.Contains at one byte, as the printed texts take them. -/
import Derived.Test.YtkcjekboakoejaaDoorHNFull
namespace Go.Proofs.YtkcjekboakoejaaDoor.Print
open Go Go.RowKit Go.Shelf Go.Proofs.YtkcjekboakoejaaDoorW.PrintWords Go.Proofs.YtkcjekboakoejaaDoorW.PrintLast
set_option linter.unusedVariables false
set_option linter.unusedSimpArgs false

def prims : List ByteArray := [⟨#[110, 117, 108, 108]⟩, ⟨#[98, 111, 111, 108, 101, 97, 110]⟩, ⟨#[105, 110, 116]⟩, ⟨#[108, 111, 110, 103]⟩, ⟨#[102, 108, 111, 97, 116]⟩, ⟨#[100, 111, 117, 98, 108, 101]⟩, ⟨#[98, 121, 116, 101, 115]⟩, ⟨#[115, 116, 114, 105, 110, 103]⟩]
theorem prim_any (s : ByteArray) (w : World) : Calls Tryd.prog 18 #[.string s] w fun e w' => e = .returned (.bool (Lib.containsS prims s)) ∧ Below w.heap.size w w' := by
  have hcell : ∀ W : World, W.heap[w.heap.size]? = some (.cells #[.string ⟨#[110, 117, 108, 108]⟩, .string ⟨#[98, 111, 111, 108, 101, 97, 110]⟩, .string ⟨#[105, 110, 116]⟩, .string ⟨#[108, 111, 110, 103]⟩, .string ⟨#[102, 108, 111, 97, 116]⟩, .string ⟨#[100, 111, 117, 98, 108, 101]⟩, .string ⟨#[98, 121, 116, 101, 115]⟩, .string ⟨#[115, 116, 114, 105, 110, 103]⟩] 9 (0, 0)) →
      Calls Tryd.prog 42 #[.slice (some ⟨w.heap.size, 0, none⟩) 8 8, .string s] W fun e w' => e = .returned (.bool (Lib.containsS prims s)) ∧ w' = W := fun W hW =>
    Tryd.slices_Contains_string w.heap.size 0 8 8 prims s W (Nat.le_refl _) (by decide) (fun j hj => by
      have : j < 8 := hj
      have h := blk_cell hW j
      rw [Nat.zero_add]
      refine h.trans ?_
      rcases (by omega : j = 0 ∨ j = 1 ∨ j = 2 ∨ j = 3 ∨ j = 4 ∨ j = 5 ∨ j = 6 ∨ j = 7) with rfl | rfl | rfl | rfl | rfl | rfl | rfl | rfl <;> rfl)
  have hb := blk_new w (.cells #[.string ⟨#[110, 117, 108, 108]⟩, .string ⟨#[98, 111, 111, 108, 101, 97, 110]⟩, .string ⟨#[105, 110, 116]⟩, .string ⟨#[108, 111, 110, 103]⟩, .string ⟨#[102, 108, 111, 97, 116]⟩, .string ⟨#[100, 111, 117, 98, 108, 101]⟩, .string ⟨#[98, 121, 116, 101, 115]⟩, .string ⟨#[115, 116, 114, 105, 110, 103]⟩] 9)
  have h := hcell _ hb
  clear hcell hb
  generalize Lib.containsS prims s = b at h
  go_enter Tryd.func18, Tryd.ntmps18
  go_wp2_with (go_at_call 42; refine h.mono ?_; rintro e w' ⟨rfl, rfl⟩)
  go_ret
  exact ⟨rfl, (Below.refl _ w).alloc (Nat.le_refl _) _⟩

def strings_Contains.f (a0 : ByteArray) (a1 : ByteArray) : Option (Bool) := match a1.data.toList with | [c] => some (decide (0 ≤ Lib.indexByte a0.data.toList c)) | _ => none
theorem strings_Contains.calls (a0 : ByteArray) (a1 : ByteArray) (r : Bool) (w : World) (h : strings_Contains.f a0 a1 = some r) :
    Calls Tryd.prog 38 #[.string a0, .string a1] w fun e w' => e = .returned (.bool r) ∧ Drawn0 w w' := by
  unfold strings_Contains.f at h
  obtain ⟨⟨l⟩⟩ := a1
  match l, h with
  | [c], h =>
    obtain rfl := Option.some.inj h
    refine (Tryd.strings_Contains_one a0 c w).mono ?_
    rintro e w' ⟨rfl, rfl⟩
    exact ⟨rfl, 0, rfl⟩
def name_Simple.f (a0 : ByteArray) : Option (Bool) := some (simpleB a0)
theorem name_Simple.calls (a0 : ByteArray) (r : Bool) (w : World) (h : name_Simple.f a0 = some r) :
    Calls Tryd.prog 14 #[.string a0] w fun e w' => e = .returned (.bool r) ∧ Below w.heap.size w w' := by
  obtain rfl := Option.some.inj h
  exact simple_any a0 w
def name_Full.f (a0 : ByteArray) : Option (Bool) := if a0.size ≤ 140737488351232 then some (fullB a0) else none
theorem name_Full.calls (a0 : ByteArray) (r : Bool) (w : World) (h : name_Full.f a0 = some r) :
    Calls Tryd.prog 16 #[.string a0] w fun e w' => e = .returned (.bool r) ∧ Below w.heap.size w w' := by
  unfold name_Full.f at h
  split at h
  · rename_i hs
    obtain rfl := Option.some.inj h
    exact full_any a0 hs w
  · cases h
def name_Primitive.f (a0 : ByteArray) : Option (Bool) := some (Lib.containsS prims a0)
theorem name_Primitive.calls (a0 : ByteArray) (r : Bool) (w : World) (h : name_Primitive.f a0 = some r) :
    Calls Tryd.prog 18 #[.string a0] w fun e w' => e = .returned (.bool r) ∧ Below w.heap.size w w' := by
  obtain rfl := Option.some.inj h
  exact prim_any a0 w
end Go.Proofs.YtkcjekboakoejaaDoor.Print
