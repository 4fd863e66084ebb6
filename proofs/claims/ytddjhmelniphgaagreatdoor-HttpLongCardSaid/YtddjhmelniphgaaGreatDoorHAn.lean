/- Proofs that stand often in the printed texts, by name: each is found where it stands. -/
import Derived.Test.YtddjhmelniphgaaGreatDoorPrint0
namespace Go.Proofs.YtddjhmelniphgaaGreatDoor.Print
set_option linter.unusedVariables false
theorem zy0 {p : Prop} (h : p := by repeat (with_reducible first | exact HB.out | apply below_alloc | apply pw_below_drewN | apply below_drew1)) : p := h
theorem zy1 {p : Prop} (h : p := by simp [Act.eval, Act.put]) : p := h
theorem zy2 {p : Prop} (h : p := by repeat (with_reducible first | exact Below.refl _ _ | apply pw_below_drewN | apply below_drew1)) : p := h
theorem zy3 {p : Prop} (h : p := by simp) : p := h
theorem zy4 {p : Prop} (h : p := by omega) : p := h
theorem zy5 {p : Prop} (h : p := by (try simp only [zX, zY, zZ]); first | done | rfl) : p := h
theorem zy6 {p : Prop} (h : p := by decide) : p := h
end Go.Proofs.YtddjhmelniphgaaGreatDoor.Print
