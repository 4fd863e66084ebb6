/- Proofs that stand often in the printed texts, by name: each is found where it stands. -/
import Derived.Test.YtddjhmelniphgaaGreatDoorPrint0
namespace Go.Proofs.YtddjhmelniphgaaGreatDoor.Print
set_option linter.unusedVariables false
theorem zz0 {p : Prop} (h : p := by first | (with_reducible assumption) | assumption) : p := h
theorem zz1 {p : Prop} (h : p := by first | rfl | (simp; done) | (simp; exact qEmp _) | (simp [*]; done)) : p := h
theorem zz2 {p : Prop} (h : p := by (try simp only [List.map_toArray, List.map_cons, List.map_nil]); first | done | rfl | (simp only [List.length_drop, List.length_take]; rfl)) : p := h
theorem zz3 {p : Prop} (h : p := by repeat (first | (with_reducible first | exact HB.out | apply qL | apply qJ | apply qK) | exact HB.out)) : p := h
theorem zz4 {p : Prop} (h : p := by repeat (first | (with_reducible first | exact HB.out | apply qL | apply qJ | apply qK | refine qI ?_ GE184.out | refine qI ?_ GE185.out) | exact HB.out)) : p := h
theorem zz5 {p : Prop} (h : p := by repeat (first | (with_reducible first | exact HB.out | apply qL | apply qJ | apply qK | refine qI ?_ GE177.out) | exact HB.out)) : p := h
theorem zz6 {p : Prop} (h : p := by (with_reducible repeat first | apply qA | apply qC | apply qB); exact BK184.out) : p := h
theorem zz7 {p : Prop} (h : p := by (with_reducible repeat first | apply qA | apply qC | apply qB); exact BK185.out) : p := h
theorem zz8 {p : Prop} (h : p := by (with_reducible repeat first | apply qA | apply qC | apply qB); exact BK177.out) : p := h
theorem zz9 {p : Prop} (h : p := by repeat (first | (with_reducible first | exact HB.out | apply qL | apply qJ | apply qK | refine qI ?_ GE164.out) | exact HB.out)) : p := h
theorem zz10 {p : Prop} (h : p := by (try simp only [zX, zY, zZ]); first | done | rfl | (simp only [zD, zE]; rfl)) : p := h
end Go.Proofs.YtddjhmelniphgaaGreatDoor.Print
