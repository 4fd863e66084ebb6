/- Contract of http.decoded. -/
import Derived.Test.YtddjhmelniphgaaGreatDoorHTRead
import Derived.Test.YtddjhmelniphgaaGreatDoorHTPu
import Derived.Test.YtddjhmelniphgaaGreatDoorHBld
namespace Go.Proofs.YtddjhmelniphgaaGreatDoor.Print
open Go Go.RowKit Go.Proofs.YtddjhmelniphgaaGreatDoorW.PrintWords Go.Proofs.YtddjhmelniphgaaGreatDoorW.PrintLast
set_option linter.unusedVariables false
set_option linter.unusedSimpArgs false
attribute [local go_sem] Oper.semAt_some
/-! ### in plain words -/
def stepD (x : Nat × List UInt8) (acc : List UInt8) : Option (List UInt8) :=
  if x.1 = 0 then some (acc ++ x.2) else if x.2.length < 2 then none else match hexFrom 0 (x.2.take 2) with
    | none => none
    | some n => some (acc ++ [UInt8.ofNat n] ++ x.2.drop 2)
def runD : List (Nat × List UInt8) → List UInt8 → Option (List UInt8)
  | [], acc => some acc
  | x :: r, acc => (stepD x acc).bind (runD r)
theorem runD_snoc (x : Nat × List UInt8) : ∀ (l : List (Nat × List UInt8)) (acc : List UInt8), runD (l ++ [x]) acc = (runD l acc).bind (stepD x)
  | [], acc => by simp [runD]
  | y :: r, acc => by
    simp only [List.cons_append, runD]
    cases stepD y acc with
    | none => rfl
    | some s => simp [runD_snoc x r]
theorem runD_none {x : Nat × List UInt8} {r : List (Nat × List UInt8)} {s : List UInt8} (hx : stepD x s = none) : ∀ (l : List (Nat × List UInt8)) (acc : List UInt8), runD l acc = some s → runD (l ++ x :: r) acc = none
  | [], acc, h => by simp [runD] at h; subst h; simp [runD, hx]
  | y :: l, acc, h => by
    simp only [runD, List.cons_append] at h ⊢
    cases hy : stepD y acc with
    | none => rfl
    | some t => rw [hy] at h; exact runD_none hx l t h
/-- A text in which each % and two digits are a byte. -/
def decL (s : List UInt8) : Option (List UInt8) := runD (enumL 0 (partsL [37] s.length s)) []
def decPost (s : List UInt8) (w : World) (e : Ending) (w' : World) : Prop := Below w.heap.size w w' ∧ match decL s with
  | none => e = .panicked (oops 291)
  | some l => e = .returned (.string (bs l))
theorem hexD_lt {c d : Nat} (h : hexD c = some d) : d ≤ 15 := by
  unfold hexD at h
  repeat' split at h
  all_goals first | (injection h with h; omega) | cases h
theorem hex_two_lt {l : List UInt8} {n : Nat} (hl : l.length = 2) (h : hexFrom 0 l = some n) : n < 256 := by
  match l, hl with
  | [a, b], _ =>
    simp only [hexFrom] at h
    cases ha : hexD a.toNat with
    | none => rw [ha] at h; cases h
    | some x =>
      rw [ha] at h
      cases hb : hexD b.toNat with
      | none => rw [hb] at h; cases h
      | some y =>
        rw [hb] at h
        simp only [Option.bind_some] at h
        have := hexD_lt ha
        have := hexD_lt hb
        injection h with h
        omega
theorem stepD_le {x : Nat × List UInt8} {acc r : List UInt8} (h : stepD x acc = some r) : r.length ≤ acc.length + x.2.length := by
  unfold stepD at h
  repeat' split at h
  all_goals first | (injection h with h; subst h; simp <;> omega) | cases h
theorem bk_keeps {R b : Nat} {l : List UInt8} {W W' : World} (hb : Bld R b l W) (h : BKept R b W W') : KeepsOthers W W' :=
  ⟨h.size, fun k o hk hc => (h.block k (Array.getElem?_eq_some_iff.1 hk).1 (fun e => by
    obtain ⟨p, v, _, h2, _⟩ := hb
    subst e; rw [hk] at h2; cases h2; cases hc) (.inr (fun c fz e => by rw [hk] at e; cases e; cases hc))).trans hk⟩
theorem Bld.calm {R b B n : Nat} {l : List UInt8} {W W' : World} (h : Bld R b l W) (hc : Calm B n W W') (hB : b ≠ B) (hBR : B < R) : Bld R b l W' := by
  obtain ⟨p, v, hp, hk, hown⟩ := h
  refine ⟨p, v, hp, hc.cells _ _ hk rfl hB, hown.1, ?_⟩
  rcases hown.2 with h | ⟨g, cap, cur, fz, h1, h2, h3, h4⟩
  · exact .inl h
  · exact .inr ⟨g, cap, cur, fz, h1, h2, hc.cells _ _ h3 rfl (by omega), h4⟩
end Go.Proofs.YtddjhmelniphgaaGreatDoor.Print
