/- What the row's listed variables give to a walk: the cell of each sentinel holds an error. It stays so in every later world. -/
import Derived.Test.YtkcjekboakoejaaDoorPrint0
import Derived.Test.YtkcjekboakoejaaDoorRows
import Derived.LaidMore
import Derived.Lib.AtoiErrMem
import Derived.Lib.LaidTab
namespace Go.Proofs.YtkcjekboakoejaaDoor.Print
open Go.RowKit Go.Proofs.YtkcjekboakoejaaDoorW.PrintWords Go.Proofs.YtkcjekboakoejaaDoorW.PrintLast
set_option linter.unusedVariables false
set_option linter.unusedSimpArgs false

theorem laidVars_mem {P : Program} {w : World} : ∀ {l : List (String × DataW Unit)} {ps : List MemPlace}, DataW.LaidVars P w l ps → ∀ {n : String} {d : DataW Unit}, (n, d) ∈ l →
    ∃ g t cs fuel p, P.globalNamed n = some g ∧ (P.globals[g]?).map (·.type) = some t ∧ w.var? P n = some cs ∧ DataW.trod (fun _ => ()) P w 0 (fun _ => true) false fuel t cs.toList = some (d, p)
  | [], _, _, _, _, hm => by cases hm
  | (n0, d0) :: r, _, h, n, d, hm => by
    obtain ⟨g, t, cs, fuel, p, q, e1, e2, e3, e4, hr, rfl⟩ := h
    cases hm with
    | head => exact ⟨g, t, cs, fuel, p, e1, e2, e3, e4⟩
    | tail _ hm => exact laidVars_mem hr hm
theorem iface_of_trod {P : Program} {w : World} {fuel t : Nat} {ms : Array (String × TypeId)} {cs : List Value} {nm : String} {d : DataW Unit} {p : List MemPlace} (hi : P.underlying t = some (.interface ms))
    (h : DataW.trod (fun _ => ()) P w 0 (fun _ => true) false fuel t cs = some (.iface nm d, p)) : ∃ u v, cs = [.iface u v] := by
  cases fuel with
  | zero => simp [DataW.trod] at h
  | succ fuel =>
    simp only [DataW.trod, hi] at h
    split at h
    all_goals first
      | (simp at h; done)
      | exact ⟨_, _, rfl⟩
      | (simp_all; done)
/-- The sentinels' cells. -/
def Laid0 (w : World) : Prop := (∃ u v, w.cell? ⟨1, 0, none⟩ = some (.iface u v)) ∧ (∃ u v, w.cell? ⟨2, 0, none⟩ = some (.iface u v))
theorem Laid0.later {w w' : World} (h : Laid0 w) (hb : Below w.heap.size w w') : Laid0 w' := by
  obtain ⟨⟨u, v, h1⟩, ⟨u2, v2, h2⟩⟩ := h
  exact ⟨⟨u, v, (hb.cell (Lib.lt_of_cell h1)).trans h1⟩, ⟨u2, v2, (hb.cell (Lib.lt_of_cell h2)).trans h2⟩⟩
theorem sentinel_cell {P : Program} {w : World} {l : List (String × DataW Unit)} {n : String} {nm : String} {d : DataW Unit} {g t : Nat} {ms : Array (String × TypeId)} (h : laidMet P l w) (hm : (n, DataW.iface nm d) ∈ l)
    (hg : P.globalNamed n = some g) (ht : (P.globals[g]?).map (·.type) = some t) (hi : P.underlying t = some (.interface ms)) : ∃ u v, w.cell? ⟨g, 0, none⟩ = some (.iface u v) := by
  obtain ⟨ps, hl, _, _⟩ := h
  obtain ⟨g', t', cs, fuel, p, e1, e2, e3, e4⟩ := laidVars_mem hl hm
  obtain rfl := Option.some.inj (hg.symm.trans e1)
  obtain rfl := Option.some.inj (ht.symm.trans e2)
  obtain ⟨u, v, hc⟩ := iface_of_trod hi e4
  have := World.var?_cell hg e3 0
  obtain ⟨cs⟩ := cs
  subst hc
  exact ⟨u, v, by simpa using this⟩
/-- The row's condition gives it. -/
theorem laid0_of {w : World} {l : List (String × DataW Unit)} (h : laidMet Tryd.prog l w) (hm : ("strconv.ErrSyntax", Rows.laid_strconv_ErrSyntax) ∈ l ∧ ("strconv.ErrRange", Rows.laid_strconv_ErrRange) ∈ l) : Laid0 w :=
  ⟨sentinel_cell h hm.1 (by kernel_rfl) (by kernel_rfl) Tryd.underlying50, sentinel_cell h hm.2 (by kernel_rfl) (by kernel_rfl) Tryd.underlying50⟩
end Go.Proofs.YtkcjekboakoejaaDoor.Print
