/- What the row's listed variables give to a walk: the cell of each sentinel holds an error. It stays so in every later world. -/
import Derived.Test.YtddjhmelniphgaaGreatDoorPrint0
import Derived.Test.YtddjhmelniphgaaGreatDoorRows
import Derived.LaidMore
import Derived.Lib.AtoiErrMem
import Derived.Lib.LaidTab
import Derived.Lib.AppendIntMem
import Derived.Shelf.Vars
import Derived.Test.YtddjhmelniphgaaGreatDoorHSeq
namespace Go.Proofs.YtddjhmelniphgaaGreatDoor.Print
open Go.RowKit Go.Proofs.YtddjhmelniphgaaGreatDoorW.PrintWords Go.Proofs.YtddjhmelniphgaaGreatDoorW.PrintLast
set_option linter.unusedVariables false
set_option linter.unusedSimpArgs false

theorem laidVars_mem {P : Program} {w : World} : ∀ {l : List (String × DataW Unit)} {ps : List MemPlace}, DataW.LaidVars P w l ps → ∀ {n : String} {d : DataW Unit}, (n, d) ∈ l →
    ∃ g t cs fuel p, P.globalNamed n = some g ∧ (P.globals[g]?).map (·.type) = some t ∧ w.var? P n = some cs ∧ DataW.trod (fun _ => ()) P w 0 (fun _ => true) false fuel t cs.toList = some (d, p)
  | [], _, _, _, _, hm => by cases hm
  | (n0, d0) :: r, _, h, n, d, hm => by
    obtain ⟨g, t, cs, fuel, p, q, e1, e2, e3, e4, hr, rfl⟩ := h
    cases hm with
    | head => exact ⟨g, t, cs, fuel, p, e1, e2, e3, e4⟩
    | tail _ hm => exact laidVars_mem hr hm
theorem iface_of_trod {P : Program} {w : World} {fuel t : Nat} {ms : Array (String × TypeId)} {cs : List Value} {nm : String} {d : DataW Unit} {p : List MemPlace} (hi : P.underlying t = some (.interface ms))
    (h : DataW.trod (fun _ => ()) P w 0 (fun _ => true) false fuel t cs = some (.iface nm d, p)) : ∃ u v, cs = [.iface u v] := by
  cases fuel with
  | zero => simp [DataW.trod] at h
  | succ fuel =>
    simp only [DataW.trod, hi] at h
    split at h
    all_goals first
      | (simp at h; done)
      | exact ⟨_, _, rfl⟩
      | (simp_all; done)
/-- What walks ask of the library's variables: MaxLen holds a number, the sentinels' cells hold errors, the table of powers of ten is laid. -/
structure Laid0 (w : World) : Prop where
  max : ∃ m, w.cell? ⟨0, 0, none⟩ = some (.int .i64 m)
  syn : ∃ u v, w.cell? ⟨1, 0, none⟩ = some (.iface u v)
  rng : ∃ u v, w.cell? ⟨2, 0, none⟩ = some (.iface u v)
  pow : Lib.TabIs Tryz.prog w "internal/strconv.uint64pow10" .u64 Lib.pow10Tab
theorem Laid0.later {w w' : World} (h : Laid0 w) (hb : Below w.heap.size w w') : Laid0 w' := by
  obtain ⟨⟨m, h0⟩, ⟨u, v, h1⟩, ⟨u2, v2, h2⟩, h3⟩ := h
  exact ⟨⟨m, (hb.cell (Lib.lt_of_cell h0)).trans h0⟩, ⟨u, v, (hb.cell (Lib.lt_of_cell h1)).trans h1⟩, ⟨u2, v2, (hb.cell (Lib.lt_of_cell h2)).trans h2⟩, Lib.tabBelow_of_tabIs h3 w' hb⟩
theorem pow_global : Tryz.prog.globalNamed "internal/strconv.uint64pow10" = some 4 := by kernel_rfl
theorem pow_lt {w : World} (h : Lib.TabIs Tryz.prog w "internal/strconv.uint64pow10" .u64 Lib.pow10Tab) : 4 < w.heap.size := by
  have := h.cell pow_global 0 (by rw [Lib.pow10Tab_length]; decide)
  exact Lib.lt_of_cell this
theorem Laid0.lt {w : World} (h : Laid0 w) : 0 < w.heap.size ∧ 1 < w.heap.size ∧ 2 < w.heap.size ∧ 4 < w.heap.size := by
  obtain ⟨⟨m, h0⟩, ⟨u, v, h1⟩, ⟨u2, v2, h2⟩, h3⟩ := h
  exact ⟨Lib.lt_of_cell h0, Lib.lt_of_cell h1, Lib.lt_of_cell h2, pow_lt h3⟩
/-- They stay where their four blocks stay. -/
theorem Laid0.same {w w' : World} (h : Laid0 w) (hb : ∀ k, k = 0 ∨ k = 1 ∨ k = 2 ∨ k = 4 → w'.heap[k]? = w.heap[k]?) : Laid0 w' := by
  obtain ⟨⟨m, h0⟩, ⟨u, v, h1⟩, ⟨u2, v2, h2⟩, h3⟩ := h
  refine ⟨⟨m, (World.cell?_of_block (hb _ (.inl rfl))).trans h0⟩, ⟨u, v, (World.cell?_of_block (hb _ (.inr (.inl rfl)))).trans h1⟩, ⟨u2, v2, (World.cell?_of_block (hb _ (.inr (.inr (.inl rfl))))).trans h2⟩, ?_⟩
  unfold Lib.TabIs World.var? at h3 ⊢
  rw [pow_global, Option.bind_some] at h3 ⊢
  rw [hb _ (.inr (.inr (.inr rfl)))]
  exact h3
/-- They stay where all old blocks but one later one stay. -/
theorem Laid0.old {w0 w w' : World} (h0 : Laid0 w0) (h : Laid0 w) (hb : ∀ k, k < w0.heap.size → w'.heap[k]? = w.heap[k]?) : Laid0 w' := by
  have hl := h0.lt
  refine h.same fun k hk => hb k ?_
  rcases hk with rfl | rfl | rfl | rfl
  · exact hl.1
  · exact hl.2.1
  · exact hl.2.2.1
  · exact hl.2.2.2
theorem sentinel_cell {P : Program} {w : World} {l : List (String × DataW Unit)} {n : String} {nm : String} {d : DataW Unit} {g t : Nat} {ms : Array (String × TypeId)} (h : laidMet P l w) (hm : (n, DataW.iface nm d) ∈ l)
    (hg : P.globalNamed n = some g) (ht : (P.globals[g]?).map (·.type) = some t) (hi : P.underlying t = some (.interface ms)) : ∃ u v, w.cell? ⟨g, 0, none⟩ = some (.iface u v) := by
  obtain ⟨ps, hl, _, _⟩ := h
  obtain ⟨g', t', cs, fuel, p, e1, e2, e3, e4⟩ := laidVars_mem hl hm
  obtain rfl := Option.some.inj (hg.symm.trans e1)
  obtain rfl := Option.some.inj (ht.symm.trans e2)
  obtain ⟨u, v, hc⟩ := iface_of_trod hi e4
  have := World.var?_cell hg e3 0
  obtain ⟨cs⟩ := cs
  subst hc
  exact ⟨u, v, by simpa using this⟩
theorem tab_cell {P : Program} {W : World} {l : List (String × DataW Unit)} {name : String} {k : IntKind} {zs : List Int} {g : Nat} {t e : TypeId} {n : Nat} (h : laidMet P l W) (hm : (name, Lib.tabData k zs) ∈ l)
    (hg : P.globalNamed name = some g) (hty : (P.globals[g]?).map (·.type) = some t) (ht : P.underlying t = some (.array n e)) (he : P.underlying e = some (.int k)) (hce : P.cellsOf e = 1) (hct : P.cellsOf t = n) : Lib.TabIs P W name k zs := by
  obtain ⟨ps, hl, _, _⟩ := h
  obtain ⟨g', t', cs, fuel, p, hg', ht', hvar, hd⟩ := laidVars_mem hl hm
  obtain rfl := Option.some.inj (hg.symm.trans hg')
  obtain rfl := Option.some.inj (hty.symm.trans ht')
  unfold Lib.TabIs
  rw [hvar, ← Lib.cells_of_tab ht he hce hct hd]
/-- The row's condition gives it. -/
theorem laid0_of {w : World} {l : List (String × DataW Unit)} (h : laidMet Tryz.prog l w) (hs : w.ShapedOpen Tryz.prog) (hm : ("strconv.ErrSyntax", Rows.laid_strconv_ErrSyntax) ∈ l ∧ ("strconv.ErrRange", Rows.laid_strconv_ErrRange) ∈ l ∧ ("internal/strconv.uint64pow10", Rows.laid_internal_strconv_uint64pow10) ∈ l) : Laid0 w :=
  ⟨Go.Proofs.cell_of_shapedOpen_int (zero := #[.int .i64 0]) (t := 3) hs (of_decide_eq_true (by kernel_rfl)) (by kernel_rfl) (by kernel_rfl) (by kernel_rfl) (by kernel_rfl) Tryz.underlying3,
   sentinel_cell h hm.1 (by kernel_rfl) (by kernel_rfl) Tryz.underlying81, sentinel_cell h hm.2.1 (by kernel_rfl) (by kernel_rfl) Tryz.underlying81,
   tab_cell (zs := Lib.pow10Tab) (t := 171) (e := 79) (n := 20) h hm.2.2 pow_global (by kernel_rfl) (by kernel_rfl) (by kernel_rfl) (by kernel_rfl) (by kernel_rfl)⟩
end Go.Proofs.YtddjhmelniphgaaGreatDoor.Print
