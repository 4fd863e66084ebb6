/- A row of bytes that a conversion of a text has made, and appends onto it. -/
import Derived.Test.YtkcjekboakoejaaHSUnhex
import Derived.ArgAppend
import Derived.Laws.IdiomCopy
namespace Go.Proofs.Ytkcjekboakoejaa.Print
open Go Go.RowKit Go.Proofs.YtkcjekboakoejaaW.PrintWords
set_option linter.unusedVariables false
set_option linter.unusedSimpArgs false

/-- The slice v holds the bytes xs, in a block from base on; none of its cells is frozen. -/
def RowB (W : World) (base : Nat) (v : Value) (xs : List UInt8) : Prop :=
  ∃ g cap, v = .slice (some ⟨g, 0, none⟩) xs.length cap ∧ base ≤ g ∧ g < W.heap.size ∧ xs.length ≤ cap ∧ (∀ j u, (encU xs)[j]? = some u → W.cell? ⟨g, j, none⟩ = some u) ∧ (∀ j, j < cap → (W.cell? ⟨g, j, none⟩).isSome = true ∧ W.frozen? ⟨g, j, none⟩ = false)
theorem encU_len (l : List UInt8) : (encU l).length = l.length := List.length_map _
theorem encU_app (a b : List UInt8) : encU (a ++ b) = encU a ++ encU b := List.map_append
theorem RowB.later {W W' : World} {base : Nat} {v : Value} {xs : List UInt8} (h : RowB W base v xs) (hb : Below W.heap.size W W') : RowB W' base v xs := by
  obtain ⟨g, cap, hv, hg, hlt, hl, hc, hf⟩ := h
  refine ⟨g, cap, hv, hg, Nat.lt_of_lt_of_le hlt hb.size, hl, fun j u hj => ?_, fun j hj => ?_⟩
  · rw [hb.cell (p := ⟨g, j, none⟩) hlt]; exact hc j u hj
  · rw [hb.cell (p := ⟨g, j, none⟩) hlt, hb.frozen (p := ⟨g, j, none⟩) hlt]; exact hf j hj
/-- What the conversion of a text leaves. -/
theorem rowB_conv (w : World) (s : ByteArray) : RowB (Lib.bytesWorld w 5 s) w.heap.size (.slice (some ⟨w.heap.size, 0, none⟩) s.size (grownCap w s.size 0 5)) s.data.toList := by
  have hn := Lib.bytesWorld_at_new w 5 s
  have hcs : (Lib.bytesCells w 5 s).size = s.size + (grownCap w s.size 0 5 - s.size) := by simp [Lib.bytesCells]
  have hge : s.size ≤ grownCap w s.size 0 5 := grownCap_ge _ _ _ _
  refine ⟨w.heap.size, grownCap w s.size 0 5, by simp, Nat.le_refl _, by simp [Lib.bytesWorld, World.freeze], by simpa using hge, fun j u hj => ?_, fun j hj => ?_⟩
  · have hjl : j < s.size := by
      have := (List.getElem?_eq_some_iff.1 hj).1
      rw [encU_len] at this; simpa using this
    rw [Lib.bytesWorld_cell w 5 s j hjl, ← hj]
    unfold encU
    rw [List.getElem?_map, List.getElem?_eq_getElem (by simpa using hjl)]
    simp [List.getD, List.getElem?_eq_getElem (show j < s.data.toList.length by simpa using hjl)]
  · refine ⟨?_, ?_⟩
    · simp only [World.cell?, hn]
      rw [Array.getElem?_eq_getElem (by rw [hcs]; omega)]; rfl
    · simp only [World.frozen?, hn]
      simp only [Bool.and_eq_false_iff, decide_eq_false_iff_not]
      left; rw [hcs]; omega
theorem setCells1 (w : World) (g o : Nat) (u : Value) : w.setCells g o [u] = w.setCell ⟨g, o, none⟩ u := rfl
theorem rowB_append {W : World} {ops : Array Oper} {rest : List Oper} {o : Oper} {a : Act} {Q : Exit → Act → World → Prop} (hgd : o.guard = none) (s x : Operand)
    (hop : o.op = Op.call { callee := Callee.builtin Builtin.append, args := #[s, x], argTypes := #[59, 59] }) {base : Nat} {v : Value} {xs : List UInt8} (hs : a.eval s = v) (h : RowB W base v xs)
    (ad : Addr) (c : Nat) (hx : a.eval x = .slice (some ad) 1 c) (b : UInt8) (hb : W.cell? ad = some (.int .u8 b.toNat)) (hl : xs.length ≤ 1048576) (hbs : base ≤ W.heap.size)
    (k : ∀ v' W', RowB W' base v' (xs ++ [b]) → Below base W W' → wpList Try.prog ops Q rest (a.put o.dst v') W') :
    wpList Try.prog ops Q (o :: rest) a W := by
  obtain ⟨i0, hi, hz0, hz1, hz2⟩ := info_parts bld_info
  obtain ⟨g, cap, rfl, hg, hlt, hlc, hc, hf⟩ := h
  have n0 : ∀ n : Nat, 0 + n * 1 = n := fun n => by omega
  refine wpList_append_arg W hgd s x 59 hop 5 i0 (.int .u8 0) 1 1 Try.underlying59 hi hz0 hz1 hz2 rfl (by decide) g 0 xs.length cap (encU xs) hs (by rw [encU_len]; omega) (fun j u hj => by rw [Nat.zero_add]; exact hc j u hj)
    ad 1 c [.int .u8 b.toNat] hx rfl ?_ ?_ ?_ ?_ ?_ ?_ ?_
  · intro j u hj
    match j, hj with
    | 0, hj => simp at hj; subst hj; simpa [Addr.add] using hb
  · intro u hu; simp at hu; subst hu; rfl
  · intro hcap j hj
    have hj0 : j = 0 := by simp at hj; omega
    subst hj0
    have := hf xs.length (by omega)
    simpa using this
  · unfold maxLen; omega
  · omega
  · intro hcap
    rw [n0, setCells1]
    have hsome := (hf xs.length (by omega)).1
    refine k _ _ ⟨g, cap, by simp, hg, by simpa [World.setCell] using hlt, by simpa using hcap, fun j u hj => ?_, fun j hj => ?_⟩ ((Below.refl _ W).setCell (p := ⟨g, xs.length, none⟩) hg _)
    · rw [encU_app] at hj
      by_cases hjl : j < xs.length
      · rw [List.getElem?_append_left (by rw [encU_len]; exact hjl)] at hj
        rw [World.cell?_setCell_other _ _ _ _ (by intro e; have := congrArg Addr.off e; simp at this; omega)]
        exact hc j u hj
      · have hje : j = xs.length := by
          have := (List.getElem?_eq_some_iff.1 hj).1
          rw [List.length_append, encU_len, encU_len] at this
          simp at this; omega
        subst hje
        rw [List.getElem?_append_right (by rw [encU_len]; exact Nat.le_refl _), encU_len, Nat.sub_self] at hj
        rw [World.cell?_setCell_same' _ _ _ hsome, ← hj]
        rfl
    · obtain ⟨h1, h2⟩ := hf j hj
      refine ⟨?_, by rw [World.frozen?_setCell]; exact h2⟩
      by_cases hjl : j = xs.length
      · subst hjl; rw [World.cell?_setCell_same' _ _ _ h1]; rfl
      · rw [World.cell?_setCell_other _ _ _ _ (by intro e; have := congrArg Addr.off e; simp at this; omega)]; exact h1
  · intro hcap v' W' hown hgr
    have hbw : Below base W W' := ⟨hgr.os, hgr.tape, hgr.output, hgr.size, fun k hk => hgr.block k (by omega) (by simp)⟩
    refine k v' W' ?_ hbw
    obtain ⟨g', cap', rfl, hg', hlt'⟩ := hown.form (by omega)
    have hlen : (xs ++ [b]).length = xs.length + 1 := by simp
    have hown' : W'.ownsRow W.heap.size 5 1 (.slice (some ⟨g', 0, none⟩) (xs.length + 1) cap') (xs.length + 1) (encU (xs ++ [b])) := by rw [encU_app]; exact hown
    refine ⟨g', cap', by rw [hlen], by omega, hlt', ?_, fun j u hj => ?_, fun j hj => ?_⟩
    · rcases hown'.2 with ⟨h0, _⟩ | ⟨g1, c1, cur, e1, _, _, e2, _⟩
      · cases h0
      · simp only [Value.slice.injEq] at e1
        rw [hlen, e1.2.2]; exact e2
    · have := hown'.cells (g := g') rfl j u hj
      rw [Addr.add_lit, Nat.zero_add] at this
      exact this
    · rcases hown'.2 with ⟨h0, _⟩ | ⟨g1, c1, cur, e1, _, hb1, e2, _, hsz, _⟩
      · cases h0
      · simp only [Value.slice.injEq, Option.some.injEq, Addr.mk.injEq] at e1
        obtain ⟨⟨rfl, _⟩, _, rfl⟩ := e1
        refine ⟨?_, by simp [World.frozen?, hb1]⟩
        simp only [World.cell?, hb1]
        rw [Array.getElem?_eq_getElem (by omega)]; rfl
end Go.Proofs.Ytkcjekboakoejaa.Print
