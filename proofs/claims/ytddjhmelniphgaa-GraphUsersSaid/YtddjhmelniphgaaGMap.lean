/- Maps whose keys are nodes: their entries as a list; what is asked of them, what is stored. -/
import Derived.Test.YtddjhmelniphgaaPrint0
import Derived.Maps.OwnOps
import Derived.Maps.OwnSet
import Derived.DeepKeys4
namespace Go.Proofs.Ytddjhmelniphgaa.Print
open Go Go.RowKit Go.Maps Go.ChangeMaps Go.Proofs.YtddjhmelniphgaaW.PrintWords Go.Proofs.YtddjhmelniphgaaW.PrintLast
set_option linter.unusedVariables false
set_option linter.unusedSimpArgs false
set_option linter.unusedSectionVars false

abbrev Nd := S24
abbrev Us := S40
instance : DecidableEq Nd := fun a b => match a, b with
  | ⟨a0, a1⟩, ⟨b0, b1⟩ => if h : a0 = b0 ∧ a1 = b1 then isTrue (by rw [h.1, h.2]) else isFalse (fun e => h (by injection e with e1 e2; exact ⟨e1, e2⟩))
def encN (x : Nd) : Value := .agg #[.string x.f0, .int .i64 x.f1]
/-- A node that may be a key: its parts are of their kinds. -/
def okN (x : Nd) : Prop := x.f0.size ≤ maxLen ∧ (Lit.int .i64 x.f1).wf = true
theorem encN_inj {x y : Nd} (h : encN x = encN y) : x = y := by
  obtain ⟨x0, x1⟩ := x
  obtain ⟨y0, y1⟩ := y
  simp [encN] at h
  rw [h.1, h.2]
theorem keyedN : Keyed Try.prog 24 := Keyed.of_law (deep_law_laid (by kernel_rfl) (m := 3) (by omega) (of_decide_eq_true (by kernel_rfl)) (by kernel_rfl) (by kernel_rfl))
theorem keyN {x : Nd} (h : okN x) : ∃ l, keyOf Try.prog 24 (encN x) = some l := by
  have h1 : Try.prog.keyType 24 = true := by kernel_rfl
  have h2 : (encN x).formed Try.prog 24 = true := by
    unfold encN Value.formed
    simp [Try.underlying24]
    kernel_rfl
  have h4 : Try.prog.types.size - 1 + 1 = Try.prog.types.size := by kernel_rfl
  have h3 : ∃ n, Try.prog.types.size = n + 1 := ⟨Try.prog.types.size - 1, h4.symm⟩
  have c0 : Try.prog.cellsOf 24 = 2 := by kernel_rfl
  have c1 : Try.prog.cellsOf 9 = 1 := by kernel_rfl
  have c2 : Try.prog.cellsOf 3 = 1 := by kernel_rfl
  obtain ⟨n, hn⟩ := h3
  unfold keyOf
  rw [Try.underlying24]
  simp only [h1, h2, Bool.and_self, if_true, hn]
  have e : (encN x).cells.toList = [.string x.f0, .int .i64 x.f1] := rfl
  rw [e]
  simp [Program.keyLits, Try.underlying24, c0, c1, c2, Try.underlying9, Try.underlying3, h.1, h.2]

/-! ### entries as a list -/
section
variable {α : Type} [DecidableEq α] {P : Program} {kt : TypeId} {enc : α → Value} {ok : α → Prop}
/-- Block b is a map whose entries are these, each key once. -/
def MapAt (enc : α → Value) (w : World) (b : Nat) (l : List (α × Value)) : Prop :=
  (∃ es clock, w.heap[b]? = some (.map es clock) ∧ es.toList.map (fun e => (e.key, e.val)) = l.map (fun p => (enc p.1, p.2))) ∧ (l.map (·.1)).Nodup
def look (x : α) (l : List (α × Value)) : Option Value := (l.find? (fun p => decide (p.1 = x))).map (·.2)
def putL (x : α) (v : Value) (l : List (α × Value)) : List (α × Value) := if x ∈ l.map (·.1) then l.map (fun p => if p.1 = x then (x, v) else p) else l ++ [(x, v)]

theorem look_none {x : α} {l : List (α × Value)} (h : x ∉ l.map (·.1)) : look x l = none := by
  unfold look
  rw [List.find?_eq_none.2]
  · rfl
  · intro p hp
    simp only [decide_eq_true_eq]
    intro e
    exact h (e ▸ List.mem_map_of_mem hp)
theorem look_at {x : α} {v : Value} : ∀ {l : List (α × Value)}, (l.map (·.1)).Nodup → (x, v) ∈ l → look x l = some v
  | (y, u) :: r, hn, hm => by
    unfold look
    rw [List.map_cons, List.nodup_cons] at hn
    rcases List.mem_cons.1 hm with e | e
    · injection e with e1 e2
      subst e1; subst e2
      simp
    · have hne : y ≠ x := fun e2 => hn.1 (e2 ▸ List.mem_map.2 ⟨_, e, rfl⟩)
      rw [List.find?_cons_of_neg (by simp [hne])]
      exact look_at hn.2 e
theorem look_mem {x : α} {v : Value} {l : List (α × Value)} (h : look x l = some v) : (x, v) ∈ l := by
  unfold look at h
  obtain ⟨p, hp, rfl⟩ := Option.map_eq_some_iff.1 h
  have h1 := List.find?_some hp
  have h2 := List.mem_of_find?_eq_some hp
  simp only [decide_eq_true_eq] at h1
  rw [← h1]
  exact h2
theorem putL_keys (x : α) (v : Value) (l : List (α × Value)) : (putL x v l).map (·.1) = if x ∈ l.map (·.1) then l.map (·.1) else l.map (·.1) ++ [x] := by
  unfold putL
  split
  · rw [List.map_map]
    apply List.map_congr_left
    intro p _
    simp only [Function.comp_apply]
    split
    · rename_i e; exact e.symm
    · rfl
  · rw [List.map_append]; rfl
theorem putL_nodup {x : α} {v : Value} {l : List (α × Value)} (h : (l.map (·.1)).Nodup) : ((putL x v l).map (·.1)).Nodup := by
  rw [putL_keys]
  split
  · exact h
  · rename_i hx
    rw [List.nodup_append]
    exact ⟨h, by simp, fun a ha b hb e => by rw [List.mem_singleton] at hb; exact hx (hb ▸ e ▸ ha)⟩

/-- What is asked of a key's kind. -/
structure KeyEnc (P : Program) (kt : TypeId) (enc : α → Value) (ok : α → Prop) : Prop where
  law : Keyed P kt
  inj : ∀ {x y}, enc x = enc y → x = y
  key : ∀ {x}, ok x → ∃ l, keyOf P kt (enc x) = some l

theorem entry_at {es : Array MapEntry} {l : List (α × Value)} (h : es.toList.map (fun e => (e.key, e.val)) = l.map (fun p => (enc p.1, p.2))) {j : Nat} {e : MapEntry} (he : es.toList[j]? = some e) :
    ∃ p, l[j]? = some p ∧ e.key = enc p.1 ∧ e.val = p.2 := by
  have h1 := congrArg (fun z => z[j]?) h
  simp only [List.getElem?_map, he, Option.map_some] at h1
  obtain ⟨p, hp, e2⟩ := Option.map_eq_some_iff.1 h1.symm
  injection e2 with e3 e4
  exact ⟨p, hp, e3.symm, e4.symm⟩

theorem find_key (K : KeyEnc P kt enc ok) (w : World) {es : Array MapEntry} {l : List (α × Value)} (h : es.toList.map (fun e => (e.key, e.val)) = l.map (fun p => (enc p.1, p.2))) (hl : ∀ p ∈ l, ok p.1) {x : α} (hx : ok x) :
    ((Instr.findKey kt (enc x) es.toList).run P w = .ok none w ∧ x ∉ l.map (·.1)) ∨ ∃ j v, (Instr.findKey kt (enc x) es.toList).run P w = .ok (some (j, v)) w ∧ l[j]? = some (x, v) := by
  obtain ⟨lx, hkx⟩ := K.key hx
  rcases K.law.find w hkx es.toList (fun e he => by
    obtain ⟨j, hj⟩ := List.mem_iff_getElem?.1 he
    obtain ⟨p, hp, e1, _⟩ := entry_at h hj
    rw [e1]
    exact K.key (hl p (List.mem_of_getElem? hp))) with ⟨h1, h2⟩ | ⟨j, e, h1, h2, h3⟩
  · refine .inl ⟨h1, fun hm => ?_⟩
    obtain ⟨p, hp, rfl⟩ := List.mem_map.1 hm
    have : (enc p.1, p.2) ∈ es.toList.map (fun e => (e.key, e.val)) := h ▸ List.mem_map_of_mem (f := fun p : α × Value => (enc p.1, p.2)) hp
    obtain ⟨e, he, e2⟩ := List.mem_map.1 this
    injection e2 with e3 e4
    exact h2 e he e3
  · obtain ⟨p, hp, e1, e2⟩ := entry_at h h2
    refine .inr ⟨j, e.val, h1, ?_⟩
    rw [h3] at e1
    rw [hp, e2, K.inj e1]

theorem map_lookup (K : KeyEnc P kt enc ok) {t e : TypeId} (ht : P.underlying t = some (.map kt e)) {w : World} {b : Nat} {l : List (α × Value)} (h : MapAt enc w b l) (hl : ∀ p ∈ l, ok p.1) {z : Value} (hz : (zeroValue e).run P w = .ok z w) {x : α} (hx : ok x) (c : Bool) :
    (Instr.lookup t (.map (some b)) (enc x) c).run P w = .ok (if c then .tuple #[(look x l).getD z, .bool (look x l).isSome] else (look x l).getD z) w := by
  obtain ⟨⟨es, clock, hb, he⟩, hn⟩ := h
  obtain ⟨lx, hkx⟩ := K.key hx
  rcases find_key K w he hl hx with ⟨h1, h2⟩ | ⟨j, v, h1, h2⟩
  · rw [look_none h2]
    simp [Instr.lookup, run_underlying ht, MapKept.run_getObj_map hb, K.law.check w _ hkx, h1, hz, Result.andThen]
  · rw [look_at hn (List.mem_of_getElem? h2)]
    simp [Instr.lookup, run_underlying ht, MapKept.run_getObj_map hb, K.law.check w _ hkx, h1, Result.andThen]

theorem map_store (K : KeyEnc P kt enc ok) {t e : TypeId} (ht : P.underlying t = some (.map kt e)) {w : World} {b : Nat} {l : List (α × Value)} (h : MapAt enc w b l) (hl : ∀ p ∈ l, ok p.1) {x : α} (hx : ok x) (v : Value) :
    ∃ es' clock', (Instr.mapUpdate t (.map (some b)) (enc x) v).run P w = .ok () (setBlock w b (.map es' clock')) ∧ es'.toList.map (fun e => (e.key, e.val)) = (putL x v l).map (fun p => (enc p.1, p.2)) := by
  obtain ⟨⟨es, clock, hb, he⟩, hn⟩ := h
  obtain ⟨lx, hkx⟩ := K.key hx
  rcases find_key K w he hl hx with ⟨h1, h2⟩ | ⟨j, u, h1, h2⟩
  · refine ⟨es.push { key := enc x, val := v, born := clock }, clock + 1, ?_, ?_⟩
    · simp [Instr.mapUpdate, run_underlying ht, MapKept.run_getObj_map hb, K.law.check w false hkx, h1, MapKept.run_setObj_map _ hb, Result.andThen, setBlock]
    · rw [Array.toList_push, List.map_append, he]
      unfold putL
      rw [if_neg h2, List.map_append]
      rfl
  · have hj : j < es.size := by
      have h3 := congrArg List.length he
      simp only [List.length_map, Array.length_toList] at h3
      have := (List.getElem?_eq_some_iff.1 h2).1
      omega
    have hje : es[j]? = some es[j] := Array.getElem?_eq_getElem hj
    have hk : es[j].key = enc x := by
      obtain ⟨p, hp, e1, _⟩ := entry_at (enc := enc) he (j := j) (e := es[j]) (by simp [hj])
      rw [h2] at hp
      injection hp with hp
      rw [e1, ← hp]
    refine ⟨es.modify j fun e => { e with key := enc x, val := v }, clock, ?_, ?_⟩
    · simp [Instr.mapUpdate, run_underlying ht, MapKept.run_getObj_map hb, K.law.check w false hkx, h1, hj, hk, K.law.stays w hkx, MapKept.run_setObj_map _ hb, Result.andThen, setBlock]
    · have hmem : x ∈ l.map (·.1) := List.mem_map.2 ⟨_, List.mem_of_getElem? h2, rfl⟩
      unfold putL
      rw [if_pos hmem]
      apply List.ext_getElem?
      intro i
      have h3 := congrArg (fun z => z[i]?) he
      simp only [List.getElem?_map] at h3 ⊢
      rw [Array.getElem?_toList, Array.getElem?_modify]
      rw [Array.getElem?_toList] at h3
      by_cases hij : j = i
      · subst hij
        rw [if_pos rfl, hje, h2]
        simp
      · rw [if_neg hij, h3]
        cases hp : l[i]? with
        | none => rfl
        | some p =>
          have hne : p.1 ≠ x := by
            intro e2
            have hi := (List.getElem?_eq_some_iff.1 hp).1
            have hj2 := (List.getElem?_eq_some_iff.1 h2).1
            have a1 : (l.map (·.1))[i]'(by simpa using hi) = x := by rw [List.getElem_map, (List.getElem?_eq_some_iff.1 hp).2, e2]
            have a2 : (l.map (·.1))[j]'(by simpa using hj2) = x := by rw [List.getElem_map, (List.getElem?_eq_some_iff.1 h2).2]
            exact hij ((List.getElem_inj hn).1 (a2.trans a1.symm))
          simp [hne]

theorem map_len {t e : TypeId} (ht : P.underlying t = some (.map kt e)) {w : World} {b : Nat} {l : List (α × Value)} (h : MapAt enc w b l) (ty : TypeId) : (Builtin.len_ #[t] ty #[.map (some b)]).run P w = .ok (.int .i64 l.length) w := by
  obtain ⟨⟨es, clock, hb, he⟩, _⟩ := h
  have h3 := congrArg List.length he
  simp only [List.length_map, Array.length_toList] at h3
  simp [Builtin.len_, run_underlying ht, MapKept.run_getObj_map hb, goInt, h3, Result.andThen]
end
end Go.Proofs.Ytddjhmelniphgaa.Print
