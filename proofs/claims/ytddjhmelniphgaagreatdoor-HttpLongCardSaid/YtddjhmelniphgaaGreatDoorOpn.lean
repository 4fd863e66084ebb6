/- From a claim's reading of an argument ('DataW.trod') to what the printed contracts take ('Kd.K', 'Kd.C'): kind by kind, with what is known of the numbers and lengths. -/
import Derived.Test.YtddjhmelniphgaaGreatDoorPrint0
import Derived.SizedLaws
import Derived.ChangeSlices
import Derived.DataReads
import Derived.ChangeArms
namespace Go.Proofs.YtddjhmelniphgaaGreatDoor.Print
open Go.RowKit Go.Proofs.YtddjhmelniphgaaGreatDoorW.PrintWords Go.Proofs.YtddjhmelniphgaaGreatDoorW.PrintLast Go.ChangeShapes Go.WideShapes
set_option linter.unusedVariables false
set_option linter.unusedSimpArgs false

/-- What reads as data of type t, in N steps at most, reads as a value of the kind d, of which G holds. -/
def Opn (N : Nat) (P : Program) {α : Type} (d : Kd α) (t : TypeId) (G : α → Prop) : Prop :=
  ∀ (H : Type) (enc : TypeId × Value → H) (W : World) (spare : Nat → Bool) (held : Bool) (fuel : Nat) (cs : List Value) (x : DataW H × List MemPlace), fuel ≤ N →
    DataW.trod enc P W 0 spare held fuel t cs = some x → (∀ n ∈ x.1.weights P t, n ≤ reachBytes) → ∃ y, d.K W y cs ∧ G y
theorem opn_zero {P : Program} {α : Type} {d : Kd α} {t : TypeId} {G : α → Prop} : Opn 0 P d t G := by
  intro H enc W spare held fuel cs x hf hx _
  obtain rfl : fuel = 0 := by omega
  simp [DataW.trod] at hx
theorem opn_mono {N : Nat} {P : Program} {α : Type} {d : Kd α} {t : TypeId} {G G' : α → Prop} (h : Opn N P d t G) (hG : ∀ x, G x → G' x) : Opn N P d t G' := by
  intro H enc W spare held fuel cs x hf hx hw
  obtain ⟨y, h1, h2⟩ := h H enc W spare held fuel cs x hf hx hw
  exact ⟨y, h1, hG y h2⟩
theorem opn_int {N : Nat} {P : Program} {t : TypeId} {k : IntKind} (h : P.underlying t = some (.int k)) : Opn N P (Kd.int k) t (fun n => (Lit.int k n).wf = true) := by
  intro H enc W spare held fuel cs x _ hx _
  obtain ⟨n, rfl, rfl, hn⟩ := DataW.trod_int h hx
  exact ⟨n, rfl, hn⟩
theorem opn_bool {N : Nat} {P : Program} {t : TypeId} (h : P.underlying t = some .bool) : Opn N P Kd.bool t (fun _ => True) := by
  intro H enc W spare held fuel cs x _ hx _
  obtain ⟨b, rfl, rfl⟩ := DataW.trod_bool h hx
  exact ⟨b, rfl, trivial⟩
theorem opn_string {N : Nat} {P : Program} {t : TypeId} (h : P.underlying t = some .string) : Opn N P Kd.string t (fun s => s.size ≤ 140737488351232) := by
  intro H enc W spare held fuel cs x _ hx hw
  obtain ⟨s, rfl, rfl, hs⟩ := DataW.trod_string h hx
  refine ⟨s, rfl, ?_⟩
  have := hw s.data.toList.length (by simp [DataW.weights])
  simpa [reachBytes] using this

theorem mapM_range {β : Type} {f : Nat → Option β} : ∀ {n : Nat} {ys : List β}, (List.range n).mapM f = some ys → ys.length = n ∧ ∀ i y, ys[i]? = some y → f i = some y := by
  intro n
  induction n with
  | zero => intro ys h; simp at h; subst h; simp
  | succ n ih =>
    intro ys h
    rw [List.range_succ, List.mapM_append] at h
    simp only [Option.bind_eq_bind, Option.bind_eq_some_iff, List.mapM_cons, List.mapM_nil, Option.pure_def, Option.some.injEq] at h
    obtain ⟨as', h1, bs, ⟨b, hb, cs, rfl, rfl⟩, rfl⟩ := h
    obtain ⟨hl, hr⟩ := ih h1
    refine ⟨by simp [hl], fun i y hi => ?_⟩
    rcases Nat.lt_or_ge i as'.length with h2 | h2
    · rw [List.getElem?_append_left h2] at hi
      exact hr i y hi
    · have : i = n := by
        have := (List.getElem?_eq_some_iff.1 hi).1
        simp at this
        omega
      subst this
      rw [List.getElem?_append_right h2, hl] at hi
      simp at hi
      subst hi
      exact hb
theorem cells_some {w : World} {a : Addr} {n : Nat} {cs : List Value} (h : w.cells? 0 a n = some cs) : cs.length = n ∧ ∀ i u, cs[i]? = some u → w.cell? (a.add i) = some u := by
  unfold World.cells? at h
  rw [if_pos (Nat.zero_le _)] at h
  exact mapM_range h

/-- An element's weights are among the slice's. -/
theorem weights_elem {H : Type} {P : Program} {t e : TypeId} (h : P.underlying t = some (.slice e)) {elems sp : List (DataW H)} {x : DataW H} (hx : x ∈ elems) : ∀ n ∈ x.weights P e, n ∈ (DataW.slice elems sp : DataW H).weights P t := by
  intro n hn
  simp only [DataW.weights, h, List.mem_cons, List.mem_append]
  refine .inr (.inl ?_)
  induction elems with
  | nil => cases hx
  | cons y r ih =>
    simp only [DataW.weightsAll, List.mem_append]
    rcases List.mem_cons.1 hx with rfl | hx
    · exact .inl hn
    · exact .inr (ih hx)

theorem opn_slice {N : Nat} {P : Program} {α : Type} {d : Kd α} {t e : TypeId} {G : α → Prop} (h : P.underlying t = some (.slice e)) (hc : P.cellsOf e = d.sz) (hO : Opn N P d e G) :
    Opn (N + 1) P (Kd.slice e d) t (fun xs => xs.length * P.bytesOf e ≤ 140737488351232 ∧ xs.length ≤ 9223372036854775807 ∧ ∀ x ∈ xs, G x) := by
  intro H enc W spare held fuel cs x hf hx hw
  rcases DataW.trod_slice h hx with ⟨rfl, rfl⟩ | ⟨a, len, cap, elems, rest, n, rfl, rfl, rfl, _, hlc, hcm, hel, hcell, _, _⟩
  · exact ⟨[], ⟨none, 0, rfl, Nat.le_refl _, Kd.C_nil _ _⟩, by simp, by simp, by simp⟩
  · have hwe : ∀ z ∈ elems, ∀ m ∈ z.1.weights P e, m ≤ reachBytes := fun z hz m hm => hw m (weights_elem h (List.mem_map.2 ⟨z, hz, rfl⟩) m hm)
    have hlen : (elems.length + rest.length) * P.bytesOf e ≤ reachBytes := hw _ (by simp [DataW.weights, h])
    have key : ∀ i, i < len → ∃ c y, W.cells? 0 (a.add (i * P.cellsOf e)) (P.cellsOf e) = some c ∧ d.K W y c ∧ G y := by
      intro i hi
      have h1 := hcell i hi
      rw [List.getElem?_eq_getElem (by omega), Option.bind_eq_some_iff] at h1
      obtain ⟨c, h2, h3⟩ := h1
      obtain ⟨y, h4, h5⟩ := hO H enc W spare held n c _ (by omega) h3 (hwe _ (List.getElem_mem _))
      exact ⟨c, y, h2, h4, h5⟩
    have key2 : ∀ m, m ≤ len → ∃ ys : List α, ys.length = m ∧ ∀ i y, ys[i]? = some y → G y ∧ ∃ c, W.cells? 0 (a.add (i * P.cellsOf e)) (P.cellsOf e) = some c ∧ d.K W y c := by
      intro m
      induction m with
      | zero => intro _; exact ⟨[], rfl, by simp⟩
      | succ m ih =>
        intro hm
        obtain ⟨ys, h1, h2⟩ := ih (by omega)
        obtain ⟨c, y, h3, h4, h5⟩ := key m (by omega)
        refine ⟨ys ++ [y], by simp [h1], fun i z hz => ?_⟩
        rcases Nat.lt_or_ge i ys.length with h6 | h6
        · rw [List.getElem?_append_left h6] at hz
          exact h2 i z hz
        · rw [List.getElem?_append_right h6] at hz
          obtain rfl : i = m := by
            have := (List.getElem?_eq_some_iff.1 hz).1
            simp at this
            omega
          rw [← h1] at hz
          simp at hz
          subst hz
          exact ⟨h5, c, h3, h4⟩
    obtain ⟨ys, h1, h2⟩ := key2 len (Nat.le_refl _)
    have hml : maxLen = 9223372036854775807 := rfl
    refine ⟨ys, ⟨some a, cap, by rw [h1], by omega, rfl, by omega, fun _ => ⟨a, rfl, fun j p hj => ?_⟩⟩, ?_, by omega, fun z hz => ?_⟩
    · obtain ⟨_, c, h3, h4⟩ := h2 j p hj
      obtain ⟨h5, h6⟩ := cells_some h3
      refine ⟨c, by rw [h5, hc], h4, fun i u hu => ?_⟩
      have := h6 i u hu
      rw [hc, Addr.add_add] at this
      exact this
    · rw [h1, ← hel]
      refine Nat.le_trans (Nat.mul_le_mul_right _ (Nat.le_add_right _ rest.length)) ?_
      simpa [reachBytes] using hlen
    · obtain ⟨j, hj⟩ := List.mem_iff_getElem?.1 hz
      exact (h2 j z hj).1

/-- The fields from a place on. -/
def FOpn (N : Nat) (P : Program) {α : Type} (d : Kd α) (fs : List Field) (off : Nat) (G : α → Prop) : Prop :=
  ∀ (H : Type) (enc : TypeId × Value → H) (W : World) (spare : Nat → Bool) (held : Bool) (fuel : Nat) (cs : List Value) (xs : List (DataW H × List MemPlace)), fuel ≤ N →
    cs.length = off + d.sz → xs.length = fs.length →
    (∀ (i : Nat) (f : Field), fs[i]? = some f → DataW.trod enc P W 0 spare held fuel f.type ((cs.drop f.offset).take (P.cellsOf f.type)) = xs[i]?) →
    (∀ n ∈ DataW.weightsEach P (fs.map (·.type)) (xs.map (·.1)), n ≤ reachBytes) → ∃ y, d.K W y (cs.drop off) ∧ G y
theorem fopn_last {N : Nat} {P : Program} {α : Type} {d : Kd α} {f : Field} {off : Nat} {G : α → Prop} (ho : f.offset = off) (hc : P.cellsOf f.type = d.sz) (hO : Opn N P d f.type G) : FOpn N P d [f] off G := by
  intro H enc W spare held fuel cs xs hf hl hx hread hw
  obtain ⟨x, rfl⟩ : ∃ x, xs = [x] := by
    cases xs with
    | nil => simp at hx
    | cons x r => cases r with
      | nil => exact ⟨x, rfl⟩
      | cons _ _ => simp at hx
  have h1 := hread 0 f rfl
  rw [ho, hc, List.take_of_length_le (by simp; omega)] at h1
  exact hO H enc W spare held fuel _ x hf h1 (fun n hn => hw n (by simpa [DataW.weightsEach] using hn))
theorem fopn_cons {N : Nat} {P : Program} {α β : Type} {a : Kd α} {b : Kd β} {f : Field} {fs : List Field} {off : Nat} {G : α → Prop} {G' : β → Prop} (ho : f.offset = off) (hc : P.cellsOf f.type = a.sz) (hO : Opn N P a f.type G) (hF : FOpn N P b fs (off + a.sz) G') :
    FOpn N P (Kd.pair a b) (f :: fs) off (fun p => G p.1 ∧ G' p.2) := by
  intro H enc W spare held fuel cs xs hf hl hx hread hw
  obtain ⟨x, r, rfl⟩ : ∃ x r, xs = x :: r := by
    cases xs with
    | nil => simp at hx
    | cons x r => exact ⟨x, r, rfl⟩
  have h1 := hread 0 f rfl
  rw [ho, hc] at h1
  have hl' : cs.length = off + (a.sz + b.sz) := hl
  obtain ⟨y, h2, h3⟩ := hO H enc W spare held fuel _ x hf h1 (fun n hn => hw n (by simp [DataW.weightsEach, hn]))
  obtain ⟨z, h4, h5⟩ := hF H enc W spare held fuel cs r hf (by omega) (by simpa using hx) (fun i g hi => by simpa using hread (i + 1) g (by simpa using hi)) (fun n hn => hw n (by simp [DataW.weightsEach]; right; exact hn))
  exact ⟨(y, z), ⟨(cs.drop off).take a.sz, cs.drop (off + a.sz), by rw [← List.drop_drop, List.take_append_drop], h2, h4⟩, h3, h5⟩
theorem opn_struct {N : Nat} {P : Program} {α : Type} {d : Kd α} {t : TypeId} {fs : Array Field} {G : α → Prop} (h : P.underlying t = some (.struct fs)) (hc : P.cellsOf t = d.sz) (hF : FOpn N P d fs.toList 0 G) : Opn (N + 1) P d t G := by
  intro H enc W spare held fuel cs x hf hx hw
  obtain ⟨xs, n, rfl, rfl, h1, h2, h3⟩ := DataW.trod_struct h hx
  obtain ⟨y, h4, h5⟩ := hF H enc W spare held n cs xs (by omega) (by omega) (by simpa using h2) (fun i f hi => h3 i f (by simpa using hi)) (fun m hm => hw m (by simpa [DataW.weights, h] using hm))
  exact ⟨y, by simpa using h4, h5⟩
theorem opn_iso {N : Nat} {P : Program} {α β : Type} {d : Kd α} {t : TypeId} {G : α → Prop} (f : β → α) (g : α → β) (hg : ∀ a, f (g a) = a) (hO : Opn N P d t G) : Opn N P (Kd.iso d f) t (fun y => G (f y)) := by
  intro H enc W spare held fuel cs x hf hx hw
  obtain ⟨y, h1, h2⟩ := hO H enc W spare held fuel cs x hf hx hw
  exact ⟨g y, by rw [← hg y] at h1; exact h1, by show G (f (g y)); rw [hg]; exact h2⟩
theorem opn_fix {P : Program} {α : Type} {F : Kd α → Kd α} {sz : Nat} {E : List Nat} {hs hE} {t : TypeId} {G : α → Prop} (hF : ∀ (N : Nat) (d : Kd α), d.sz = sz → Opn N P d t G → Opn (N + 1) P (F d) t G) (N : Nat) : Opn N P (Kd.fix F sz E hs hE) t G := by
  have key : ∀ N, Opn N P (Kd.upto F sz E N) t G := by
    intro N
    induction N with
    | zero => exact opn_zero
    | succ N ih => exact hF N _ (hs N) ih
  intro H enc W spare held fuel cs x hf hx hw
  obtain ⟨y, h1, h2⟩ := key N H enc W spare held fuel cs x hf hx hw
  exact ⟨y, ⟨N, h1⟩, h2⟩
end Go.Proofs.YtddjhmelniphgaaGreatDoor.Print
