/- What holds of memory between the rounds of http.read. -/
import Derived.Test.YtddjhmelniphgaaGreatDoorHTReadN
namespace Go.Proofs.YtddjhmelniphgaaGreatDoor.Print
open Go Go.RowKit Go.Proofs.YtddjhmelniphgaaGreatDoorW.PrintWords Go.Proofs.YtddjhmelniphgaaGreatDoorW.PrintLast
set_option linter.unusedVariables false
set_option linter.unusedSimpArgs false
/-- Where things lie: the block of the first line's answer, the box of the function, the message, the two variables, the iterator's own, and where rows may begin. -/
structure RdB (R B3 B4 B9 B10 Bs n0 n1 : Nat) : Prop where
  r3 : R < n0
  i3 : n0 ≤ B3
  i4 : B3 < B4
  i9 : B4 < B9
  i10 : B9 < B10
  is : B10 < Bs
  i1 : Bs < n1
structure RdI (R B3 B4 B9 B10 n1 : Nat) (g : Nat) (lb : Array Value) (p : List UInt8 → Bool) (obj : Option (List UInt8) → Obj) (w : World) (pre : List (Nat × List UInt8)) (W : World) : Prop where
  st : ∃ hs body told v, runR p pre ([], 0, false) = some (hs, body, told) ∧ W.heap[B4]? = some (.cells #[v, .string ByteArray.empty, .int .i64 0] 66 (0, 0)) ∧ W.ownsRow n1 59 2 v hs.length (hcells hs) ∧
    W.heap[B9]? = some (.cells #[.int .i64 (body : Nat)] 3 (0, 0)) ∧ W.heap[B10]? = some (.cells #[.bool told] 4 (0, 0))
  box : W.heap[B3]? = some (.cells #[.func (.func g) #[] lb] 39 (0, 0))
  first : W.heap[R]? = some (obj (firstOf pre))
  keep : OwnStep R w W
  size : n1 ≤ W.heap.size
theorem ownsRow_same {W W' : World} {n1 : Nat} {e : TypeId} {z : Nat} {v : Value} {k : Nat} {xs : List Value} (h : W.ownsRow n1 e z v k xs) (hs : ∀ g cs, n1 ≤ g → W.heap[g]? = some (.cells cs e (0, 0)) → W'.heap[g]? = some (.cells cs e (0, 0))) : W'.ownsRow n1 e z v k xs := by
  refine ⟨h.1, h.2.imp id ?_⟩
  rintro ⟨g, cap, cur, h1, h2, h3, h4⟩
  exact ⟨g, cap, cur, h1, h2, hs g cur h2 h3, h4⟩
variable {R B3 B4 B9 B10 Bs n0 n1 g : Nat} {lb : Array Value} {p : List UInt8 → Bool} {obj : Option (List UInt8) → Obj} {w : World} {pre : List (Nat × List UInt8)} {W W' : World}
theorem RdI.calm (hB : RdB R B3 B4 B9 B10 Bs w.heap.size n1) (ho : ∀ o, (obj o).isCells = true) {n : Nat} (hn : w.heap.size ≤ n) (h : RdI R B3 B4 B9 B10 n1 g lb p obj w pre W) (hc : Calm Bs n W W') : RdI R B3 B4 B9 B10 n1 g lb p obj w pre W' := by
  obtain ⟨b1, b2, b3, b4, b5, b6, b7⟩ := hB
  obtain ⟨⟨hs, body, told, v, h1, h2, h3, h4, h5⟩, h6, h7, h8, h9⟩ := h
  refine ⟨⟨hs, body, told, v, h1, hc.cells _ _ h2 rfl (by omega), ownsRow_same h3 (fun g cs hg hx => hc.cells _ _ hx rfl (by omega)), hc.cells _ _ h4 rfl (by omega), hc.cells _ _ h5 rfl (by omega)⟩, hc.cells _ _ h6 rfl (by omega), hc.cells _ _ h7 (ho _) (by omega), ?_, Nat.le_trans h9 hc.size⟩
  exact ⟨hc.os.trans h8.1, hc.tape.trans h8.2.1, hc.output.trans h8.2.2.1, Nat.le_trans h8.2.2.2.1 hc.size, fun k hk hne => (hc.old k (by omega) (by omega)).trans (h8.2.2.2.2 k hk hne)⟩
theorem RdI.below (h : RdI R B3 B4 B9 B10 n1 g lb p obj w pre W) (hb : Below W.heap.size W W') : RdI R B3 B4 B9 B10 n1 g lb p obj w pre W' := by
  obtain ⟨⟨hs, body, told, v, h1, h2, h3, h4, h5⟩, h6, h7, h8, h9⟩ := h
  have go : ∀ {k : Nat} {o : Obj}, W.heap[k]? = some o → W'.heap[k]? = some o := fun hk => (hb.block _ (Array.getElem?_eq_some_iff.1 hk).1).trans hk
  exact ⟨⟨hs, body, told, v, h1, go h2, ownsRow_same h3 (fun g cs hg hx => go hx), go h4, go h5⟩, go h6, go h7, h8.trans (own_of_below hb), Nat.le_trans h9 hb.size⟩
/-- The library's variables stay. -/
theorem laid_own (HL : Laid0 w) (hR : R < w.heap.size) (hf : 0 ≠ R ∧ 1 ≠ R ∧ 2 ≠ R ∧ 4 ≠ R) (hk : OwnStep R w W) : Laid0 W := by
  have hl := HL.lt
  refine HL.same fun k hk2 => ?_
  rcases hk2 with rfl | rfl | rfl | rfl
  · exact hk.2.2.2.2 _ hl.1 hf.1
  · exact hk.2.2.2.2 _ hl.2.1 hf.2.1
  · exact hk.2.2.2.2 _ hl.2.2.1 hf.2.2.1
  · exact hk.2.2.2.2 _ hl.2.2.2 hf.2.2.2
theorem keeps_own {o : Obj} (hR : W.heap[R]? = some o) (hc : o.isCells = true) (h : OwnStep R W W') : KeepsOthers W W' :=
  ⟨h.2.2.2.1, fun k o' hk hn => h.other (fun e => by subst e; rw [hR] at hk; cases hk; rw [hc] at hn; cases hn) hk⟩
theorem kpP_below {Bp : Nat} (h : Below W.heap.size W W') (hs : Bs < W.heap.size) (hp : Bp < W.heap.size) (hm : 0 < W.heap.size) : KpP Bs Bp W W' :=
  ⟨h.size, fun k hk => h.block k (by rcases hk with rfl | rfl | rfl <;> assumption)⟩
theorem kpP_set {Bp b o : Nat} (v : Value) (hs : Bs ≠ b) (hp : Bp ≠ b) (hm : 0 ≠ b) : KpP Bs Bp W (W.setCell ⟨b, o, none⟩ v) :=
  ⟨by simp [World.setCell], fun k hk => Below.heap_setCell _ _ _ _ (by rcases hk with rfl | rfl | rfl <;> assumption)⟩
theorem kpP_own {Bp : Nat} (h : OwnStep R W W') (hs : Bs < W.heap.size) (hp : Bp < W.heap.size) (hm : 0 < W.heap.size) (is : Bs ≠ R) (ip : Bp ≠ R) (im : 0 ≠ R) : KpP Bs Bp W W' :=
  ⟨h.2.2.2.1, fun k hk => h.2.2.2.2 k (by rcases hk with rfl | rfl | rfl <;> assumption) (by rcases hk with rfl | rfl | rfl <;> assumption)⟩
theorem own_putT {D : Nat} {o : Obj} (h : OwnStep R w W) (hD : w.heap.size ≤ D) : OwnStep R w (W.putObj D o) :=
  ⟨h.1, h.2.1, h.2.2.1, by simpa [World.putObj] using h.2.2.2.1, fun k hk hne => (World.putObj_heap_other (by omega)).trans (h.2.2.2.2 k hk hne)⟩
theorem own_set {b o : Nat} {v : Value} (h : OwnStep R w W) (hb : w.heap.size ≤ b) : OwnStep R w (W.setCell ⟨b, o, none⟩ v) :=
  ⟨h.1, h.2.1, h.2.2.1, by simpa [World.setCell] using h.2.2.2.1, fun k hk hne => (Below.heap_setCell _ _ _ _ (show k ≠ b by omega)).trans (h.2.2.2.2 k hk hne)⟩
theorem own_grown {row : Option Nat} (h : OwnStep R w W) (hg : W.grownBy W' row) (hr : ∀ k, row = some k → w.heap.size ≤ k) : OwnStep R w W' :=
  ⟨hg.os.trans h.1, hg.tape.trans h.2.1, hg.output.trans h.2.2.1, Nat.le_trans h.2.2.2.1 hg.size, fun k hk hne => (hg.block k (Nat.lt_of_lt_of_le hk h.2.2.2.1) (fun e => by have := hr k e.symm; omega)).trans (h.2.2.2.2 k hk hne)⟩
/-- What holds where a round gives up. -/
def RdP (R : Nat) (p : List UInt8 → Bool) (obj : Option (List UInt8) → Obj) (w : World) (L : List (Nat × List UInt8)) (ch : List PanicEntry) (W : World) : Prop :=
  ch = oops 291 ∧ runR p L ([], 0, false) = none ∧ OwnStep R w W ∧ ∃ o, W.heap[R]? = some (obj o)
theorem get_below {k : Nat} {o : Obj} (h : W.heap[k]? = some o) (hb : Below W.heap.size W W') : W'.heap[k]? = some o := (hb.block _ (Array.getElem?_eq_some_iff.1 h).1).trans h
theorem own_ge {k : Nat} {e z : Nat} {v : Value} {xs : List Value} (h : W.ownsRow n1 e z v k xs) : ∀ b, v.ownBlock = some b → n1 ≤ b ∧ ∃ cs, W.heap[b]? = some (.cells cs e (0, 0)) := fun b hb => by
  rcases h.2 with ⟨rfl, _⟩ | ⟨g, c, cur, rfl, h1, h2, _⟩
  · cases hb
  · simp only [Value.ownBlock, Option.some.injEq] at hb
    subst hb
    exact ⟨h1, cur, h2⟩
theorem get_grown {row : Option Nat} {k : Nat} {o : Obj} (h : W.heap[k]? = some o) (hg : W.grownBy W' row) (hr : row ≠ some k) : W'.heap[k]? = some o := (hg.block k (Array.getElem?_eq_some_iff.1 h).1 (fun e => hr e.symm)).trans h
theorem keeps_grown {row : Option Nat} (hg : W.grownBy W' row) (hr : ∀ b, row = some b → ∃ cs e, W.heap[b]? = some (.cells cs e (0, 0))) : KeepsOthers W W' :=
  ⟨hg.size, fun k o hk hc => get_grown hk hg (fun e => by obtain ⟨cs, t, h⟩ := hr k e; rw [hk] at h; cases h; cases hc)⟩
theorem kpP_grown {Bp : Nat} {row : Option Nat} (hg : W.grownBy W' row) (hs : Bs < W.heap.size) (hp : Bp < W.heap.size) (hm : 0 < W.heap.size) (hr : ∀ b, row = some b → b ≠ Bs ∧ b ≠ Bp ∧ b ≠ 0) : KpP Bs Bp W W' :=
  ⟨hg.size, fun k hk => hg.block k (by rcases hk with rfl | rfl | rfl <;> assumption) (fun e => by have := hr k e.symm; rcases hk with rfl | rfl | rfl <;> simp at this)⟩
theorem lenPost_none {s : List UInt8} {e : Ending} (h : lengthL s = none) (hp : lengthPost s w e W) : e = .panicked (oops 291) ∧ Below w.heap.size w W := by
  obtain ⟨a, b⟩ := hp
  rw [h] at b
  exact ⟨b, a⟩
theorem lenPost_some {s : List UInt8} {e : Ending} {n : Nat} (h : lengthL s = some n) (hp : lengthPost s w e W) : e = .returned (.int .i64 n) ∧ Below w.heap.size w W := by
  obtain ⟨a, b⟩ := hp
  rw [h] at b
  exact ⟨b, a⟩
/-- What http.read hands back. -/
def readPost (R : Nat) (obj : Option (List UInt8) → Obj) (p : List UInt8 → Bool) (s : List UInt8) (w : World) (e : Ending) (w' : World) : Prop :=
  OwnStep R w w' ∧ match readL p s with
    | .error er => e = .panicked (oops er) ∧ ∃ o, w'.heap[R]? = some (obj o)
    | .ok (hs, b, n) => (∃ v base, e = .returned (.agg #[v, .string (bs b), .int .i64 n]) ∧ w.heap.size ≤ base ∧ w'.ownsRow base 59 2 v hs.length (hcells hs)) ∧ w'.heap[R]? = some (obj (firstOf (linesOf (headOf s).1)))
theorem readPost_err {s : List UInt8} {er : Int} {o : Option (List UInt8)} (h : readL p s = .error er) (hk : OwnStep R w W) (ho : W.heap[R]? = some (obj o)) : readPost R obj p s w (.panicked (oops er)) W := ⟨hk, by rw [h]; exact ⟨rfl, o, ho⟩⟩
end Go.Proofs.YtddjhmelniphgaaGreatDoor.Print
