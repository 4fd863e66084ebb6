/- http.Path in plain words; what holds between the rounds of its two loops. -/
import Derived.Test.YtddjhmelniphgaaGreatDoorHTDecW
import Derived.Test.YtddjhmelniphgaaGreatDoorHTTold
namespace Go.Proofs.YtddjhmelniphgaaGreatDoor.Print
open Go Go.RowKit Go.Proofs.YtddjhmelniphgaaGreatDoorW.PrintWords Go.Proofs.YtddjhmelniphgaaGreatDoorW.PrintLast
set_option linter.unusedVariables false
set_option linter.unusedSimpArgs false
def runO {X A : Type} (f : X → A → Option A) : List X → A → Option A
  | [], a => some a
  | x :: r, a => (f x a).bind (runO f r)
theorem runO_snoc {X A : Type} (f : X → A → Option A) (x : X) : ∀ (l : List X) (a : A), runO f (l ++ [x]) a = (runO f l a).bind (f x)
  | [], a => by simp [runO]
  | y :: r, a => by
    simp only [List.cons_append, runO]
    cases f y a with
    | none => rfl
    | some s => simp [runO_snoc f x r]
theorem runO_none {X A : Type} {f : X → A → Option A} {x : X} {r : List X} {s : A} (hx : f x s = none) : ∀ (l : List X) (a : A), runO f l a = some s → runO f (l ++ x :: r) a = none
  | [], a, h => by simp [runO] at h; subst h; simp [runO, hx]
  | y :: l, a, h => by
    simp only [runO, List.cons_append] at h ⊢
    cases hy : f y a with
    | none => rfl
    | some t => rw [hy] at h; exact runO_none hx l t h
def stepS (x : Nat × List UInt8) (acc : List ByteArray) : Option (List ByteArray) := (decL x.2).map fun y => acc ++ [bs y]
def stepQ (q : List UInt8) (x : Nat × List UInt8) (acc : List Hd) : Option (List Hd) :=
  if q = [] then some acc else (decL (Lib.cut x.2 [61]).1).bind fun a => (decL (Lib.cut x.2 [61]).2.1).map fun b => acc ++ [⟨bs a, bs b⟩]
def tgtP (s : List UInt8) : List UInt8 := (Lib.cut (s.drop 1) [63]).1
def tgtQ (s : List UInt8) : List UInt8 := (Lib.cut (s.drop 1) [63]).2.1
/-- The parts and the query of a target. -/
def pathL (s : List UInt8) : Option (List ByteArray × List Hd) :=
  if targetB (bs s) = true then (runO stepS (enumL 0 (partsL [47] (tgtP s).length (tgtP s))) []).bind fun ls => (runO (stepQ (tgtQ s)) (enumL 0 (partsL [38] (tgtQ s).length (tgtQ s))) []).map fun qs => (ls, qs) else none
def scells (l : List ByteArray) : List Value := l.map .string
/-- What holds between the rounds: the row so far, in block R's cell. -/
structure PaI {A : Type} (R n1 : Nat) (tp e : TypeId) (z : Nat) (enc : List A → List Value) (f : Nat × List UInt8 → List A → Option (List A)) (wb : World) (pre : List (Nat × List UInt8)) (W : World) : Prop where
  st : ∃ ys v, runO f pre [] = some ys ∧ W.heap[R]? = some (.cells #[v] tp (0, 0)) ∧ W.ownsRow n1 e z v ys.length (enc ys) ∧ ys.length ≤ pre.length
  keep : OwnStep R wb W
  size : n1 ≤ W.heap.size
def PaP {A : Type} (R : Nat) (tp : TypeId) (f : Nat × List UInt8 → List A → Option (List A)) (wb : World) (L : List (Nat × List UInt8)) (ch : List PanicEntry) (W : World) : Prop :=
  ch = oops 291 ∧ runO f L [] = none ∧ OwnStep R wb W ∧ ∃ v, W.heap[R]? = some (.cells #[v] tp (0, 0))
theorem PaI.calm {A : Type} {R n1 : Nat} {tp e : TypeId} {z : Nat} {enc : List A → List Value} {f : Nat × List UInt8 → List A → Option (List A)} {wb : World} {pre : List (Nat × List UInt8)} {W W' : World} {Bs n : Nat}
    (h : PaI R n1 tp e z enc f wb pre W) (hc : Calm Bs n W W') (hR : R ≠ Bs) (hB : Bs < n1) (hw : wb.heap.size ≤ Bs) (hn : wb.heap.size ≤ n) : PaI R n1 tp e z enc f wb pre W' := by
  obtain ⟨⟨ys, v, h1, h2, h3, h4⟩, h5, h6⟩ := h
  exact ⟨⟨ys, v, h1, hc.cells _ _ h2 rfl hR, ownsRow_same h3 (fun g cs hg hx => hc.cells _ _ hx rfl (by omega)), h4⟩,
    ⟨hc.os.trans h5.1, hc.tape.trans h5.2.1, hc.output.trans h5.2.2.1, Nat.le_trans h5.2.2.2.1 hc.size, fun k hk hne => (hc.old k (by omega) (by omega)).trans (h5.2.2.2.2 k hk hne)⟩, Nat.le_trans h6 hc.size⟩
theorem PaI.nopush {A : Type} {R n1 : Nat} {tp e : TypeId} {z : Nat} {enc : List A → List Value} {f : Nat × List UInt8 → List A → Option (List A)} {wb : World} {pre : List (Nat × List UInt8)} {x : Nat × List UInt8} {W W' : World} {ys : List A}
    (h : PaI R n1 tp e z enc f wb pre W) (hb : Below W.heap.size W W') (hs : ∀ ys, runO f pre [] = some ys → f x ys = some ys) : PaI R n1 tp e z enc f wb (pre ++ [x]) W' := by
  obtain ⟨⟨ys, v, h1, h2, h3, h4⟩, h5, h6⟩ := h
  exact ⟨⟨ys, v, by rw [runO_snoc, h1]; exact hs ys h1, get_below h2 hb, ownsRow_same h3 (fun g cs hg hx => get_below hx hb), by rw [List.length_append]; omega⟩, h5.trans (own_of_below hb), Nat.le_trans h6 hb.size⟩
end Go.Proofs.YtddjhmelniphgaaGreatDoor.Print
