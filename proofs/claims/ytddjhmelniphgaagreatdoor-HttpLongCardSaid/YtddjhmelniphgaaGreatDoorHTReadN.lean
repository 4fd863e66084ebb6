/- Plain: what http.read reads. -/
import Derived.Test.YtddjhmelniphgaaGreatDoorHTFirst
namespace Go.Proofs.YtddjhmelniphgaaGreatDoor.Print
open Go Go.RowKit Go.Proofs.YtddjhmelniphgaaGreatDoorW.PrintWords Go.Proofs.YtddjhmelniphgaaGreatDoorW.PrintLast
set_option linter.unusedVariables false
set_option linter.unusedSimpArgs false
abbrev Hd := S59
def clName : List UInt8 := [99, 111, 110, 116, 101, 110, 116, 45, 108, 101, 110, 103, 116, 104]
def teName : List UInt8 := [116, 114, 97, 110, 115, 102, 101, 114, 45, 101, 110, 99, 111, 100, 105, 110, 103]
def lowA (l : List UInt8) : List UInt8 := Lib.toLowerA l
/-- Headers, how long the body is, whether that was told. -/
abbrev RS := List Hd × Nat × Bool
def oddLine (i : Nat) (line : List UInt8) : Bool := !(decide (Lib.indexByte line 13 < 0) && decide (Lib.indexByte line 10 < 0) && decide (i ≤ 64))
def hdName (line : List UInt8) : List UInt8 := (Lib.cut line [58]).1
def hdVal (line : List UInt8) : ByteArray := trimN (bs (Lib.cut line [58]).2.1)
def hdOk (line : List UInt8) : Bool := (Lib.cut line [58]).2.2 && tokenB (bs (hdName line)) && valueB (hdVal line)
/-- One line of a head. -/
def stepR (p : List UInt8 → Bool) (x : Nat × List UInt8) (st : RS) : Option RS :=
  if oddLine x.1 x.2 = true then none
  else if x.1 = 0 then (if p x.2 = true then some st else none)
  else if hdOk x.2 = false then none
  else if lowA (hdName x.2) = clName then (if st.2.2 = true then none else (lengthL (hdVal x.2).data.toList).map fun k => (st.1, k, true))
  else if lowA (hdName x.2) = teName then none
  else some (st.1 ++ [⟨bs (lowA (hdName x.2)), hdVal x.2⟩], st.2.1, st.2.2)
def runR (p : List UInt8 → Bool) : List (Nat × List UInt8) → RS → Option RS
  | [], st => some st
  | x :: r, st => (stepR p x st).bind (runR p r)
theorem runR_snoc (p : List UInt8 → Bool) (x : Nat × List UInt8) : ∀ (l : List (Nat × List UInt8)) (st : RS), runR p (l ++ [x]) st = (runR p l st).bind (stepR p x)
  | [], st => by simp [runR]
  | y :: r, st => by
    simp only [List.cons_append, runR]
    cases stepR p y st with
    | none => rfl
    | some s => simp only [Option.bind_some]; exact runR_snoc p x r s
theorem runR_none {p : List UInt8 → Bool} {x : Nat × List UInt8} {l r : List (Nat × List UInt8)} {st s : RS} (h : runR p l st = some s) (hx : stepR p x s = none) : runR p (l ++ x :: r) st = none := by
  have e : ∀ (l : List (Nat × List UInt8)) (st : RS), runR p l st = some s → runR p (l ++ x :: r) st = none := fun l => by
    induction l with
    | nil => intro st h; simp [runR] at h; subst h; simp [runR, hx]
    | cons y l ih =>
      intro st h
      simp only [List.cons_append, runR] at h ⊢
      cases hs : stepR p y st with
      | none => rfl
      | some s2 => rw [hs] at h; simp only [Option.bind_some] at h ⊢; exact ih s2 h
  exact e l st h
def headOf (s : List UInt8) : List UInt8 × List UInt8 × Bool := Lib.cut (s.take 8192) [13, 10, 13, 10]
def linesOf (h : List UInt8) : List (Nat × List UInt8) := enumL 0 (partsL [13, 10] h.length h)
/-- What stands at the front; or an error. -/
def readL (p : List UInt8 → Bool) (s : List UInt8) : Except Int (List Hd × List UInt8 × Nat) :=
  if (headOf s).2.2 = false then (if s.length < 8192 then .error 290 else .error 292)
  else match runR p (linesOf (headOf s).1) ([], 0, false) with
    | none => .error 291
    | some (hs, body, _) => if 65536 < body then .error 292 else if s.length < (headOf s).1.length + 4 + body then .error 290
      else .ok (hs, (s.drop ((headOf s).1.length + 4)).take body, (headOf s).1.length + 4 + body)
def hcells (hs : List Hd) : List Value := hs.flatMap fun h => [.string h.f0, .string h.f1]
theorem hcells_len : ∀ hs : List Hd, (hcells hs).length = hs.length * 2
  | [] => rfl
  | h :: r => by simp only [hcells, List.flatMap_cons, List.length_append, List.length_cons, List.length_nil]; have := hcells_len r; unfold hcells at this; omega
theorem hcells_snoc (hs : List Hd) (h : Hd) : hcells (hs ++ [h]) = hcells hs ++ [.string h.f0, .string h.f1] := by simp [hcells]
theorem partsL_ne (sep : List UInt8) : ∀ f s, ∃ x r, partsL sep f s = x :: r ∧ x = (Lib.cut s sep).1 ∨ partsL sep f s = [s]
  | 0, s => ⟨[], [], .inr rfl⟩
  | f + 1, s => by
    simp only [partsL]
    split
    · exact ⟨_, _, .inl ⟨rfl, rfl⟩⟩
    · exact ⟨[], [], .inr rfl⟩
/-- The first line. -/
def firstOf : List (Nat × List UInt8) → Option (List UInt8)
  | [] => none
  | x :: _ => some x.2
theorem linesOf_cons (h : List UInt8) : ∃ x r, linesOf h = (0, x) :: r := by
  unfold linesOf
  cases hl : h.length with
  | zero => exact ⟨_, _, rfl⟩
  | succ f =>
    simp only [partsL]
    split
    · exact ⟨_, _, rfl⟩
    · exact ⟨_, _, rfl⟩
theorem enumL_pre : ∀ (l : List (List UInt8)) (k : Nat) (pre : List (Nat × List UInt8)) (x : Nat × List UInt8), pre ++ [x] <+: enumL k l → x.1 = k + pre.length ∧ x.2 ∈ l
  | [], k, pre, x, h => by simp [enumL] at h
  | y :: l, k, [], x, h => by
    simp only [enumL, List.nil_append] at h
    obtain ⟨t, ht⟩ := h
    simp at ht
    exact ⟨by rw [ht.1]; rfl, by rw [ht.1]; exact List.mem_cons_self⟩
  | y :: l, k, q :: pre, x, h => by
    simp only [enumL, List.cons_append] at h
    have h2 := (List.cons_prefix_cons.1 h).2
    obtain ⟨h3, h4⟩ := enumL_pre l (k + 1) pre x h2
    exact ⟨by rw [h3, List.length_cons]; omega, List.mem_cons_of_mem _ h4⟩
theorem partsL_le (sep : List UInt8) : ∀ (f : Nat) (s x : List UInt8), x ∈ partsL sep f s → x.length ≤ s.length
  | 0, s, x, h => by simp only [partsL, List.mem_singleton] at h; rw [h]; exact Nat.le_refl _
  | f + 1, s, x, h => by
    simp only [partsL] at h
    split at h
    · rcases List.mem_cons.1 h with rfl | h
      · exact (cut_le s sep).1
      · exact Nat.le_trans (partsL_le sep f _ x h) (cut_le s sep).2
    · rw [List.mem_singleton] at h; rw [h]; exact Nat.le_refl _
theorem stepR_len {p : List UInt8 → Bool} {x : Nat × List UInt8} {st s : RS} (h : stepR p x st = some s) : s.1.length ≤ st.1.length + 1 := by
  unfold stepR at h
  split at h
  · cases h
  split at h
  · split at h
    · cases h; omega
    · cases h
  split at h
  · cases h
  split at h
  · split at h
    · cases h
    · rw [Option.map_eq_some_iff] at h
      obtain ⟨k, _, rfl⟩ := h
      exact Nat.le_succ _
  split at h
  · cases h
  · cases h
    simp
theorem runR_len {p : List UInt8 → Bool} : ∀ {l : List (Nat × List UInt8)} {st s : RS}, runR p l st = some s → s.1.length ≤ st.1.length + l.length
  | [], st, s, h => by simp [runR] at h; subst h; exact Nat.le_refl _
  | x :: r, st, s, h => by
    simp only [runR] at h
    rw [Option.bind_eq_some_iff] at h
    obtain ⟨s1, h1, h2⟩ := h
    have := stepR_len h1
    have := runR_len h2
    rw [List.length_cons]
    omega
theorem firstOf_snoc {pre : List (Nat × List UInt8)} (h : pre ≠ []) (x : Nat × List UInt8) : firstOf (pre ++ [x]) = firstOf pre := by
  cases pre with
  | nil => exact absurd rfl h
  | cons y r => rfl
theorem dropWhile_len (f : UInt8 → Bool) : ∀ l : List UInt8, (l.dropWhile f).length ≤ l.length
  | [] => Nat.le_refl _
  | x :: r => by
    rw [List.dropWhile_cons]
    split
    · have := dropWhile_len f r; rw [List.length_cons]; omega
    · exact Nat.le_refl _
theorem trimN_le (s : ByteArray) : (trimN s).size ≤ s.size := by
  show (Lib.trimS s.data.toList [32, 9]).length ≤ s.size
  unfold Lib.trimS Lib.trimLeftS Lib.trimRightS
  have h1 : s.data.toList.length = s.size := by simp
  first
    | (refine Nat.le_trans (dropWhile_len _ _) ?_; rw [List.length_reverse]; refine Nat.le_trans (dropWhile_len _ _) ?_; rw [List.length_reverse, h1]; exact Nat.le_refl _)
    | (rw [List.length_reverse]; refine Nat.le_trans (dropWhile_len _ _) ?_; rw [List.length_reverse]; refine Nat.le_trans (dropWhile_len _ _) ?_; rw [h1]; exact Nat.le_refl _)
end Go.Proofs.YtddjhmelniphgaaGreatDoor.Print
