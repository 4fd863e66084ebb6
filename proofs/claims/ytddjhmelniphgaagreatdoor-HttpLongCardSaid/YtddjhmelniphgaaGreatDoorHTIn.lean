/- Contracts of the functions within http.Read and http.Told that catch what is given up. -/
import Derived.Test.YtddjhmelniphgaaGreatDoorHTCaught
namespace Go.Proofs.YtddjhmelniphgaaGreatDoor.Print
open Go Go.RowKit Go.Proofs.YtddjhmelniphgaaGreatDoorW.PrintWords Go.Proofs.YtddjhmelniphgaaGreatDoorW.PrintLast
set_option linter.unusedVariables false
set_option linter.unusedSimpArgs false
/-- What stays: all old blocks but three. -/
structure But3 (E R M : Nat) (W W' : World) : Prop where
  os : W'.os = W.os
  tape : W'.tape = W.tape
  output : W'.output = W.output
  size : W.heap.size ≤ W'.heap.size
  old : ∀ k, k < W.heap.size → k ≠ E → k ≠ R → k ≠ M → W'.heap[k]? = W.heap[k]?
theorem but3_own {E R M : Nat} {W W' : World} (h : OwnStep R W W') : But3 E R M W W' := ⟨h.1, h.2.1, h.2.2.1, h.2.2.2.1, fun k hk _ h2 _ => h.2.2.2.2 k hk h2⟩
theorem But3.set {E R M b o : Nat} {v : Value} {W W' : World} (h : But3 E R M W W') (hb : b = E ∨ b = M) : But3 E R M W (W'.setCell ⟨b, o, none⟩ v) :=
  ⟨h.os, h.tape, h.output, by simpa [World.setCell] using h.size, fun k hk h1 h2 h3 => (Below.heap_setCell _ _ _ _ (show k ≠ b by rcases hb with rfl | rfl <;> assumption)).trans (h.old k hk h1 h2 h3)⟩
/-- What http.read's caller has behind it. -/
def inPost (E R M : Nat) (obj : Option (List UInt8) → Obj) (p : List UInt8 → Bool) (s : List UInt8) (w : World) (e : Ending) (w' : World) : Prop :=
  e = .returned (.tuple #[]) ∧ But3 E R M w w' ∧ match readL p s with
    | .error er => w'.heap[E]? = some (.cells #[.int .i64 er] 26 (0, 0)) ∧ (∃ o, w'.heap[R]? = some (obj o)) ∧ w'.heap[M]? = w.heap[M]?
    | .ok (hs, b, n) => w'.heap[E]? = w.heap[E]? ∧ w'.heap[R]? = some (obj (firstOf (linesOf (headOf s).1))) ∧ ∃ A c base, w'.heap[M]? = some (.cells #[.slice A hs.length c, .string (bs b), .int .i64 n] 66 (0, 0)) ∧ w.heap.size ≤ base ∧ w'.ownsRow base 59 2 (.slice A hs.length c) hs.length (hcells hs)
theorem readPost_error {R : Nat} {obj : Option (List UInt8) → Obj} {p : List UInt8 → Bool} {s : List UInt8} {w w' : World} {e : Ending} {er : Int} (h : readL p s = .error er) (hp : readPost R obj p s w e w') : e = .panicked (oops er) ∧ OwnStep R w w' ∧ ∃ o, w'.heap[R]? = some (obj o) := by
  obtain ⟨a, b⟩ := hp
  rw [h] at b
  exact ⟨b.1, a, b.2⟩
theorem readPost_ok {R : Nat} {obj : Option (List UInt8) → Obj} {p : List UInt8 → Bool} {s : List UInt8} {w w' : World} {e : Ending} {hs : List Hd} {b : List UInt8} {n : Nat} (h : readL p s = .ok (hs, b, n)) (hp : readPost R obj p s w e w') :
    ∃ A c base, e = .returned (.agg #[.slice A hs.length c, .string (bs b), .int .i64 n]) ∧ w.heap.size ≤ base ∧ w'.ownsRow base 59 2 (.slice A hs.length c) hs.length (hcells hs) ∧ OwnStep R w w' ∧ w'.heap[R]? = some (obj (firstOf (linesOf (headOf s).1))) := by
  obtain ⟨a, q⟩ := hp
  rw [h] at q
  obtain ⟨⟨v, base, h1, h2, h3⟩, h4⟩ := q
  obtain ⟨A, c, rfl⟩ := own_form h3
  exact ⟨A, c, base, h1, h2, h3, a, h4⟩
set_option maxRecDepth 100000 in
set_option maxHeartbeats 4000000 in
theorem read_in (E S R M : Nat) (hne : E ≠ R ∧ E ≠ M ∧ R ≠ M ∧ S ≠ E ∧ S ≠ R ∧ S ≠ M) (hf : 0 ≠ R ∧ 1 ≠ R ∧ 2 ≠ R ∧ 4 ≠ R) (s : List UInt8) (hs : s.length ≤ 1048576) (w : World) (HL : Laid0 w)
    (hE : w.heap[E]? = some (.cells #[.int .i64 0] 26 (0, 0))) (hS : w.heap[S]? = some (.cells #[.string (bs s)] 9 (0, 0))) (hR : w.heap[R]? = some (reqObj none)) (hM : w.heap[M]? = some (.cells #[.slice none 0 0, .string ByteArray.empty, .int .i64 0] 66 (0, 0))) :
    Calls Tryz.prog 26 #[.pointer (some ⟨E, 0, none⟩), .pointer (some ⟨S, 0, none⟩), .pointer (some ⟨R, 0, none⟩), .pointer (some ⟨M, 0, none⟩)] w (inPost E R M reqObj reqB s w) := by
  have hrd := read_any 29 #[.pointer (some ⟨R, 0, none⟩)] (enters_of Tryz.func29 (by kernel_rfl) rfl) reqB R reqObj (req_first R) (fun o => by cases o <;> rfl) hf s hs w HL hR
  have cS := blk_cell hS 0
  obtain ⟨n1, n2, n3, n4, n5, n6⟩ := hne
  cases hr : readL reqB s with
  | error er =>
    have HR := Aside0.mk hr
    clear hr
    go_enter_defers Tryz.func26, Tryz.ntmps26
    go_wp2_with (go_at_call 28; (with_reducible refine hrd.mono ?_); intro e w1 hp; obtain ⟨rfl, hk, o, ho⟩ := readPost_error HR.out hp)
    have kE : w1.heap[E]? = some (.cells #[.int .i64 0] 26 (0, 0)) := hk.other n1 hE
    refine leaves_cons (f := 27) (args := #[.pointer (some ⟨E, 0, none⟩)]) (by simp) (by simp [go_sem]) ?_
    refine (caught_oops ⟨E, 0, none⟩ 0 er _ (blk_cell kE 0) (blk_frozen kE 0)).mono ?_
    rintro e u' w'' ⟨rfl, rfl, rfl⟩
    have key : inPost E R M reqObj reqB s w (.returned (.tuple #[])) (w1.setCell ⟨E, 0, none⟩ (.int .i64 er)) := by
      refine ⟨rfl, (but3_own hk).set (.inl rfl), ?_⟩
      rw [HR.out]
      refine ⟨by have := blk_setT (o := 0) kE (.int .i64 er); simpa using this, ⟨o, (Below.heap_setCell _ _ _ _ (fun h => n1 h.symm)).trans ho⟩, (Below.heap_setCell _ _ _ _ (fun h => n2 h.symm)).trans ((hk.other (fun h => n3 h.symm) hM).trans hM.symm)⟩
    simpa [Leaves, settle, results, Tryz.results26, go_sem] using key
  | ok q =>
    obtain ⟨hs', b, n⟩ := q
    have HR := Aside0.mk hr
    clear hr
    go_enter_defers Tryz.func26, Tryz.ntmps26
    go_wp2_with (go_at_call 28; (with_reducible refine hrd.mono ?_); intro e w1 hp; obtain ⟨A, c, base, rfl, hb1, hb2, hk, ho⟩ := readPost_ok HR.out hp; have kM := hk.other (fun h => n3 h.symm) hM; have m0 := blk_cell kM 0; have m1 := blk_cell kM 1; have m2 := blk_cell kM 2; have g0 := blk_frozen kM 0; have g1 := blk_frozen kM 1; have g2 := blk_frozen kM 2)
    refine leaves_cons (f := 27) (args := #[.pointer (some ⟨E, 0, none⟩)]) (by simp) (by simp [go_sem]) ?_
    refine (caught_idle ⟨E, 0, none⟩ _).mono ?_
    rintro e u' w'' ⟨rfl, rfl, rfl⟩
    have key : inPost E R M reqObj reqB s w (.returned (.tuple #[])) (((w1.setCell ⟨M, 0, none⟩ (.slice A hs'.length c)).setCell ⟨M, 1, none⟩ (.string (bs b))).setCell ⟨M, 2, none⟩ (.int .i64 n)) := by
      have hn : ∀ {k : Nat} {o : Obj}, k ≠ M → w1.heap[k]? = some o → (((w1.setCell ⟨M, 0, none⟩ (.slice A hs'.length c)).setCell ⟨M, 1, none⟩ (.string (bs b))).setCell ⟨M, 2, none⟩ (.int .i64 n)).heap[k]? = some o := fun h hx =>
        (Below.heap_setCell _ _ _ _ h).trans ((Below.heap_setCell _ _ _ _ h).trans ((Below.heap_setCell _ _ _ _ h).trans hx))
      have hMl : M < w.heap.size := (Array.getElem?_eq_some_iff.1 hM).1
      refine ⟨rfl, (((but3_own hk).set (.inr rfl)).set (.inr rfl)).set (.inr rfl), ?_⟩
      rw [HR.out]
      refine ⟨(hn n2 (hk.other n1 hE)).trans hE.symm, hn n3 ho, A, c, base, ?_, hb1, ownsRow_same hb2 (fun g cs hg hx => hn (by omega) hx)⟩
      have := blk_setT (o := 2) (blk_setT (o := 1) (blk_setT (o := 0) kM (.slice A hs'.length c)) (.string (bs b))) (.int .i64 (n : Nat))
      simpa using this
    simpa [Leaves, settle, results, Tryz.results26, go_sem] using key
set_option maxRecDepth 100000 in
set_option maxHeartbeats 4000000 in
theorem told_in (E S R M : Nat) (hne : E ≠ R ∧ E ≠ M ∧ R ≠ M ∧ S ≠ E ∧ S ≠ R ∧ S ≠ M) (hf : 0 ≠ R ∧ 1 ≠ R ∧ 2 ≠ R ∧ 4 ≠ R) (s : List UInt8) (hs : s.length ≤ 1048576) (w : World) (HL : Laid0 w)
    (hE : w.heap[E]? = some (.cells #[.int .i64 0] 26 (0, 0))) (hS : w.heap[S]? = some (.cells #[.string (bs s)] 9 (0, 0))) (hR : w.heap[R]? = some (tldObj none)) (hM : w.heap[M]? = some (.cells #[.slice none 0 0, .string ByteArray.empty, .int .i64 0] 66 (0, 0))) :
    Calls Tryz.prog 37 #[.pointer (some ⟨E, 0, none⟩), .pointer (some ⟨S, 0, none⟩), .pointer (some ⟨R, 0, none⟩), .pointer (some ⟨M, 0, none⟩)] w (inPost E R M tldObj tldB s w) := by
  have hrd := read_any 38 #[.pointer (some ⟨R, 0, none⟩)] (enters_of Tryz.func38 (by kernel_rfl) rfl) tldB R tldObj (tld_first R) (fun o => by cases o <;> rfl) hf s hs w HL hR
  have cS := blk_cell hS 0
  obtain ⟨n1, n2, n3, n4, n5, n6⟩ := hne
  cases hr : readL tldB s with
  | error er =>
    have HR := Aside0.mk hr
    clear hr
    go_enter_defers Tryz.func37, Tryz.ntmps37
    go_wp2_with (go_at_call 28; (with_reducible refine hrd.mono ?_); intro e w1 hp; obtain ⟨rfl, hk, o, ho⟩ := readPost_error HR.out hp)
    have kE : w1.heap[E]? = some (.cells #[.int .i64 0] 26 (0, 0)) := hk.other n1 hE
    refine leaves_cons (f := 27) (args := #[.pointer (some ⟨E, 0, none⟩)]) (by simp) (by simp [go_sem]) ?_
    refine (caught_oops ⟨E, 0, none⟩ 0 er _ (blk_cell kE 0) (blk_frozen kE 0)).mono ?_
    rintro e u' w'' ⟨rfl, rfl, rfl⟩
    have key : inPost E R M tldObj tldB s w (.returned (.tuple #[])) (w1.setCell ⟨E, 0, none⟩ (.int .i64 er)) := by
      refine ⟨rfl, (but3_own hk).set (.inl rfl), ?_⟩
      rw [HR.out]
      refine ⟨by have := blk_setT (o := 0) kE (.int .i64 er); simpa using this, ⟨o, (Below.heap_setCell _ _ _ _ (fun h => n1 h.symm)).trans ho⟩, (Below.heap_setCell _ _ _ _ (fun h => n2 h.symm)).trans ((hk.other (fun h => n3 h.symm) hM).trans hM.symm)⟩
    simpa [Leaves, settle, results, Tryz.results37, go_sem] using key
  | ok q =>
    obtain ⟨hs', b, n⟩ := q
    have HR := Aside0.mk hr
    clear hr
    go_enter_defers Tryz.func37, Tryz.ntmps37
    go_wp2_with (go_at_call 28; (with_reducible refine hrd.mono ?_); intro e w1 hp; obtain ⟨A, c, base, rfl, hb1, hb2, hk, ho⟩ := readPost_ok HR.out hp; have kM := hk.other (fun h => n3 h.symm) hM; have m0 := blk_cell kM 0; have m1 := blk_cell kM 1; have m2 := blk_cell kM 2; have g0 := blk_frozen kM 0; have g1 := blk_frozen kM 1; have g2 := blk_frozen kM 2)
    refine leaves_cons (f := 27) (args := #[.pointer (some ⟨E, 0, none⟩)]) (by simp) (by simp [go_sem]) ?_
    refine (caught_idle ⟨E, 0, none⟩ _).mono ?_
    rintro e u' w'' ⟨rfl, rfl, rfl⟩
    have key : inPost E R M tldObj tldB s w (.returned (.tuple #[])) (((w1.setCell ⟨M, 0, none⟩ (.slice A hs'.length c)).setCell ⟨M, 1, none⟩ (.string (bs b))).setCell ⟨M, 2, none⟩ (.int .i64 n)) := by
      have hn : ∀ {k : Nat} {o : Obj}, k ≠ M → w1.heap[k]? = some o → (((w1.setCell ⟨M, 0, none⟩ (.slice A hs'.length c)).setCell ⟨M, 1, none⟩ (.string (bs b))).setCell ⟨M, 2, none⟩ (.int .i64 n)).heap[k]? = some o := fun h hx =>
        (Below.heap_setCell _ _ _ _ h).trans ((Below.heap_setCell _ _ _ _ h).trans ((Below.heap_setCell _ _ _ _ h).trans hx))
      have hMl : M < w.heap.size := (Array.getElem?_eq_some_iff.1 hM).1
      refine ⟨rfl, (((but3_own hk).set (.inr rfl)).set (.inr rfl)).set (.inr rfl), ?_⟩
      rw [HR.out]
      refine ⟨(hn n2 (hk.other n1 hE)).trans hE.symm, hn n3 ho, A, c, base, ?_, hb1, ownsRow_same hb2 (fun g cs hg hx => hn (by omega) hx)⟩
      have := blk_setT (o := 2) (blk_setT (o := 1) (blk_setT (o := 0) kM (.slice A hs'.length c)) (.string (bs b))) (.int .i64 (n : Nat))
      simpa using this
    simpa [Leaves, settle, results, Tryz.results37, go_sem] using key
end Go.Proofs.YtddjhmelniphgaaGreatDoor.Print
