/- Laws of a range over a function whose rounds may panic, and whose iterator keeps a state of its own: for a walk that knows in which function's frame it is. -/
import Derived.Test.YtddjhmelniphgaaGreatDoorHSeq
namespace Go.Proofs.YtddjhmelniphgaaGreatDoor.Print
open Go Go.RowKit
set_option linter.unusedVariables false
variable {n : Nat} {P : Program}

/-- A walk in a frame of the function f. -/
def WpF (n : Nat) (P : Program) (f : FuncId) (c : Code) (Q : Exit → Act → World → Prop) (a : Act) (w : World) : Prop :=
  ∀ (b : Frame) (k : List Item) (cs : List Frame), b.fn = f → b.roundOf = none →
    ∃ e a' w', Q e a' w' ∧ ArrivesIn (Machine.fenced P Fence.wide) P (lone (b.atR a (.code c :: k)) cs w) b k cs e a' w'
theorem wpF_of {f : FuncId} {c : Code} {Q : Exit → Act → World → Prop} {a : Act} {w : World} (h : c.wpIn Fence.wide n P Q a w) : WpF n P f c Q a w := fun b k cs _ hro => h b k cs hro trivial (room_wide _)
theorem calmW {fr : Frame} {cs : List Frame} {w : World} (ha : fr.about P w = none) : (lone fr cs w).fenced P Fence.wide := fenced_calm (n := 0) trivial (room_wide _) ha
theorem wpF_seq {f : FuncId} {x y : Code} {Q : Exit → Act → World → Prop} {a : Act} {w : World} (h : WpF n P f x (Exit.then (WpF n P f y Q) Q) a w) : WpF n P f (Code.seq x y) Q a w := by
  intro b k cs hf hro
  obtain ⟨e, a₁, w₁, hq, ha⟩ := h b (.code y :: k) cs hf hro
  have s0 : StepsIn (Machine.fenced P Fence.wide) P (lone (b.atR a (.code (.seq x y) :: k)) cs w) (lone (b.atR a (.code x :: .code y :: k)) cs w) := .one (calmW rfl) stepR_seq
  cases e with
  | normal =>
    obtain ⟨e₂, a₂, w₂, hq₂, ha₂⟩ := hq b k cs hf hro
    exact ⟨e₂, a₂, w₂, hq₂, .of_steps (StepsIn.trans s0 ha) ha₂⟩
  | exit id => exact ⟨_, a₁, w₁, hq, .of_steps s0 (.pass (x := .code y) rfl (fun _ _ => .inl (by simp)) ha)⟩
  | goto l => exact ⟨_, a₁, w₁, hq, .of_steps s0 (.pass (x := .code y) rfl (fun _ _ => .inl (by simp)) ha)⟩
  | ret => exact ⟨_, a₁, w₁, hq, .of_steps s0 (.pass (x := .code y) rfl (fun _ _ => .inl (by simp)) ha)⟩
  | panic ch => exact ⟨_, a₁, w₁, hq, .of_steps s0 (.pass (x := .code y) rfl (fun _ _ => .inl (by simp)) ha)⟩
  | outgrown => exact ⟨_, a₁, w₁, hq, .of_steps s0 (.pass (x := .code y) rfl (fun _ _ => .inl (by simp)) ha)⟩
/-- A block out of which nothing jumps. -/
theorem wpF_block {f : FuncId} {id : Nat} {c : Code} {Q : Exit → Act → World → Prop} {a : Act} {w : World} (h : WpF n P f c (fun e a w => (e = .normal ∨ ∃ ch, e = .panic ch) ∧ Q e a w) a w) : WpF n P f (Code.block id c) Q a w := by
  intro b k cs hf hro
  obtain ⟨e, a₁, w₁, ⟨he, hq⟩, ha⟩ := h b (.inBlock id :: k) cs hf hro
  have s0 : StepsIn (Machine.fenced P Fence.wide) P (lone (b.atR a (.code (.block id c) :: k)) cs w) (lone (b.atR a (.code c :: .inBlock id :: k)) cs w) := .one (calmW rfl) stepR_block
  rcases he with rfl | ⟨ch, rfl⟩
  · exact ⟨.normal, a₁, w₁, hq, StepsIn.trans s0 (StepsIn.trans ha (.one (calmW rfl) stepR_inBlock))⟩
  · exact ⟨_, a₁, w₁, hq, .of_steps s0 ha⟩
theorem wpF_mono {f : FuncId} {c : Code} {Q Q' : Exit → Act → World → Prop} {a : Act} {w : World} (h : WpF n P f c Q a w) (hq : ∀ e a w, Q e a w → Q' e a w) : WpF n P f c Q' a w :=
  fun b k cs hf hro => let ⟨e, a', w', q, r⟩ := h b k cs hf hro; ⟨e, a', w', hq _ _ _ q, r⟩
/-- A function's contract from its body's walk. -/
theorem calls_of_wpF {f : FuncId} {fn : Func} {c : Code} {args : Array Value} {w : World} {R : Ending → World → Prop} (hf : P.funcs[f]? = some fn) (hb : fn.body = some c)
    (h : WpF n P f c (bodyPostM Fence.wide n P fn R) { tmps := args ++ Array.replicate (fn.ntmps - args.size) undef, defers := [] } w) : Calls P f args w R := by
  refine (callsIn_wide (n := n)).1 ⟨trivial, fun cs hr => ?_⟩
  obtain ⟨b, hbd⟩ : ∃ b : Frame, b = { (default : Frame) with fn := f, kind := .normal, roundOf := none } := ⟨_, rfl⟩
  have h1 : b.fn = f := by rw [hbd]
  have h2 : b.roundOf = none := by rw [hbd]
  have h3 : b.kind = .normal := by rw [hbd]
  have henter : Frame.enter P f args .normal = b.atR { tmps := args ++ Array.replicate (fn.ntmps - args.size) undef, defers := [] } [.code c] := by
    rw [hbd]; simp [Frame.enter, Frame.atR, hf, hb]
  obtain ⟨e, a', w', hq, ha⟩ := h b [] cs h1 h2
  rw [← henter] at ha
  have go : ∀ (u : FrameMode) (todo : List Item), StepsIn (Machine.fenced P Fence.wide) P (lone (Frame.enter P f args .normal) cs w) (lone { b.atR a' todo with mode := u } cs w') → LeavesInM Fence.wide n P fn a'.tmps R a'.defers u w' →
      ∃ e w' fr, R e w' ∧ ComesIn (Machine.fenced P Fence.wide) P (lone (Frame.enter P f args .normal) cs w) (lone fr cs w') e ∧ fr.fn = f ∧ fr.leaving P w' e := fun u todo hs hl => by
    obtain ⟨e', w'', fr', hR, hs', hfn, hlv⟩ := leaves_stepsInM a'.defers u w' { b.atR a' todo with mode := u } cs rfl rfl rfl (h1 ▸ hf) h3 trivial hr hl
    exact ⟨e', w'', fr', hR, ComesIn.of_steps hs hs', hfn.trans h1, hlv⟩
  cases e with
  | normal => exact go .returning [] (StepsIn.trans ha (.one (calmW rfl) (stepR_end h2))) hq
  | ret => obtain ⟨todo, hs⟩ := ha.1 h2; exact go .returning todo hs hq
  | panic chain => obtain ⟨todo, hs⟩ := ha; exact go (.panicking chain) todo hs hq
  | exit id => exact hq.elim
  | goto l => exact hq.elim
  | outgrown => exact ⟨.outgrown, w', b, hq, ha.resolve_left (by rw [h3]; simp), h1, trivial⟩

/-- How a round's body is left: off its end, or by a panic. -/
def roundP (P : Program) (l : Nat) (R : Ending → World → Prop) : Exit → Act → World → Prop
  | .normal, _, w => ∃ v w', (Instr.endRound l none).run P w = .ok v w' ∧ R (.returned v) w'
  | .panic ch, a, w => a.defers = [] ∧ R (.panicked ch) w
  | _, _, _ => False
theorem roundIn_p {l : Nat} {f : FuncId} {fd : Func} {tmps : Array Value} {assign body : Code} {w : World} {R : Ending → World → Prop} (hfd : P.funcs[f]? = some fd)
    (h : assign.wpIn (Fence.wide.inRound l) n P (Exit.then (fun a₁ w₁ => ∃ w₂, (Instr.beginRound l).run P w₁ = .ok () w₂ ∧ body.wpIn (Fence.wide.inRound l) n P (roundP P l R) a₁ w₂) (fun _ _ _ => False)) { tmps := tmps, defers := [] } w) :
    RoundIn Fence.wide n P l f tmps assign body w R := by
  refine ⟨trivial, fun c cs hr => ?_⟩
  obtain ⟨b, hbd⟩ : ∃ b : Frame, b = { (default : Frame) with fn := f, kind := .normal, roundOf := some l } := ⟨_, rfl⟩
  have h1 : b.fn = f := by rw [hbd]
  have h2 : b.roundOf = some l := by rw [hbd]
  have h3 : b.kind = .normal := by rw [hbd]
  have h0 : Frame.round l f tmps assign body .normal = b.atR { tmps := tmps, defers := [] } [.code assign, .beginRound, .code body] := by
    rw [hbd]; simp [Frame.round, Frame.atR]
  obtain ⟨e, a₁, w₁, hq, ha⟩ := h b [.beginRound, .code body] (c :: cs) h2 trivial hr
  rw [← h0] at ha
  cases e with
  | normal =>
    obtain ⟨w₂, hbr, hbody⟩ := hq
    have s1 : StepsIn (Machine.fenced P Fence.wide) P (lone (b.atR a₁ [.beginRound, .code body]) (c :: cs) w₁) (lone (b.atR a₁ [.code body]) (c :: cs) w₂) := .one (calmW rfl) (stepR_beginRound h2 hbr)
    obtain ⟨e₂, a₂, w₃, hq₂, ha₂⟩ := hbody b [] (c :: cs) h2 trivial hr
    cases e₂ with
    | normal =>
      obtain ⟨v, w₄, hend, hR⟩ := hq₂
      exact ⟨.returned v, w₄, hR, (StepsIn.trans ha s1).trans (StepsIn.trans ha₂ (.one (calmW rfl) (stepR_round_end h2 h3 hend)))⟩
    | panic ch =>
      obtain ⟨hd, hR⟩ := hq₂
      obtain ⟨todo, hs⟩ := ha₂
      refine ⟨.panicked ch, w₃, hR, (StepsIn.trans ha s1).trans (StepsIn.trans hs (.one ?_ (step_leave_panicked ⟨rfl, hd, fd, h1 ▸ hfd⟩)))⟩
      exact calmW (by simp [Frame.about, Frame.atR, hd])
    | ret => exact hq₂.elim
    | exit id => exact hq₂.elim
    | goto t => exact hq₂.elim
    | outgrown => exact hq₂.elim
  | exit id => exact hq.elim
  | goto t => exact hq.elim
  | ret => exact hq.elim
  | panic chain => exact hq.elim
  | outgrown => exact hq.elim

/-- What an iterator's steps and the loop's own book-keeping leave alone. -/
structure Calm (B n₀ : Nat) (W W' : World) : Prop where
  os : W'.os = W.os
  tape : W'.tape = W.tape
  output : W'.output = W.output
  size : W.heap.size ≤ W'.heap.size
  old : ∀ k, k < n₀ → k ≠ B → W'.heap[k]? = W.heap[k]?
  cells : ∀ k o, W.heap[k]? = some o → o.isCells = true → k ≠ B → W'.heap[k]? = some o
theorem OwnStep.calm {B n₀ : Nat} {W W' : World} (h : OwnStep B W W') (hn : n₀ ≤ W.heap.size) : Calm B n₀ W W' := ⟨h.1, h.2.1, h.2.2.1, h.2.2.2.1, fun k hk hne => h.2.2.2.2 k (by omega) hne, fun k o ho _ hne => h.other hne ho⟩
theorem Calm.alloc {B n₀ : Nat} (W : World) (o : Obj) (hn : n₀ ≤ W.heap.size) : Calm B n₀ W (W.alloc o) :=
  ⟨rfl, rfl, rfl, by simp, fun k hk _ => Below.heap_alloc W o k (by omega), fun k o' ho _ _ => (Below.heap_alloc W o k (Array.getElem?_eq_some_iff.1 ho).1).trans ho⟩
theorem Calm.putObj {B n₀ l : Nat} {W : World} {o : Obj} (o' : Obj) (hl : W.heap[l]? = some o) (hc : o.isCells = false) (hn : n₀ ≤ l) : Calm B n₀ W (W.putObj l o') :=
  ⟨rfl, rfl, rfl, by simp [World.putObj], fun k hk _ => World.putObj_heap_other (by omega), fun k o2 ho h2 _ => (World.putObj_heap_other (fun e => by subst e; rw [hl] at ho; cases ho; rw [hc] at h2; cases h2)).trans ho⟩
theorem Calm.trans {B n₀ : Nat} {A C D : World} (h : Calm B n₀ A C) (k : Calm B n₀ C D) : Calm B n₀ A D :=
  ⟨k.os.trans h.os, k.tape.trans h.tape, k.output.trans h.output, Nat.le_trans h.size k.size, fun i hi hne => (k.old i hi hne).trans (h.old i hi hne), fun i o ho hc hne => k.cells i o (h.cells i o ho hc hne) hc hne⟩

theorem endLoop_none {w : World} {l : Nat} {r : Loop} (hl : w.heap[l]? = some (.loop r)) (hb : r.state ≠ .busy) (hp : r.pending = none) : ∃ o', (Instr.endLoop l).run P w = .ok none (w.putObj l (.loop o')) :=
  ⟨{ r with state := .exhausted }, by rw [run_endLoop hl hb, hp]⟩
/-- The contract of an iterator's value: it yields the values L one by one, whatever its rounds' panics are they pass. -/
def SeqP {α : Type} (P : Program) (g : Nat) (lb : Array Value) (encs : α → Array Value) (Kp : World → World → Prop) (B : Nat) (L : List α) (w : World) : Prop :=
  ∀ (n l : Nat) (J : List α → World → Prop) (Jp : List PanicEntry → World → Prop), (∀ s A C, J s A → OwnStep B A C → J s C) →
    ∀ W : World, Below w.heap.size w W →
    (∀ pre x W1, J pre W1 → pre ++ [x] <+: L → YieldAt Fence.wide (n - 1) P l (encs x) W1 fun e W' =>
      (e = .returned (.bool true) ∧ J (pre ++ [x]) W' ∧ Kp W1 W') ∨ (∃ ch, e = .panicked ch ∧ Jp ch W')) →
    J [] W →
    CallsIn Fence.wide n P g (#[.func (.yield l) #[] #[]] ++ lb) W fun e W' => (∃ v, e = .returned v) ∧ J L W' ∨ ∃ ch, e = .panicked ch ∧ Jp ch W'

/-- How a round's body is left, as the caller has it. -/
def postP {α : Type} (Kp : World → World → Prop) (I : List α → World → Prop) (Ip : List PanicEntry → World → Prop) (xs : List α) (W : World) : Exit → Act → World → Prop
  | .normal, _, W' => KeepsOthers W W' ∧ Kp W W' ∧ I xs W'
  | .panic ch, a, W' => a.defers = [] ∧ KeepsOthers W W' ∧ Ip ch W'
  | _, _, _ => False

theorem wpF_range {α : Type} {g : Operand} {ps : Array Tmp} {assign body : Code} {Q : Exit → Act → World → Prop} {a : Act} {w : World} {f : FuncId} {fd : Func} {B : Nat} (hfd : P.funcs[f]? = some fd)
    {gf : Nat} {lb : Array Value} (hg : a.eval g = .func (.func gf) #[] lb) (eg : ∀ args w, (callFunc gf args).run P w = .ok (.enter gf args) w)
    {encs : α → Array Value} {Kp : World → World → Prop} {L : List α} {w0 : World} (hseq : SeqP P gf lb encs Kp B L w0) (hB : B < w.heap.size)
    (hKt : ∀ {A C D : World}, Kp A C → Kp C D → Kp A D) (hKb : ∀ (W : World) (l : Nat) (o o' : Obj), w.heap.size ≤ l → W.heap[l]? = some o → Kp W (W.putObj l o')) (hb0 : Below w0.heap.size w0 w) (hps : ∀ x, (encs x).size = ps.size)
    (I : List α → World → Prop) (Ip : List PanicEntry → World → Prop) (hI : ∀ s A C, I s A → Calm B w.heap.size A C → I s C) (h0 : I [] w)
    (hround : ∀ (l : Nat) (pre : List α) (x : α) (W : World), I pre W → pre ++ [x] <+: L →
      assign.wpIn (Fence.wide.inRound l) (n - 1 - 1) P (Exit.then (fun a₁ W₁ => W₁ = W ∧ ∀ W2, I pre W2 → body.wpIn (Fence.wide.inRound l) (n - 1 - 1) P (postP Kp I Ip (pre ++ [x]) W2) a₁ W2) (fun _ _ _ => False)) { tmps := (ps.zip (encs x)).foldl (fun t (p, v) => t.setIfInBounds p v) a.tmps, defers := [] } W)
    (hdone : ∀ (D : Nat) (W : World), w.heap.size ≤ D → I L W → W.heap[D]? = some (.deferred (some [])) → Q .normal { a with defers := { target := .collected D, args := #[] } :: a.defers } W)
    (hpanic : ∀ (D : Nat) (ch : List PanicEntry) (W : World), w.heap.size ≤ D → Ip ch W → W.heap[D]? = some (.deferred (some [])) → Q (.panic ch) { a with defers := { target := .collected D, args := #[] } :: a.defers } W) :
    WpF n P f (Code.rangeFunc g ps assign body) Q a w := by
  intro b k cs hbf hro
  obtain ⟨rec, hrec⟩ : ∃ rec : LoopState → Option Code → Loop, rec = fun st pe => { state := st, pending := pe, fn := f, tmps := a.tmps, params := ps, assign, body, defers := w.heap.size } := ⟨_, rfl⟩
  obtain ⟨W1, hW1⟩ : ∃ W1, (w.alloc (.deferred (some []))).alloc (.loop (rec .ready none)) = W1 := ⟨_, rfl⟩
  have hL1 : W1.heap[w.heap.size + 1]? = some (.loop (rec .ready none)) := by
    rw [← hW1]; have := World.alloc_heap_new (w.alloc (.deferred (some []))) (.loop (rec .ready none)); rwa [World.size_alloc] at this
  have hK1 : W1.heap[w.heap.size]? = some (.deferred (some [])) := by
    rw [← hW1]; exact (Below.heap_alloc _ _ _ (by simp)).trans (World.alloc_heap_new w _)
  have hI1 : I [] W1 := by rw [← hW1]; exact hI _ _ _ h0 ((Calm.alloc w _ (Nat.le_refl _)).trans (Calm.alloc _ _ (by simp)))
  have hb1 : Below w0.heap.size w0 W1 := by
    rw [← hW1]; exact hb0.trans ((((Below.refl _ w).alloc (Nat.le_refl _) _).alloc (by simp) _).mono hb0.size)
  have he : (Instr.enterLoop b.fn a.tmps ps assign body b.roundOf).run P w = .ok (w.heap.size + 1, [{ target := .collected w.heap.size, args := #[] }]) W1 := by
    rw [hbf, hro, ← hW1, hrec]; exact run_enterLoop_outer _ _ _ _ _
  have hres : (resolve a.eval (rangeCall g (w.heap.size + 1)) 0).run P W1 = .ok { target := .fn (.func gf) lb, args := #[.func (.yield (w.heap.size + 1)) #[] #[]] } W1 := by
    simp only [resolve, hg]
    simp [go_sem]
  have hinv : (invoke (.fn (.func gf) lb) #[.func (.yield (w.heap.size + 1)) #[] #[]]).run P W1 = .ok (.enter gf (#[.func (.yield (w.heap.size + 1)) #[] #[]] ++ lb)) W1 := by simp [invoke, go_sem, eg]
  have hne : w.heap.size + 1 ≠ B ∧ w.heap.size ≠ B := by omega
  have hi0 : (lone (b.atR a (.code (.rangeFunc g ps assign body) :: k)) cs w).fenced P Fence.wide := fenced_lone (.inl trivial) (fun _ _ => trivial) (room_wide _)
  have henter := stepR_rangeFunc (P := P) (b := b) (a := a) (k := k) (cs := cs) (w := w) he hres hinv
  have hcall := hseq (n - 1) (w.heap.size + 1)
      (fun pre W => I pre W ∧ W.heap[w.heap.size + 1]? = some (.loop (rec .ready none)) ∧ W.heap[w.heap.size]? = some (.deferred (some [])))
      (fun ch W => Ip ch W ∧ W.heap[w.heap.size]? = some (.deferred (some [])))
      (fun s A C hs hc => ⟨hI s A C hs.1 (hc.calm (by have := (Array.getElem?_eq_some_iff.1 hs.2.2).1; omega)), hc.other hne.1 hs.2.1, hc.other hne.2 hs.2.2⟩)
      W1 hb1 (fun pre x W hj hpre => by
        obtain ⟨hi, hl, hk⟩ := hj
        have hlt : w.heap.size + 1 < W.heap.size := (Array.getElem?_eq_some_iff.1 hl).1
        have hy := run_yield (P := P) (args := encs x) hl (by rw [hrec]; exact hps x)
        rw [hrec] at hy
        refine ⟨f, _, assign, body, hy, roundIn_p hfd (wpIn_mono (hround _ pre x W hi hpre) ?_)⟩
        rintro e0 a0 W0 h0
        cases e0 with
        | ret => exact h0.elim
        | exit id => exact h0.elim
        | goto t => exact h0.elim
        | panic c => exact h0.elim
        | outgrown => exact h0.elim
        | normal =>
        obtain ⟨e1, hbody⟩ := h0
        replace e1 := e1.symm
        subst e1
        refine ⟨_, run_beginRound hl (by rw [hrec]), ?_⟩
        have hl2 : (W.putObj (w.heap.size + 1) (.loop { rec .ready none with state := .busy })).heap[w.heap.size + 1]? = some (.loop { rec .ready none with state := .busy }) := World.putObj_heap_same hlt
        have hk2 : (W.putObj (w.heap.size + 1) (.loop { rec .ready none with state := .busy })).heap[w.heap.size]? = some (.deferred (some [])) := (World.putObj_heap_other (by omega)).trans hk
        have hw2 : Kp W (W.putObj (w.heap.size + 1) (.loop { rec .ready none with state := .busy })) := hKb _ _ _ _ (by omega) hl
        refine wpIn_mono (hbody _ (hI _ _ _ hi (Calm.putObj _ hl rfl (by omega)))) ?_
        rintro e a3 W3 hp
        cases e with
        | normal =>
          obtain ⟨hk3, hkp3, hi3⟩ := hp
          have hl3 := hk3.same _ _ hl2 rfl
          have hr := run_endRound (P := P) none hl3
          rw [hrec] at hr
          refine ⟨_, _, hr, .inl ⟨rfl, ⟨hI _ _ _ hi3 (Calm.putObj _ hl3 rfl (by omega)), ?_, (World.putObj_heap_other (by omega)).trans (hk3.same _ _ hk2 rfl)⟩, hKt (hKt hw2 hkp3) (hKb _ _ _ _ (by omega) hl3)⟩⟩
          rw [hrec]; exact World.putObj_heap_same (Array.getElem?_eq_some_iff.1 hl3).1
        | panic ch =>
          obtain ⟨hd, hk3, hi3⟩ := hp
          exact ⟨hd, .inr ⟨ch, rfl, hi3, hk3.same _ _ hk2 rfl⟩⟩
        | ret => exact hp.elim
        | exit id => exact hp.elim
        | goto t => exact hp.elim
        | outgrown => exact hp.elim) ⟨hI1, hL1, hK1⟩
  obtain ⟨e, w₃, fr, hR, hsteps, hfr, hleave⟩ := hcall.2 (b.atR { a with defers := [{ target := .collected w.heap.size, args := #[] }] ++ a.defers } (.inRangeFunc (w.heap.size + 1) :: k) :: cs) (room_wide _)
  rcases hR with ⟨⟨v, rfl⟩, hi, hl, hk⟩ | ⟨ch, rfl, hi, hk⟩
  · obtain ⟨o', hend⟩ := endLoop_none (P := P) hl (by rw [hrec]; simp) (by rw [hrec])
    refine ⟨.normal, { a with defers := { target := .collected w.heap.size, args := #[] } :: a.defers }, _, hdone w.heap.size (w₃.putObj (w.heap.size + 1) (.loop o')) (Nat.le_refl _) (hI _ _ _ hi (Calm.putObj _ hl rfl (by omega))) ((World.putObj_heap_other (by omega)).trans hk), ?_⟩
    have s2 : step P (lone fr (b.atR { a with defers := [{ target := .collected w.heap.size, args := #[] }] ++ a.defers } (.inRangeFunc (w.heap.size + 1) :: k) :: cs) w₃) = .next (lone (b.atR { a with defers := [{ target := .collected w.heap.size, args := #[] }] ++ a.defers } (.endRangeFunc (w.heap.size + 1) :: k)) cs w₃) := by
      rw [← finish_atR_inRangeFunc (w.heap.size + 1) v]; exact step_leave_returned hleave
    exact .head hi0 henter (StepsIn.trans hsteps (.head (fenced_leaving (n := n) trivial (room_wide _) hleave) s2 (.one (calmW rfl) (stepR_endRangeFunc hend))))
  · refine ⟨.panic ch, _, w₃, hpanic w.heap.size ch _ (Nat.le_refl _) hi hk, .inRangeFunc (w.heap.size + 1) :: k, .head hi0 henter (StepsIn.trans hsteps (.one (fenced_leaving (n := n) trivial (room_wide _) hleave) ?_))⟩
    rw [← Frame.raise_atR]; exact step_leave_panicked hleave
end Go.Proofs.YtddjhmelniphgaaGreatDoor.Print
