/- Contracts of the functions that read a first line: of a request, of a response. -/
import Derived.Test.YtddjhmelniphgaaGreatDoorHTLen
namespace Go.Proofs.YtddjhmelniphgaaGreatDoor.Print
open Go Go.RowKit Go.Proofs.YtddjhmelniphgaaGreatDoorW.PrintWords Go.Proofs.YtddjhmelniphgaaGreatDoorW.PrintLast
set_option linter.unusedVariables false
set_option linter.unusedSimpArgs false
theorem blk_setT {W : World} {R o : Nat} {cs : Array Value} {t : TypeId} (h : W.heap[R]? = some (.cells cs t (0, 0))) (v : Value) : (W.setCell ⟨R, o, none⟩ v).heap[R]? = some (.cells (cs.setIfInBounds o v) t (0, 0)) := by
  simp [World.setCell, Array.getElem?_modify, h]
theorem OwnStep.trans {B : Nat} {A C D : World} (h : OwnStep B A C) (k : OwnStep B C D) : OwnStep B A D :=
  ⟨k.1.trans h.1, k.2.1.trans h.2.1, k.2.2.1.trans h.2.2.1, Nat.le_trans h.2.2.2.1 k.2.2.2.1, fun i hi hne => (k.2.2.2.2 i (Nat.lt_of_lt_of_le hi h.2.2.2.1) hne).trans (h.2.2.2.2 i hi hne)⟩
theorem step_put (B o : Nat) (W : World) (v : Value) : OwnStep B W (W.setCell ⟨B, o, none⟩ v) := ⟨rfl, rfl, rfl, by simp [World.setCell], fun k _ h => Below.heap_setCell _ _ _ _ h⟩
/-- The contract of a function that reads a first line: what it says of it, and what it lays into the block R. -/
def FirstC (g : Nat) (lb : Array Value) (p : List UInt8 → Bool) (R : Nat) (obj : Option (List UInt8) → Obj) : Prop :=
  ∀ (W : World) (line : List UInt8), W.heap[R]? = some (obj none) → Laid0 W → line.length ≤ 1048576 →
    Calls Tryz.prog g (#[.string (bs line)] ++ lb) W fun e W' => e = .returned (.bool (p line)) ∧ OwnStep R W W' ∧ W'.heap[R]? = some (obj (some line))
theorem cut_le (s sep : List UInt8) : (Lib.cut s sep).1.length ≤ s.length ∧ (Lib.cut s sep).2.1.length ≤ s.length := by
  unfold Lib.cut
  split
  · simp; omega
  · simp
/-! ### a request -/
def reqM (l : List UInt8) : List UInt8 := (Lib.cut l [32]).1
def reqT (l : List UInt8) : List UInt8 := (Lib.cut (Lib.cut l [32]).2.1 [32]).1
def reqV (l : List UInt8) : List UInt8 := (Lib.cut (Lib.cut l [32]).2.1 [32]).2.1
def reqB (l : List UInt8) : Bool := tokenB (bs (reqM l)) && targetB (bs (reqT l)) && ((bs (reqV l)).toList == ([72, 84, 84, 80, 47, 49, 46, 49] : List UInt8))
def reqObj : Option (List UInt8) → Obj
  | none => .cells #[.string ByteArray.empty, .string ByteArray.empty, .slice none 0 0, .string ByteArray.empty] 25 (0, 0)
  | some l => .cells #[.string (bs (reqM l)), .string (bs (reqT l)), .slice none 0 0, .string ByteArray.empty] 25 (0, 0)
set_option maxRecDepth 100000 in
set_option maxHeartbeats 2000000 in
theorem req_first (R : Nat) : FirstC 29 #[.pointer (some ⟨R, 0, none⟩)] reqB R reqObj := fun W line hR HL hlen => by
  obtain ⟨m, hm⟩ := HL.max
  have hl1 := cut_le line [32]
  have hcut1 := cut_any line [32] (by omega) W m hm
  have hcut2 := fun W2 (hb : Below W.heap.size W W2) => cut_any (Lib.cut line [32]).2.1 [32] (by omega) W2 m ((hb.cell (Lib.lt_of_cell hm)).trans hm)
  have HP := Aside0.mk (show reqB line = (tokenB (bs (reqM line)) && targetB (bs (reqT line)) && ((bs (reqV line)).toList == ([72, 84, 84, 80, 47, 49, 46, 49] : List UInt8))) from rfl)
  have hO : reqObj (some line) = .cells #[.string (bs (reqM line)), .string (bs (reqT line)), .slice none 0 0, .string ByteArray.empty] 25 (0, 0) := rfl
  have HO := Aside0.mk hO
  have eM : (Lib.cut line [32]).1 = reqM line := rfl
  have eT : (Lib.cut (Lib.cut line [32]).2.1 [32]).1 = reqT line := rfl
  have eV : (Lib.cut (Lib.cut line [32]).2.1 [32]).2.1 = reqV line := rfl
  rw [eM] at hcut1
  simp only [eT, eV] at hcut2
  clear eM eT eV
  have e32 : bs [32] = (⟨#[32]⟩ : ByteArray) := rfl
  rw [e32] at hcut1
  simp only [e32] at hcut2
  clear e32
  have htok := fun W2 => token_any (bs (reqM line)) W2
  have htar := fun W2 => target_any (bs (reqT line)) W2
  have hR : W.heap[R]? = some (.cells #[.string ByteArray.empty, .string ByteArray.empty, .slice none 0 0, .string ByteArray.empty] 25 (0, 0)) := hR
  clear hO hm HL hlen hl1
  generalize reqM line = me at *
  generalize reqT line = ta at *
  generalize reqV line = ve at *
  generalize (Lib.cut line [32]).2.1 = re at *
  generalize (Lib.cut line [32]).2.2 = f1 at *
  generalize (Lib.cut re [32]).2.2 = f2 at *
  generalize tokenB (bs me) = b1 at *
  generalize targetB (bs ta) = b2 at *
  generalize hq : ((bs ve).toList == ([72, 84, 84, 80, 47, 49, 46, 49] : List UInt8)) = b3 at *
  have c0 := blk_cell hR 0
  have c1 := blk_cell hR 1
  have d0 := blk_frozen hR 0
  have d1 := blk_frozen hR 1
  have hRl : R < W.heap.size := (Array.getElem?_eq_some_iff.1 hR).1
  have main : ∀ W2, Below W.heap.size W W2 → OwnStep R W ((W2.setCell ⟨R, 0, none⟩ (.string (bs me))).setCell ⟨R, 1, none⟩ (.string (bs ta))) ∧ ((W2.setCell ⟨R, 0, none⟩ (.string (bs me))).setCell ⟨R, 1, none⟩ (.string (bs ta))).heap[R]? = some (reqObj (some line)) := fun W2 hb => by
    refine ⟨(own_of_below hb).trans ((step_put _ _ _ _).trans (step_put _ _ _ _)), ?_⟩
    rw [HO.out, blk_setT (blk_setT (blk_below hR hb) _) _]
    simp
  have MA := Aside0.mk main
  clear main
  rw [show (#[.string (bs line)] ++ #[.pointer (some ⟨R, 0, none⟩)] : Array Value) = #[.string (bs line), .pointer (some ⟨R, 0, none⟩)] from rfl]
  cases b1 <;> cases b2 <;> cases b3
  all_goals
    have H1 := Aside0.mk HP.out
    simp only [Bool.and_true, Bool.and_false, Bool.true_and, Bool.false_and] at H1
    go_enter Tryz.func29, Tryz.ntmps29
    go_wp2_with (first | (go_at_call 30; (with_reducible refine hcut1.mono ?_); rintro e w1 ⟨rfl, hb1⟩) | (go_at_call 30; (with_reducible refine (hcut2 _ hb1).mono ?_); rintro e w2 ⟨rfl, hb2⟩; have hB := hb1.trans (hb2.mono hb1.size); have x0 := (hB.cell (p := ⟨R, 0, none⟩) hRl).trans c0; have x1 := (hB.cell (p := ⟨R, 1, none⟩) hRl).trans c1; have y0 := (hB.frozen (p := ⟨R, 0, none⟩) hRl).trans d0; have y1 := (hB.frozen (p := ⟨R, 1, none⟩) hRl).trans d1) | (go_at_call 31; refine (htok _).mono ?_; rintro e w3 ⟨rfl, hb3⟩) | (go_at_call 32; refine (htar _).mono ?_; rintro e w4 ⟨rfl, hb4⟩))
    go_ret
    obtain ⟨m1, m2⟩ := MA.out _ hB
    exact ⟨by rw [H1.out]; rfl, by first | exact (m1.trans (own_of_below hb3)).trans (own_of_below hb4) | exact m1.trans (own_of_below hb3), by first | exact blk_below (blk_below m2 hb3) hb4 | exact blk_below m2 hb3⟩
/-! ### a response -/
def tldA (l : List UInt8) : List UInt8 := Lib.trimPrefix l [72, 84, 84, 80, 47, 49, 46, 49, 32]
def tldC (l : List UInt8) : List UInt8 := (Lib.cut (tldA l) [32]).1
def tldR (l : List UInt8) : List UInt8 := (Lib.cut (tldA l) [32]).2.1
def tldB (l : List UInt8) : Bool := Lib.hasPrefix l [72, 84, 84, 80, 47, 49, 46, 49, 32] && (Lib.cut (tldA l) [32]).2.2 && puOk 16 (tldC l) && decide ((tldC l).length = 3) && decide (100 ≤ puV 16 (tldC l)) && decide (puV 16 (tldC l) ≤ 599) && valueB (bs (tldR l))
def tldObj : Option (List UInt8) → Obj
  | none => .cells #[.int .i64 0, .slice none 0 0, .string ByteArray.empty] 32 (0, 0)
  | some l => .cells #[.int .i64 (puV 16 (tldC l)), .slice none 0 0, .string ByteArray.empty] 32 (0, 0)
theorem trimPrefix_le (s p : List UInt8) : (Lib.trimPrefix s p).length ≤ s.length := by
  unfold Lib.trimPrefix
  split
  · simp
  · exact Nat.le_refl _
set_option maxRecDepth 100000 in
set_option maxHeartbeats 4000000 in
theorem tld_first (R : Nat) : FirstC 38 #[.pointer (some ⟨R, 0, none⟩)] tldB R tldObj := fun W line hR HL hlen => by
  obtain ⟨m, hm⟩ := HL.max
  have hl0 := trimPrefix_le line [72, 84, 84, 80, 47, 49, 46, 49, 32]
  have hl1 := cut_le (tldA line) [32]
  have hl2 : (tldA line).length ≤ line.length := hl0
  have hl3 : (tldC line).length ≤ (tldA line).length := hl1.1
  have hl4 : (tldR line).length ≤ (tldA line).length := hl1.2
  have hcp := fun W => Tryz.strings_CutPrefix (bs line) ⟨#[72, 84, 84, 80, 47, 49, 46, 49, 32]⟩ W
  have hcut := cut_any (tldA line) [32] (by omega) W m hm
  have hpu := fun W2 (hb : Below W.heap.size W W2) => pu16_any (tldC line) (by omega) W2 (HL.later hb)
  have hva := fun W2 => value_any (bs (tldR line)) (by show (tldR line).length ≤ _; omega) W2
  have HP := Aside0.mk (show tldB line = (Lib.hasPrefix line [72, 84, 84, 80, 47, 49, 46, 49, 32] && (Lib.cut (tldA line) [32]).2.2 && puOk 16 (tldC line) && decide ((tldC line).length = 3) && decide (100 ≤ puV 16 (tldC line)) && decide (puV 16 (tldC line) ≤ 599) && valueB (bs (tldR line))) from rfl)
  have HO := Aside0.mk (show tldObj (some line) = .cells #[.int .i64 (puV 16 (tldC line)), .slice none 0 0, .string ByteArray.empty] 32 (0, 0) from rfl)
  have eA : (⟨(Lib.trimPrefix (bs line).data.toList (⟨#[72, 84, 84, 80, 47, 49, 46, 49, 32]⟩ : ByteArray).data.toList).toArray⟩ : ByteArray) = bs (tldA line) := rfl
  have eB : Lib.hasPrefix (bs line).data.toList (⟨#[72, 84, 84, 80, 47, 49, 46, 49, 32]⟩ : ByteArray).data.toList = Lib.hasPrefix line [72, 84, 84, 80, 47, 49, 46, 49, 32] := rfl
  simp only [eA, eB] at hcp
  have eC : (Lib.cut (tldA line) [32]).1 = tldC line := rfl
  have eR : (Lib.cut (tldA line) [32]).2.1 = tldR line := rfl
  have e32 : bs [32] = (⟨#[32]⟩ : ByteArray) := rfl
  rw [eC, eR, e32] at hcut
  have hple := puV_le (B := 16) (l := tldC line)
  have hcz : ((bs (tldC line)).size : Int) = ((tldC line).length : Int) := rfl
  have hR : W.heap[R]? = some (.cells #[.int .i64 0, .slice none 0 0, .string ByteArray.empty] 32 (0, 0)) := hR
  clear eA eB eC eR e32 hm HL hl0 hl1 hl2 hl3 hl4 hlen
  generalize tldC line = co at *
  generalize tldR line = re at *
  generalize tldA line = al at *
  generalize Lib.hasPrefix line [72, 84, 84, 80, 47, 49, 46, 49, 32] = b1 at *
  generalize (Lib.cut al [32]).2.2 = b2 at *
  generalize puOk 16 co = b3 at *
  generalize puV 16 co = u at *
  generalize valueB (bs re) = b4 at *
  generalize co.length = cn at *
  have hu : u < 65536 := by omega
  clear hple
  have c0 := blk_cell hR 0
  have d0 := blk_frozen hR 0
  have hRl : R < W.heap.size := (Array.getElem?_eq_some_iff.1 hR).1
  have hwr : IntKind.i64.wrap (u : Int) = (u : Int) := by rw [IntKind.wrap_i64]; omega
  have MA := Aside0.mk (show ∀ W2, Below W.heap.size W W2 → OwnStep R W (W2.setCell ⟨R, 0, none⟩ (.int .i64 u)) ∧ (W2.setCell ⟨R, 0, none⟩ (.int .i64 u)).heap[R]? = some (tldObj (some line)) from fun W2 hb => by
    refine ⟨(own_of_below hb).trans (step_put _ _ _ _), ?_⟩
    rw [HO.out, blk_setT (blk_below hR hb) _]
    simp)
  rw [show (#[.string (bs line)] ++ #[.pointer (some ⟨R, 0, none⟩)] : Array Value) = #[.string (bs line), .pointer (some ⟨R, 0, none⟩)] from rfl]
  have HU := Aside0.mk hu
  clear hu
  have walk : ∀ (v : Value) (ok : Bool), ErrV v ok → (ok = true → v = .nilIface) ∧ (ok = false → ∃ t a, v = .iface t (.pointer (some a))) := fun v ok h => by
    rcases h with ⟨h1, h2⟩ | ⟨t, a, h1, h2⟩
    · exact ⟨fun _ => h1, fun h => by rw [h2] at h; cases h⟩
    · exact ⟨fun h => by (rw [h2] at h; cases h), fun _ => ⟨t, a, h1⟩⟩
  have WA := Aside0.mk walk
  clear walk
  cases b3 with
  | false =>
    have H1 := Aside0.mk (show tldB line = false by rw [HP.out]; simp)
    cases b1 <;> cases b2
    all_goals
      go_enter Tryz.func38, Tryz.ntmps38
      go_wp2_with (first | (go_at_call 39; refine (hcp _).mono ?_; rintro e w0 ⟨rfl, rfl⟩) | (go_at_call 30; refine hcut.mono ?_; rintro e w1 ⟨rfl, hb1⟩; have x0 := (hb1.cell (p := ⟨R, 0, none⟩) hRl).trans c0) | (go_at_call 40; refine (hpu _ hb1).mono ?_; rintro e w2 ⟨v, rfl, he, hb2⟩; obtain ⟨t, a, rfl⟩ := (WA.out v _ he).2 rfl; have hB := hb1.trans (hb2.mono hb1.size); have x0 := (hB.cell (p := ⟨R, 0, none⟩) hRl).trans c0; have y0 := (hB.frozen (p := ⟨R, 0, none⟩) hRl).trans d0))
      go_ret
      obtain ⟨m1, m2⟩ := MA.out _ hB
      exact ⟨by rw [H1.out]; rfl, m1, m2⟩
  | true =>
    by_cases h3 : cn = 3
    · subst h3
      by_cases h5 : 100 ≤ u
      · by_cases h6 : u ≤ 599
        · cases b1 <;> cases b2 <;> cases b4
          all_goals
            have H1 := Aside0.mk HP.out
            simp only [Bool.and_true, Bool.and_false, Bool.true_and, Bool.false_and, decide_eq_true h5, decide_eq_true h6, decide_true] at H1
            go_enter Tryz.func38, Tryz.ntmps38
            go_wp2_with (first | (go_at_call 39; refine (hcp _).mono ?_; rintro e w0 ⟨rfl, rfl⟩) | (go_at_call 30; refine hcut.mono ?_; rintro e w1 ⟨rfl, hb1⟩; have x0 := (hb1.cell (p := ⟨R, 0, none⟩) hRl).trans c0) | (go_at_call 40; refine (hpu _ hb1).mono ?_; rintro e w2 ⟨v, rfl, he, hb2⟩; obtain rfl := (WA.out v _ he).1 rfl; have hB := hb1.trans (hb2.mono hb1.size); have x0 := (hB.cell (p := ⟨R, 0, none⟩) hRl).trans c0; have y0 := (hB.frozen (p := ⟨R, 0, none⟩) hRl).trans d0) | (go_at_call 41; refine (hva _).mono ?_; rintro e w3 ⟨rfl, hb3⟩))
            go_ret
            obtain ⟨m1, m2⟩ := MA.out _ hB
            exact ⟨by rw [H1.out]; rfl, by first | exact m1.trans (own_of_below hb3) | exact m1, by first | exact blk_below m2 hb3 | exact m2⟩
        · have H1 := Aside0.mk (show tldB line = false by rw [HP.out, decide_eq_false h6]; simp)
          cases b1 <;> cases b2
          all_goals
            go_enter Tryz.func38, Tryz.ntmps38
            go_wp2_with (first | (go_at_call 39; refine (hcp _).mono ?_; rintro e w0 ⟨rfl, rfl⟩) | (go_at_call 30; refine hcut.mono ?_; rintro e w1 ⟨rfl, hb1⟩; have x0 := (hb1.cell (p := ⟨R, 0, none⟩) hRl).trans c0) | (go_at_call 40; refine (hpu _ hb1).mono ?_; rintro e w2 ⟨v, rfl, he, hb2⟩; obtain rfl := (WA.out v _ he).1 rfl; have hB := hb1.trans (hb2.mono hb1.size); have x0 := (hB.cell (p := ⟨R, 0, none⟩) hRl).trans c0; have y0 := (hB.frozen (p := ⟨R, 0, none⟩) hRl).trans d0))
            go_ret
            obtain ⟨m1, m2⟩ := MA.out _ hB
            exact ⟨by rw [H1.out]; rfl, m1, m2⟩
      · have H1 := Aside0.mk (show tldB line = false by rw [HP.out, decide_eq_false h5]; simp)
        cases b1 <;> cases b2
        all_goals
          go_enter Tryz.func38, Tryz.ntmps38
          go_wp2_with (first | (go_at_call 39; refine (hcp _).mono ?_; rintro e w0 ⟨rfl, rfl⟩) | (go_at_call 30; refine hcut.mono ?_; rintro e w1 ⟨rfl, hb1⟩; have x0 := (hb1.cell (p := ⟨R, 0, none⟩) hRl).trans c0) | (go_at_call 40; refine (hpu _ hb1).mono ?_; rintro e w2 ⟨v, rfl, he, hb2⟩; obtain rfl := (WA.out v _ he).1 rfl; have hB := hb1.trans (hb2.mono hb1.size); have x0 := (hB.cell (p := ⟨R, 0, none⟩) hRl).trans c0; have y0 := (hB.frozen (p := ⟨R, 0, none⟩) hRl).trans d0))
          go_ret
          obtain ⟨m1, m2⟩ := MA.out _ hB
          exact ⟨by rw [H1.out]; rfl, m1, m2⟩
    · have H1 := Aside0.mk (show tldB line = false by rw [HP.out, decide_eq_false h3]; simp)
      have h3i : ¬ ((cn : Int) = 3) := by omega
      have h3b : ((cn : Int) == 3) = false := beq_eq_false_iff_ne.2 h3i
      cases b1 <;> cases b2
      all_goals
        go_enter Tryz.func38, Tryz.ntmps38
        go_wp2_with (first | (go_at_call 39; refine (hcp _).mono ?_; rintro e w0 ⟨rfl, rfl⟩) | (go_at_call 30; refine hcut.mono ?_; rintro e w1 ⟨rfl, hb1⟩; have x0 := (hb1.cell (p := ⟨R, 0, none⟩) hRl).trans c0) | (go_at_call 40; refine (hpu _ hb1).mono ?_; rintro e w2 ⟨v, rfl, he, hb2⟩; obtain rfl := (WA.out v _ he).1 rfl; have hB := hb1.trans (hb2.mono hb1.size); have x0 := (hB.cell (p := ⟨R, 0, none⟩) hRl).trans c0; have y0 := (hB.frozen (p := ⟨R, 0, none⟩) hRl).trans d0))
        go_ret
        obtain ⟨m1, m2⟩ := MA.out _ hB
        exact ⟨by rw [H1.out]; rfl, m1, m2⟩
end Go.Proofs.YtddjhmelniphgaaGreatDoor.Print
