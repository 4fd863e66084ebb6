/- The contract of http.Read. -/
import Derived.Test.YtddjhmelniphgaaGreatDoorHTIn
import Derived.RegionTactic
import Derived.ChangeAlike
import Derived.BigRegion
namespace Go.Proofs.YtddjhmelniphgaaGreatDoor.Print
open Go Go.RowKit Go.Proofs.YtddjhmelniphgaaGreatDoorW.PrintWords Go.Proofs.YtddjhmelniphgaaGreatDoorW.PrintLast
set_option linter.unusedVariables false
set_option linter.unusedSimpArgs false
theorem hcells_reps (w : World) (base : Nat) (ok : Nat → Prop) : ∀ hs : List Hd, Reps (k59.M w base ok) 2 hs (hcells hs)
  | [] => Reps.none _ _
  | h :: r => by
    have := hcells_reps w base ok r
    refine ⟨by simp only [hcells_len, List.length_cons], fun k y hk => ?_⟩
    cases k with
    | zero =>
      cases hk
      exact k59_mkM w base ok _
    | succ k =>
      have h2 := this.2 k y hk
      have e : (k + 1) * 2 = k * 2 + 2 := by omega
      rw [e]
      have e2 : hcells (h :: r) = [.string h.f0, .string h.f1] ++ hcells r := rfl
      rw [e2, List.drop_append, show List.drop (k * 2 + 2) [Value.string h.f0, Value.string h.f1] = [] by simp, List.nil_append]
      simpa using h2
/-- A row of headers that one owns, as the print speaks of it. -/
theorem kd_own {W : World} {v : Value} {hs : List Hd} {base b0 : Nat} (h : W.ownsRow base 59 2 v hs.length (hcells hs)) (hb : b0 ≤ base) : Kd.R k59 59 W b0 (fun _ => True) v hs :=
  ⟨fun _ _ => trivial, OwnRow.lower ⟨hcells hs, h, hcells_reps _ _ _ _⟩ hb⟩
/-- Four new blocks. -/
theorem four_new (w : World) (o1 o2 o3 o4 : Obj) : ∃ W, W = (((w.alloc o1).alloc o2).alloc o3).alloc o4 ∧ W.heap[w.heap.size]? = some o1 ∧ W.heap[w.heap.size + 1]? = some o2 ∧ W.heap[w.heap.size + 2]? = some o3 ∧ W.heap[w.heap.size + 3]? = some o4 ∧ W.heap.size = w.heap.size + 4 ∧ Below w.heap.size w W := by
  refine ⟨_, rfl, ?_, ?_, ?_, ?_, ?_, below_alloc (below_alloc (below_alloc (below_alloc (Below.refl _ _) _) _) _) _⟩
  · show ((((w.heap.push o1).push o2).push o3).push o4)[w.heap.size]? = _
    simp only [Array.getElem?_push, Array.size_push]
    repeat rw [if_neg (by omega)]
    rw [if_pos trivial]
  · show ((((w.heap.push o1).push o2).push o3).push o4)[w.heap.size + 1]? = _
    simp only [Array.getElem?_push, Array.size_push]
    repeat rw [if_neg (by omega)]
    rw [if_pos trivial]
  · show ((((w.heap.push o1).push o2).push o3).push o4)[w.heap.size + 2]? = _
    simp only [Array.getElem?_push, Array.size_push]
    repeat rw [if_neg (by omega)]
    rw [if_pos trivial]
  · show ((((w.heap.push o1).push o2).push o3).push o4)[w.heap.size + 3]? = _
    simp only [Array.getElem?_push, Array.size_push]
    repeat rw [if_neg (by omega)]
    rw [if_pos trivial]
  · show ((((w.heap.push o1).push o2).push o3).push o4).size = _
    simp
theorem reqObj_form {k : Nat} {W : World} (o : Option (List UInt8)) (h : W.heap[k]? = some (reqObj o)) : ∃ x y, W.heap[k]? = some (.cells #[.string x, .string y, .slice none 0 0, .string ⟨#[]⟩] 25 (0, 0)) := by
  cases o <;> exact ⟨_, _, h⟩
theorem get_set {W : World} {g b o : Nat} {v : Value} {x : Option Obj} (h : W.heap[g]? = x) (hne : g ≠ b) : (W.setCell ⟨b, o, none⟩ v).heap[g]? = x := (Below.heap_setCell _ _ _ _ hne).trans h
theorem get_drew {W : World} {g : Nat} {x : Option Obj} (h : W.heap[g]? = x) : W.drew.heap[g]? = x := h
theorem get_drewN {W : World} {g n : Nat} {x : Option Obj} (h : W.heap[g]? = x) : (W.drewN n).heap[g]? = x := h
theorem put_eq {W : World} {g o : Nat} {v : Value} {cs cs' : Array Value} {t : TypeId} (h : W.heap[g]? = some (.cells cs t (0, 0))) (e : cs' = cs.setIfInBounds o v) : (W.setCell ⟨g, o, none⟩ v).heap[g]? = some (.cells cs' t (0, 0)) := by rw [e]; exact blk_setT h v
theorem fin_box {Q : World → Prop} {R E n base e z k : Nat} {oR oE : Obj} {v : Value} {xs : List Value} {w W : World} (hr : W.heap[R]? = some oR) (he : W.heap[E]? = some oE) (ho : W.ownsRow base e z v k xs) (hb : Below n w W)
    (h : ∀ W9 : World, W9.heap[R]? = some oR → W9.heap[E]? = some oE → W9.ownsRow base e z v k xs → Below n w W9 → Q W9) : Q W := h W hr he ho hb
theorem readL_err {p : List UInt8 → Bool} {s : List UInt8} {er : Int} (h : readL p s = .error er) : er ≠ 0 := by
  unfold readL at h
  repeat' split at h
  all_goals first | (injection h with h; subst h; decide) | cases h
theorem but3_below {E R M n : Nat} {w W W' : World} (hb : Below n w W) (hn : w.heap.size = n) (h : But3 E R M W W') (hE : n ≤ E) (hR : n ≤ R) (hM : n ≤ M) : Below n w W' := by
  subst hn
  exact ⟨h.os.trans hb.os, h.tape.trans hb.tape, h.output.trans hb.output, Nat.le_trans hb.size h.size, fun k hk => (h.old k (Nat.lt_of_lt_of_le hk hb.size) (by omega) (by omega) (by omega)).trans (hb.block k hk)⟩
/-- The first line. -/
def lineOf (s : List UInt8) : List UInt8 := (firstOf (linesOf (headOf s).1)).getD []
theorem lineOf_eq (s : List UInt8) : firstOf (linesOf (headOf s).1) = some (lineOf s) := by
  obtain ⟨x, r, h⟩ := linesOf_cons (headOf s).1
  simp [lineOf, h, firstOf]
/-- http.Read, in plain words. -/
def http_Read.f (a0 : ByteArray) : Option (ByteArray × ByteArray × (List (S59)) × ByteArray × Int × Int) :=
  if a0.size ≤ 1048576 then some (match readL reqB a0.data.toList with
    | .error er => (ByteArray.empty, ByteArray.empty, [], ByteArray.empty, 0, er)
    | .ok (hs, b, n) => (bs (reqM (lineOf a0.data.toList)), bs (reqT (lineOf a0.data.toList)), hs, bs b, n, 0)) else none
set_option maxRecDepth 100000 in
set_option maxHeartbeats 4000000 in
theorem http_Read.calls (a0 : ByteArray) (r1 : ByteArray) (r2 : ByteArray) (r3 : List (S59)) (r4 : ByteArray) (r5 : Int) (r6 : Int) (w : World) (h : http_Read.f a0 = some (r1, r2, r3, r4, r5, r6)) (HL : Laid0 w) :
    Calls Tryz.prog 10 #[.string a0] w fun e w' => ∃ v2_ : Value, e = .returned (.tuple #[.agg #[.string r1, .string r2, v2_, .string r4], .int .i64 r5, .int .i64 r6]) ∧ Kd.R k59 59 w' w.heap.size (fun _ => True) v2_ r3 ∧ Below w.heap.size w w' := by
  unfold http_Read.f at h
  split at h
  case isFalse => cases h
  case isTrue hlen =>
  have HF := Aside0.mk (Option.some.inj h)
  clear h
  have hl := HL.lt
  obtain ⟨W, hW, k1, k2, k3, k4, hsz, hbl⟩ := four_new w (.cells #[.string a0] 9) (reqObj none) (.cells #[.int .i64 0] 26) (.cells #[.slice none 0 0, .string ByteArray.empty, .int .i64 0] 66)
  have hin := read_in (w.heap.size + 2) w.heap.size (w.heap.size + 1) (w.heap.size + 3) (by omega) (by omega) a0.data.toList (by simpa using hlen) W (HL.later hbl) k3 k1 k2 k4
  have HW := Aside0.mk (show Below w.heap.size w W ∧ W.heap[w.heap.size + 1]? = some (reqObj none) ∧ W.heap[w.heap.size + 2]? = _ ∧ W.heap[w.heap.size + 3]? = _ ∧ W.heap.size = w.heap.size + 4 from ⟨hbl, k2, k3, k4, hsz⟩)
  clear hl hlen k1 k2 k3 k4 hsz hbl
  generalize hs : a0.data.toList = s at *
  clear hs
  generalize hPP : inPost (w.heap.size + 2) (w.heap.size + 1) (w.heap.size + 3) reqObj reqB s = PP at hin
  have HPP := Aside0.mk hPP
  clear hPP
  have HWE := Aside0.mk hW
  have hin2 : ∀ W2, W2 = (((w.alloc (.cells #[.string a0] 9)).alloc (.cells #[.string ⟨#[]⟩, .string ⟨#[]⟩, .slice none 0 0, .string ⟨#[]⟩] 25)).alloc (.cells #[.int .i64 0] 26)).alloc (.cells #[.slice none 0 0, .string ⟨#[]⟩, .int .i64 0] 66) → Calls Tryz.prog 26 #[.pointer (some ⟨w.heap.size + 1 + 1, 0, none⟩), .pointer (some ⟨w.heap.size, 0, none⟩), .pointer (some ⟨w.heap.size + 1, 0, none⟩), .pointer (some ⟨w.heap.size + 1 + 1 + 1, 0, none⟩)] W2 (PP W) := fun W2 h2 => by rw [h2]; rw [hW] at hin ⊢; exact hin
  clear hin hW
  go_enter Tryz.func10, Tryz.ntmps10
  cases hr : readL reqB s with
  | error er =>
    have her := readL_err hr
    have HR := Aside0.mk hr
    clear hr
    go_wp2_with (go_at_call 26; go_loud ((with_reducible refine (hin2 _ rfl).mono ?_); intro e w1 hp; rw [← HPP.out] at hp; obtain ⟨rfl, hk, hp⟩ := hp; rw [HR.out] at hp; obtain ⟨kE, ⟨o, kR⟩, kM⟩ := hp; have HK := Aside0.mk hk; clear hk hin2; have cE := blk_cell kE 0; have fE := blk_frozen kE 0; obtain ⟨x0, x1, kR2⟩ := reqObj_form o kR; have q0 := blk_cell kR2 0; have q1 := blk_cell kR2 1; have q2 := blk_cell kR2 2; have q3 := blk_cell kR2 3; have f0 := blk_frozen kR2 0; have f1 := blk_frozen kR2 1; have f2 := blk_frozen kR2 2; have f3 := blk_frozen kR2 3; clear kR2; have KE := Aside0.mk kE; have KR := Aside0.mk kR; clear kE kR kM))
    go_region
    all_goals
      go_wp2
      have hf := HF.out
      rw [HR.out] at hf
      simp only [Prod.mk.injEq] at hf
      obtain ⟨rfl, rfl, rfl, rfl, rfl, rfl⟩ := hf
      have hb0 := but3_below HW.out.1 rfl HK.out (by omega) (by omega) (by omega)
      refine bodyPost_ret (v := .tuple #[.agg #[.string ByteArray.empty, .string ByteArray.empty, .slice none 0 0, .string ByteArray.empty], .int .i64 0, .int .i64 er]) ?_ rfl ?_
      · simp [results, Tryz.results10, go_sem, q0, q1, q2, q3, cE]
        try rfl
      · refine ⟨_, rfl, ⟨fun _ _ => trivial, OwnRow.none_ _ _ _ _ _⟩, ?_⟩
        repeat (with_reducible first | exact hb0 | apply below_alloc | apply pw_below_drewN | apply below_drew1 | refine below_set ?_ (by omega))
  | ok q =>
    obtain ⟨hs', b, n⟩ := q
    have HR := Aside0.mk hr
    clear hr
    go_wp2_with (go_at_call 26; go_loud ((with_reducible refine (hin2 _ rfl).mono ?_); intro e w1 hp; rw [← HPP.out] at hp; obtain ⟨rfl, hk, hp⟩ := hp; rw [HR.out] at hp; obtain ⟨kE, kR, A, c, base, kM, hb1, hb2⟩ := hp; rw [lineOf_eq] at kR; have kE := kE.trans HW.out.2.2.1; have HK := Aside0.mk hk; have HO := Aside0.mk hb2; have HB1 := Aside0.mk hb1; clear hk hb1 hb2 hin2; have cE := blk_cell kE 0; have fE := blk_frozen kE 0; have kR2 : w1.heap[w.heap.size + 1]? = some (.cells #[.string (bs (reqM (lineOf s))), .string (bs (reqT (lineOf s))), .slice none 0 0, .string ⟨#[]⟩] 25 (0, 0)) := kR; have q0 := blk_cell kR2 0; have q1 := blk_cell kR2 1; have q2 := blk_cell kR2 2; have q3 := blk_cell kR2 3; have f0 := blk_frozen kR2 0; have f1 := blk_frozen kR2 1; have f2 := blk_frozen kR2 2; have f3 := blk_frozen kR2 3; have m0 := blk_cell kM 0; have m1 := blk_cell kM 1; have m2 := blk_cell kM 2; have KE := Aside0.mk kE; have KR := Aside0.mk kR2; have KM := Aside0.mk kM; clear kE kR kM kR2))
    go_region
    all_goals
      go_wp2
      go_region
    all_goals
      go_wp2
      have hf := HF.out
      rw [HR.out] at hf
      simp only [Prod.mk.injEq] at hf
      obtain ⟨rfl, rfl, rfl, rfl, rfl, rfl⟩ := hf
      have hb0 := but3_below HW.out.1 rfl HK.out (by omega) (by omega) (by omega)
      have hsz := HW.out.2.2.2.2
      have hbase := HB1.out
      refine fin_box (Q := fun W => bodyPost _ _ _ _ _ W) (R := w.heap.size + 1) (E := w.heap.size + 2) (n := w.heap.size) (w := w) (base := base) (e := 59) (z := 2) (v := .slice A hs'.length c) (k := hs'.length) (xs := hcells hs') (oE := .cells #[.int .i64 0] 26 (0, 0)) (oR := .cells #[.string (bs (reqM (lineOf s))), .string (bs (reqT (lineOf s))), .slice A hs'.length c, .string (bs b)] 25 (0, 0)) ?_ ?_ (ownsRow_same HO.out (fun g cs hg hx => ?_)) ?_ (fun W9 x1 x2 x3 x4 => ?_)
      · repeat (with_reducible first | exact KR.out | apply get_drewN | apply get_drew | apply put_eq | refine get_set ?_ (by omega) | rfl)
        rfl
      · repeat (with_reducible first | exact KE.out | apply get_drewN | apply get_drew | apply put_eq | refine get_set ?_ (by omega) | rfl)
        rfl
      · repeat (with_reducible first | exact hx | refine get_set ?_ (by omega) | apply get_drewN | apply get_drew)
      · repeat (with_reducible first | exact hb0 | apply below_alloc | apply pw_below_drewN | apply below_drew1 | refine below_set ?_ (by omega))
      · clear q0 q1 q2 q3 m0 m1 m2 cE f0 f1 f2 f3 fE
        have q0 := blk_cell x1 0
        have q1 := blk_cell x1 1
        have q2 := blk_cell x1 2
        have q3 := blk_cell x1 3
        have qE := blk_cell x2 0
        refine bodyPost_ret (v := .tuple #[.agg #[.string (bs (reqM (lineOf s))), .string (bs (reqT (lineOf s))), .slice A hs'.length c, .string (bs b)], .int .i64 n, .int .i64 0]) ?_ rfl ?_
        · simp [results, Tryz.results10, go_sem, q0, q1, q2, q3, qE]
        · exact ⟨_, rfl, kd_own x3 (by omega), x4⟩
end Go.Proofs.YtddjhmelniphgaaGreatDoor.Print
