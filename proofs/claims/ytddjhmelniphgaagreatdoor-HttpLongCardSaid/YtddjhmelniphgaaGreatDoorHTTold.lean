/- The contract of http.Told. -/
import Derived.Test.YtddjhmelniphgaaGreatDoorHTReq
namespace Go.Proofs.YtddjhmelniphgaaGreatDoor.Print
open Go Go.RowKit Go.Proofs.YtddjhmelniphgaaGreatDoorW.PrintWords Go.Proofs.YtddjhmelniphgaaGreatDoorW.PrintLast
set_option linter.unusedVariables false
set_option linter.unusedSimpArgs false
theorem tldObj_form {k : Nat} {W : World} (o : Option (List UInt8)) (h : W.heap[k]? = some (tldObj o)) : ∃ x, W.heap[k]? = some (.cells #[.int .i64 x, .slice none 0 0, .string ⟨#[]⟩] 32 (0, 0)) := by
  cases o <;> exact ⟨_, h⟩
/-- http.Told, in plain words. -/
def http_Told.f (a0 : ByteArray) : Option (Int × (List (S59)) × ByteArray × Int × Int) :=
  if a0.size ≤ 1048576 then some (match readL tldB a0.data.toList with
    | .error er => (0, [], ByteArray.empty, 0, er)
    | .ok (hs, b, n) => (((puV 16 (tldC (lineOf a0.data.toList)) : Nat) : Int), hs, bs b, n, 0)) else none
set_option maxRecDepth 100000 in
set_option maxHeartbeats 4000000 in
theorem http_Told.calls (a0 : ByteArray) (r1 : Int) (r2 : List (S59)) (r3 : ByteArray) (r4 : Int) (r5 : Int) (w : World) (h : http_Told.f a0 = some (r1, r2, r3, r4, r5)) (HL : Laid0 w) :
    Calls Tryz.prog 12 #[.string a0] w fun e w' => ∃ v1_ : Value, e = .returned (.tuple #[.agg #[.int .i64 r1, v1_, .string r3], .int .i64 r4, .int .i64 r5]) ∧ Kd.R k59 59 w' w.heap.size (fun _ => True) v1_ r2 ∧ Below w.heap.size w w' := by
  unfold http_Told.f at h
  split at h
  case isFalse => cases h
  case isTrue hlen =>
  have HF := Aside0.mk (Option.some.inj h)
  clear h
  have hl := HL.lt
  obtain ⟨W, hW, k1, k2, k3, k4, hsz, hbl⟩ := four_new w (.cells #[.string a0] 9) (tldObj none) (.cells #[.int .i64 0] 26) (.cells #[.slice none 0 0, .string ByteArray.empty, .int .i64 0] 66)
  have hin := told_in (w.heap.size + 2) w.heap.size (w.heap.size + 1) (w.heap.size + 3) (by omega) (by omega) a0.data.toList (by simpa using hlen) W (HL.later hbl) k3 k1 k2 k4
  have HW := Aside0.mk (show Below w.heap.size w W ∧ W.heap[w.heap.size + 1]? = some (tldObj none) ∧ W.heap[w.heap.size + 2]? = _ ∧ W.heap[w.heap.size + 3]? = _ ∧ W.heap.size = w.heap.size + 4 from ⟨hbl, k2, k3, k4, hsz⟩)
  clear hl hlen k1 k2 k3 k4 hsz hbl
  generalize hs : a0.data.toList = s at *
  clear hs
  generalize hPP : inPost (w.heap.size + 2) (w.heap.size + 1) (w.heap.size + 3) tldObj tldB s = PP at hin
  have HPP := Aside0.mk hPP
  clear hPP
  have HWE := Aside0.mk hW
  have hin2 : ∀ W2, W2 = (((w.alloc (.cells #[.string a0] 9)).alloc (.cells #[.int .i64 0, .slice none 0 0, .string ⟨#[]⟩] 32)).alloc (.cells #[.int .i64 0] 26)).alloc (.cells #[.slice none 0 0, .string ⟨#[]⟩, .int .i64 0] 66) → Calls Tryz.prog 37 #[.pointer (some ⟨w.heap.size + 1 + 1, 0, none⟩), .pointer (some ⟨w.heap.size, 0, none⟩), .pointer (some ⟨w.heap.size + 1, 0, none⟩), .pointer (some ⟨w.heap.size + 1 + 1 + 1, 0, none⟩)] W2 (PP W) := fun W2 h2 => by rw [h2]; rw [hW] at hin ⊢; exact hin
  clear hin hW
  go_enter Tryz.func12, Tryz.ntmps12
  cases hr : readL tldB s with
  | error er =>
    have her := readL_err hr
    have HR := Aside0.mk hr
    clear hr
    go_wp2_with (go_at_call 37; go_loud ((with_reducible refine (hin2 _ rfl).mono ?_); intro e w1 hp; rw [← HPP.out] at hp; obtain ⟨rfl, hk, hp⟩ := hp; rw [HR.out] at hp; obtain ⟨kE, ⟨o, kR⟩, kM⟩ := hp; have HK := Aside0.mk hk; clear hk hin2; have cE := blk_cell kE 0; have fE := blk_frozen kE 0; obtain ⟨x0, kR2⟩ := tldObj_form o kR; have q0 := blk_cell kR2 0; have q1 := blk_cell kR2 1; have q2 := blk_cell kR2 2; have f0 := blk_frozen kR2 0; have f1 := blk_frozen kR2 1; have f2 := blk_frozen kR2 2; clear kR2; have KE := Aside0.mk kE; have KR := Aside0.mk kR; clear kE kR kM))
    go_region
    all_goals
      go_wp2
      have hf := HF.out
      rw [HR.out] at hf
      simp only [Prod.mk.injEq] at hf
      obtain ⟨rfl, rfl, rfl, rfl, rfl⟩ := hf
      have hb0 := but3_below HW.out.1 rfl HK.out (by omega) (by omega) (by omega)
      refine bodyPost_ret (v := .tuple #[.agg #[.int .i64 0, .slice none 0 0, .string ByteArray.empty], .int .i64 0, .int .i64 er]) ?_ rfl ?_
      · simp [results, Tryz.results12, go_sem, q0, q1, q2, cE]
        try rfl
      · refine ⟨_, rfl, ⟨fun _ _ => trivial, OwnRow.none_ _ _ _ _ _⟩, ?_⟩
        repeat (with_reducible first | exact hb0 | apply below_alloc | apply pw_below_drewN | apply below_drew1 | refine below_set ?_ (by omega))
  | ok q =>
    obtain ⟨hs', b, n⟩ := q
    have HR := Aside0.mk hr
    clear hr
    go_wp2_with (go_at_call 37; go_loud ((with_reducible refine (hin2 _ rfl).mono ?_); intro e w1 hp; rw [← HPP.out] at hp; obtain ⟨rfl, hk, hp⟩ := hp; rw [HR.out] at hp; obtain ⟨kE, kR, A, c, base, kM, hb1, hb2⟩ := hp; rw [lineOf_eq] at kR; have kE := kE.trans HW.out.2.2.1; have HK := Aside0.mk hk; have HO := Aside0.mk hb2; have HB1 := Aside0.mk hb1; clear hk hb1 hb2 hin2; have cE := blk_cell kE 0; have fE := blk_frozen kE 0; have kR2 : w1.heap[w.heap.size + 1]? = some (.cells #[.int .i64 ((puV 16 (tldC (lineOf s)) : Nat) : Int), .slice none 0 0, .string ⟨#[]⟩] 32 (0, 0)) := kR; have q0 := blk_cell kR2 0; have q1 := blk_cell kR2 1; have q2 := blk_cell kR2 2; have f0 := blk_frozen kR2 0; have f1 := blk_frozen kR2 1; have f2 := blk_frozen kR2 2; have m0 := blk_cell kM 0; have m1 := blk_cell kM 1; have m2 := blk_cell kM 2; have KE := Aside0.mk kE; have KR := Aside0.mk kR2; have KM := Aside0.mk kM; clear kE kR kM kR2))
    go_region
    all_goals
      go_wp2
      go_region
    all_goals
      go_wp2
      have hf := HF.out
      rw [HR.out] at hf
      simp only [Prod.mk.injEq] at hf
      obtain ⟨rfl, rfl, rfl, rfl, rfl⟩ := hf
      have hb0 := but3_below HW.out.1 rfl HK.out (by omega) (by omega) (by omega)
      have hsz := HW.out.2.2.2.2
      have hbase := HB1.out
      refine fin_box (Q := fun W => bodyPost _ _ _ _ _ W) (R := w.heap.size + 1) (E := w.heap.size + 2) (n := w.heap.size) (w := w) (base := base) (e := 59) (z := 2) (v := .slice A hs'.length c) (k := hs'.length) (xs := hcells hs') (oE := .cells #[.int .i64 0] 26 (0, 0)) (oR := .cells #[.int .i64 ((puV 16 (tldC (lineOf s)) : Nat) : Int), .slice A hs'.length c, .string (bs b)] 32 (0, 0)) ?_ ?_ (ownsRow_same HO.out (fun g cs hg hx => ?_)) ?_ (fun W9 x1 x2 x3 x4 => ?_)
      · repeat (with_reducible first | exact KR.out | apply get_drewN | apply get_drew | apply put_eq | refine get_set ?_ (by omega) | rfl)
        rfl
      · repeat (with_reducible first | exact KE.out | apply get_drewN | apply get_drew | apply put_eq | refine get_set ?_ (by omega) | rfl)
        rfl
      · repeat (with_reducible first | exact hx | refine get_set ?_ (by omega) | apply get_drewN | apply get_drew)
      · repeat (with_reducible first | exact hb0 | apply below_alloc | apply pw_below_drewN | apply below_drew1 | refine below_set ?_ (by omega))
      · clear q0 q1 q2 m0 m1 m2 cE f0 f1 f2 fE
        have q0 := blk_cell x1 0
        have q1 := blk_cell x1 1
        have q2 := blk_cell x1 2
        have qE := blk_cell x2 0
        refine bodyPost_ret (v := .tuple #[.agg #[.int .i64 ((puV 16 (tldC (lineOf s)) : Nat) : Int), .slice A hs'.length c, .string (bs b)], .int .i64 n, .int .i64 0]) ?_ rfl ?_
        · simp [results, Tryz.results12, go_sem, q0, q1, q2, qE]
        · exact ⟨_, rfl, kd_own x3 (by omega), x4⟩
end Go.Proofs.YtddjhmelniphgaaGreatDoor.Print
