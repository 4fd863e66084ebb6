/- The contract of http.Path. -/
import Derived.Test.YtddjhmelniphgaaGreatDoorHTPathW
namespace Go.Proofs.YtddjhmelniphgaaGreatDoor.Print
open Go Go.RowKit Go.Proofs.YtddjhmelniphgaaGreatDoorW.PrintWords Go.Proofs.YtddjhmelniphgaaGreatDoorW.PrintLast
set_option linter.unusedVariables false
set_option linter.unusedSimpArgs false
/-- http.Path, in plain words. -/
def http_Path.f (a0 : ByteArray) : Option (List ByteArray × (List (S59)) × Int) :=
  if a0.size ≤ 1048575 then some (match pathL a0.data.toList with
    | none => ([], [], 291)
    | some (ls, qs) => (ls, qs, 0)) else none
theorem fin_path {Q : World → Prop} {L R E n : Nat} {oL oR oE : Obj} {base e z k e2 z2 k2 : Nat} {v v2 : Value} {xs xs2 : List Value} {w W : World} (hl : W.heap[L]? = some oL) (hr : W.heap[R]? = some oR) (he : W.heap[E]? = some oE) (ho : W.ownsRow base e z v k xs) (ho2 : W.ownsRow base e2 z2 v2 k2 xs2) (hb : Below n w W)
    (h : ∀ W9 : World, W9.heap[L]? = some oL → W9.heap[R]? = some oR → W9.heap[E]? = some oE → W9.ownsRow base e z v k xs → W9.ownsRow base e2 z2 v2 k2 xs2 → Below n w W9 → Q W9) : Q W := h W hl hr he ho ho2 hb
set_option maxRecDepth 100000 in
set_option maxHeartbeats 4000000 in
theorem http_Path.calls (a0 : ByteArray) (r1 : List ByteArray) (r2 : List (S59)) (r3 : Int) (w : World) (h : http_Path.f a0 = some (r1, r2, r3)) (HL : Laid0 w) :
    Calls Tryz.prog 16 #[.string a0] w fun e w' => ∃ v0_ v1_ : Value, e = .returned (.tuple #[v0_, v1_, .int .i64 r3]) ∧ Kd.R Kd.string 9 w' w.heap.size (fun _ => True) v0_ r1 ∧ Kd.R k59 59 w' w.heap.size (fun _ => True) v1_ r2 ∧ Below w.heap.size w w' := by
  unfold http_Path.f at h
  split at h
  case isFalse => cases h
  case isTrue hlen =>
  have HF := Aside0.mk (Option.some.inj h)
  clear h
  have hl := HL.lt
  obtain ⟨W, hW, k1, k2, k3, k4, hsz, hbl⟩ := four_new w (.cells #[.string a0] 9) (.cells #[.slice none 0 0] 40) (.cells #[.slice none 0 0] 23) (.cells #[.int .i64 0] 26)
  have hin := path_in (w.heap.size + 3) w.heap.size (w.heap.size + 1) (w.heap.size + 2) (by omega) a0.data.toList (by simpa using hlen) W (HL.later hbl) (by rintro k (rfl | rfl) <;> omega) k4 k1 k2 k3
  have HW := Aside0.mk (show Below w.heap.size w W ∧ W.heap[w.heap.size + 1]? = _ ∧ W.heap[w.heap.size + 2]? = _ ∧ W.heap[w.heap.size + 3]? = _ ∧ W.heap.size = w.heap.size + 4 from ⟨hbl, k2, k3, k4, hsz⟩)
  clear hl hlen k1 k2 k3 k4 hsz hbl
  generalize hs : a0.data.toList = s at *
  clear hs
  generalize hPP : pathPost (w.heap.size + 3) (w.heap.size + 1) (w.heap.size + 2) s = PP at hin
  have HPP := Aside0.mk hPP
  clear hPP
  have hin2 : ∀ W2, W2 = (((w.alloc (.cells #[.string a0] 9)).alloc (.cells #[.slice none 0 0] 40)).alloc (.cells #[.slice none 0 0] 23)).alloc (.cells #[.int .i64 0] 26) → Calls Tryz.prog 43 #[.pointer (some ⟨w.heap.size + 1 + 1 + 1, 0, none⟩), .pointer (some ⟨w.heap.size, 0, none⟩), .pointer (some ⟨w.heap.size + 1, 0, none⟩), .pointer (some ⟨w.heap.size + 1 + 1, 0, none⟩)] W2 (PP W) := fun W2 h2 => by rw [h2]; rw [hW] at hin ⊢; exact hin
  clear hin hW
  go_enter Tryz.func16, Tryz.ntmps16
  cases hr : pathL s with
  | none =>
    have HR := Aside0.mk hr
    clear hr
    go_wp2_with (go_at_call 43; go_loud ((with_reducible refine (hin2 _ rfl).mono ?_); intro e w1 hp; rw [← HPP.out] at hp; obtain ⟨rfl, hk, hp⟩ := hp; rw [HR.out] at hp; obtain ⟨kE, ⟨x1, kL⟩, ⟨x2, kQ⟩⟩ := hp; have HK := Aside0.mk hk; clear hk hin2; have cE := blk_cell kE 0; have fE := blk_frozen kE 0; have cL := blk_cell kL 0; have fL := blk_frozen kL 0; have cQ := blk_cell kQ 0; have fQ := blk_frozen kQ 0; have KE := Aside0.mk kE; have KL := Aside0.mk kL; have KQ := Aside0.mk kQ; clear kE kL kQ))
    go_region
    all_goals
      go_wp2
      have hf := HF.out
      rw [HR.out] at hf
      simp only [Prod.mk.injEq] at hf
      obtain ⟨rfl, rfl, rfl⟩ := hf
      have hb0 := but3_below HW.out.1 rfl HK.out (by omega) (by omega) (by omega)
      refine fin_path (Q := fun W => bodyPost _ _ _ _ _ W) (L := w.heap.size + 1) (R := w.heap.size + 2) (E := w.heap.size + 3) (n := w.heap.size) (w := w) (base := w.heap.size) (e := 9) (z := 1) (v := .slice none 0 0) (k := 0) (xs := []) (e2 := 59) (z2 := 2) (v2 := .slice none 0 0) (k2 := 0) (xs2 := []) (oL := .cells #[.slice none 0 0] 40 (0, 0)) (oR := .cells #[.slice none 0 0] 23 (0, 0)) (oE := .cells #[.int .i64 291] 26 (0, 0)) ?_ ?_ ?_ ⟨rfl, .inl ⟨rfl, rfl⟩⟩ ⟨rfl, .inl ⟨rfl, rfl⟩⟩ ?_ (fun W9 x1 x2 x3 x4 x5 x6 => ?_)
      · repeat (with_reducible first | exact KL.out | apply get_drewN | apply get_drew | apply put_eq | refine get_set ?_ (by omega) | rfl)
        rfl
      · repeat (with_reducible first | exact KQ.out | apply get_drewN | apply get_drew | apply put_eq | refine get_set ?_ (by omega) | rfl)
        rfl
      · repeat (with_reducible first | exact KE.out | apply get_drewN | apply get_drew | apply put_eq | refine get_set ?_ (by omega) | rfl)
        rfl
      · repeat (with_reducible first | exact hb0 | apply below_alloc | apply pw_below_drewN | apply below_drew1 | refine below_set ?_ (by omega))
      · clear cE fE cL fL cQ fQ
        have qL := blk_cell x1 0
        have qQ := blk_cell x2 0
        have qE := blk_cell x3 0
        refine bodyPost_ret (v := .tuple #[.slice none 0 0, .slice none 0 0, .int .i64 291]) ?_ rfl ?_
        · simp [results, Tryz.results16, go_sem, qL, qQ, qE]
        · exact ⟨_, _, rfl, ⟨fun _ _ => trivial, OwnRow.none_ _ _ _ _ _⟩, ⟨fun _ _ => trivial, OwnRow.none_ _ _ _ _ _⟩, x6⟩
  | some q =>
    obtain ⟨ls, qs⟩ := q
    have HR := Aside0.mk hr
    clear hr
    go_wp2_with (go_at_call 43; go_loud ((with_reducible refine (hin2 _ rfl).mono ?_); intro e w1 hp; rw [← HPP.out] at hp; obtain ⟨rfl, hk, hp⟩ := hp; rw [HR.out] at hp; obtain ⟨kE, x1, x2, kL, o1, kQ, o2⟩ := hp; obtain ⟨A1, c1, rfl⟩ := own_form o1; obtain ⟨A2, c2, rfl⟩ := own_form o2; have kE := kE.trans HW.out.2.2.2.1; have HK := Aside0.mk hk; have HO1 := Aside0.mk o1; have HO2 := Aside0.mk o2; clear hk hin2 o1 o2; have cE := blk_cell kE 0; have fE := blk_frozen kE 0; have cL := blk_cell kL 0; have fL := blk_frozen kL 0; have cQ := blk_cell kQ 0; have fQ := blk_frozen kQ 0; have KE := Aside0.mk kE; have KL := Aside0.mk kL; have KQ := Aside0.mk kQ; clear kE kL kQ))
    go_region
    all_goals
      go_wp2
      have hf := HF.out
      rw [HR.out] at hf
      simp only [Prod.mk.injEq] at hf
      obtain ⟨rfl, rfl, rfl⟩ := hf
      have hb0 := but3_below HW.out.1 rfl HK.out (by omega) (by omega) (by omega)
      have hsz := HW.out.2.2.2.2
      refine fin_path (Q := fun W => bodyPost _ _ _ _ _ W) (L := w.heap.size + 1) (R := w.heap.size + 2) (E := w.heap.size + 3) (n := w.heap.size) (w := w) (base := W.heap.size) (e := 9) (z := 1) (v := .slice A1 ls.length c1) (k := ls.length) (xs := scells ls) (e2 := 59) (z2 := 2) (v2 := .slice A2 qs.length c2) (k2 := qs.length) (xs2 := hcells qs) (oL := .cells #[.slice A1 ls.length c1] 40 (0, 0)) (oR := .cells #[.slice A2 qs.length c2] 23 (0, 0)) (oE := .cells #[.int .i64 0] 26 (0, 0)) ?_ ?_ ?_ (ownsRow_same HO1.out (fun g cs hg hx => ?_)) (ownsRow_same HO2.out (fun g cs hg hx => ?_)) ?_ (fun W9 x1 x2 x3 x4 x5 x6 => ?_)
      · repeat (with_reducible first | exact KL.out | apply get_drewN | apply get_drew | apply put_eq | refine get_set ?_ (by omega) | rfl)
        rfl
      · repeat (with_reducible first | exact KQ.out | apply get_drewN | apply get_drew | apply put_eq | refine get_set ?_ (by omega) | rfl)
        rfl
      · repeat (with_reducible first | exact KE.out | apply get_drewN | apply get_drew | apply put_eq | refine get_set ?_ (by omega) | rfl)
        rfl
      · repeat (with_reducible first | exact hx | refine get_set ?_ (by omega) | apply get_drewN | apply get_drew)
      · repeat (with_reducible first | exact hx | refine get_set ?_ (by omega) | apply get_drewN | apply get_drew)
      · repeat (with_reducible first | exact hb0 | apply below_alloc | apply pw_below_drewN | apply below_drew1 | refine below_set ?_ (by omega))
      · clear cE fE cL fL cQ fQ
        have qL := blk_cell x1 0
        have qQ := blk_cell x2 0
        have qE := blk_cell x3 0
        refine bodyPost_ret (v := .tuple #[.slice A1 ls.length c1, .slice A2 qs.length c2, .int .i64 0]) ?_ rfl ?_
        rotate_left
        · exact ⟨_, _, rfl, Kd.R_of_own (own_low x4 (by omega)) (fun _ _ => trivial), kd_own x5 (by omega), x6⟩
        · simp [results, Tryz.results16, go_sem, qL, qQ, qE]
end Go.Proofs.YtddjhmelniphgaaGreatDoor.Print
