/- Contracts of sha.constants and sha.begin: the tables of the roots' bits. -/
import Derived.Test.YtkcjekboakoejaaHSBlk
import Derived.Test.YtkcjekboakoejaaHSPrimes
import Derived.Test.YtkcjekboakoejaaHSRoots
import Derived.Deep.MidRow
namespace Go.Proofs.Ytkcjekboakoejaa.Print
open Go Go.RowKit Go.Proofs.YtkcjekboakoejaaW.PrintWords
set_option linter.unusedVariables false
set_option linter.unusedSimpArgs false

/-- The row of n words that begins with l. -/
def rowN (n : Nat) (l : List Nat) : Array Value := (l.map (fun x : Nat => Value.int .u32 x) ++ List.replicate (n - l.length) (Value.int .u32 0)).toArray
theorem rowN_size (n : Nat) (l : List Nat) (h : l.length ≤ n) : (rowN n l).size = n := by simp [rowN]; omega
theorem rowN_at (n : Nat) (l : List Nat) (h : l.length ≤ n) (j : Nat) (hj : j < n) : (rowN n l)[j]? = some (.int .u32 ((l.getD j 0 : Nat) : Int)) := by
  unfold rowN
  by_cases hl : j < l.length
  · rw [List.getElem?_toArray, List.getElem?_append_left (by simp; exact hl)]
    simp [hl]
  · have h1 : l.getD j 0 = 0 := by simp [List.getD_eq_getElem?_getD, List.getElem?_eq_none (by omega : l.length ≤ j)]
    rw [h1]
    have : j - l.length < n - l.length := by omega
    simp [List.getElem?_append_right (by simp; omega : (l.map (fun x : Nat => Value.int .u32 x)).length ≤ j), List.getElem?_replicate, this]
theorem rowN_set (n : Nat) (l : List Nat) (t x : Nat) (hl : l.length = t) (ht : t < n) : (rowN n l).setIfInBounds t (.int .u32 (x : Int)) = rowN n (l ++ [x]) := by
  unfold rowN
  obtain ⟨k, hk⟩ : ∃ k, n - l.length = k + 1 := ⟨n - l.length - 1, by omega⟩
  have hk2 : n - (l ++ [x]).length = k := by simp; omega
  rw [hk, hk2, List.replicate_succ]
  subst hl
  simp [List.set_append]
theorem setCell_self {w : World} {B i : Nat} {c : Array Value} {t : TypeId} {v : Value} (h : Has w B c t) (hv : c[i]? = some v) : w.setCell ⟨B, i, none⟩ v = w := by
  have h1 : (w.setCell ⟨B, i, none⟩ v).heap = w.heap := by
    apply Array.ext_getElem?
    intro k
    by_cases hk : k = B
    · subst hk
      rw [h.set v, h]
      congr 2
      apply Array.ext_getElem?
      intro j
      rw [Array.getElem?_setIfInBounds]
      split
      · rename_i e; subst e
        rw [hv]
        have : i < c.size := (Array.getElem?_eq_some_iff.1 hv).1
        simp [this]
      · rfl
    · exact heap_setCell_other w _ k v hk
  have h2 : w.setCell ⟨B, i, none⟩ v = { w with heap := (w.setCell ⟨B, i, none⟩ v).heap } := rfl
  rw [h2, h1]
theorem setCells_self {B : Nat} {c : Array Value} {t : TypeId} : ∀ (vs : List Value) (o : Nat) (w : World), Has w B c t → (∀ j v, vs[j]? = some v → c[o + j]? = some v) → w.setCells B o vs = w
  | [], _, _, _, _ => rfl
  | v :: r, o, w, h, hv => by
    show (w.setCell ⟨B, o, none⟩ v).setCells B (o + 1) r = w
    have hv0 : c[o]? = some v := hv 0 v rfl
    rw [setCell_self h hv0]
    exact setCells_self r (o + 1) w h (fun j u hu => by have := hv (j + 1) u (by simpa using hu); rw [← this]; congr 1; omega)
theorem rowN_one (n : Nat) (l : List Nat) : (rowN n l).all (·.oneCell') = true := by
  apply Array.all_eq_true_iff_forall_mem.2
  intro v hv
  unfold rowN at hv
  simp only [List.mem_toArray, List.mem_append, List.mem_map, List.mem_replicate] at hv
  rcases hv with ⟨x, _, rfl⟩ | ⟨_, rfl⟩ <;> rfl
theorem Has.range {w : World} {B : Nat} {c : Array Value} {t : TypeId} (h : Has w B c t) : w.rangeAt B 0 c.toList := fun j v hv => by
  rw [Nat.zero_add]
  exact (h.at (by simpa using hv)).1
theorem Has.there {w : World} {B : Nat} {c : Array Value} {t : TypeId} (h : Has w B c t) : w.there B 0 c.size := fun j hj => by
  rw [Nat.zero_add]
  have := h.at (j := j) (v := c[j]) (by simp [hj])
  exact ⟨by rw [this.1]; rfl, this.2⟩
/-- Where the loop over the primes stands. -/
def RowT (n : Nat) (f : Nat → Nat) (L : List Nat) (T : TypeId) (w : World) (g t : Nat) (W : World) : Prop :=
  Has W w.heap.size (rowN n ((L.take t).map f)) T ∧ Below w.heap.size w W ∧ (∀ j, j < n → W.cell? ⟨g, j, none⟩ = some (.int .u64 ((L.getD j 0 : Nat) : Int)))
theorem RowT.put {n : Nat} {f : Nat → Nat} {L : List Nat} {T : TypeId} {w W : World} {g t : Nat} (h : RowT n f L T w g t W) (hL : L.length = n) (ht : t < n) (hg : w.heap.size < g) :
    RowT n f L T w g (t + 1) (W.setCell ⟨w.heap.size, t, none⟩ (.int .u32 ((f (L.getD t 0) : Nat) : Int))) := by
  refine ⟨?_, below_set h.2.1 (Nat.le_refl _), fun j hj => ?_⟩
  · have h1 := h.1.set (i := t) (.int .u32 ((f (L.getD t 0) : Nat) : Int))
    rw [rowN_set n _ t _ (by simp; omega) ht] at h1
    have h2 : (L.take t).map f ++ [f (L.getD t 0)] = (L.take (t + 1)).map f := by
      rw [List.take_add_one, List.map_append, List.getD_eq_getElem?_getD, List.getElem?_eq_getElem (by omega : t < L.length)]
      rfl
    rw [← h2]
    exact h1
  · rw [World.cell?_setCell_other _ _ _ _ (by intro e; injection e with e1; omega)]
    exact h.2.2 j hj

set_option maxRecDepth 1000000 in
set_option maxHeartbeats 4000000 in
theorem begin_any (w : World) : Calls Try.prog 49 #[] w fun e w' => e = .returned (.agg (rowN 8 ((collect 18).map squareN))) ∧ Below w.heap.size w w' := by
  obtain ⟨L, hL⟩ : ∃ L, L = collect 18 := ⟨_, rfl⟩
  have hLl : L.length = 8 := by rw [hL]; decide +kernel
  have hLp : ∀ p ∈ L, p ≤ 18 + 1 := fun p hp => (collect_pos 18 p (by rw [← hL]; exact hp)).2
  have hpr : ∀ W, Calls Try.prog 60 #[.int .i64 8] W fun e w' => ∃ v, e = .returned v ∧ w'.ownsRow W.heap.size 78 1 v 8 ((collect 18).map (fun x : Nat => Value.int .u64 x)) ∧ Below W.heap.size W w' := fun W => primes_any 8 18 (by decide) (by decide +kernel) (by decide +kernel) W
  rw [← hL] at hpr ⊢
  have HLL := Aside0.mk hLl
  have HLP := Aside0.mk hLp
  clear hL hLl hLp
  go_enter Try.func49, Try.ntmps49
  obtain ⟨w3, hw3⟩ : ∃ w3, w3 = w.alloc (.cells (rowN 8 []) 75) := ⟨_, rfl⟩
  have HW3 := Aside0.mk (show w.alloc (.cells #[.int .u32 0, .int .u32 0, .int .u32 0, .int .u32 0, .int .u32 0, .int .u32 0, .int .u32 0, .int .u32 0] 75) = w3 from hw3.symm)
  have hsz : w3.heap.size = w.heap.size + 1 := by rw [hw3]; simp
  have hH : Has w3 w.heap.size (rowN 8 []) 75 := by rw [hw3]; exact heap_alloc_new w _
  have hB : Below w.heap.size w w3 := by rw [hw3]; exact (Below.refl _ _).alloc (Nat.le_refl _) _
  have HH := Aside0.mk hH
  have HB := Aside0.mk hB
  have hcall : ∀ W, W = w3 → Calls Try.prog 60 #[.int .i64 8] W fun e w2 => ∃ g cap, e = .returned (.slice (some ⟨g, 0, none⟩) 8 cap) ∧ Aside0 (RowT 8 squareN L 75 w g 0 w2) ∧ Aside0 (w.heap.size < g) := by
    rintro _ rfl
    refine (hpr _).mono ?_
    rintro e w2 ⟨v, rfl, hrow, hbel⟩
    rw [hsz] at hrow hbel
    have hrow2 : w2.ownsRow (w.heap.size + 1) 78 1 v L.length (L.map (fun x : Nat => Value.int .u64 x)) := by rw [HLL.out]; exact hrow
    rcases row_cases hrow2 with ⟨_, e⟩ | ⟨g, cap, rfl, hg, hcap, hc⟩
    · exact absurd HLL.out (by rw [e]; decide)
    rw [HLL.out] at hc ⊢
    have hH2 : Has w2 w.heap.size (rowN 8 []) 75 := (hbel.block w.heap.size (by omega)).trans HH.out
    exact ⟨g, cap, rfl, Aside0.mk ⟨hH2, HB.out.trans (hbel.mono (by omega)), hc⟩, Aside0.mk (by omega)⟩
  clear hw3 hH hB hsz hpr
  go_wp2_with (go_at_call 60; refine (hcall _ HW3.out).mono ?_; rintro e w2 ⟨g, cap, rfl, HR0, HG⟩)
  clear hcall HW3 HH HB
  go_loopw [5] (fun i W => ∃ t : Nat, t ≤ 8 ∧ i = .int .i64 t ∧ Aside0 (RowT 8 squareN L 75 w g t W)) (fun i _ => 8 - (intOf i).toNat)
  case atStart => exact ⟨0, Nat.zero_le _, rfl, HR0⟩
  case round =>
    obtain ⟨t, ht, rfl, HR⟩ := hrel
    by_cases hlt : t < 8
    · have hcp := HR.out.2.2 t hlt
      obtain ⟨c0, f0⟩ := HR.out.1.at (rowN_at 8 _ (by simp; omega) t hlt)
      have hp : L.getD t 0 < 18446744073709551616 := by
        have : t < L.length := by rw [HLL.out]; exact hlt
        rw [List.getD_eq_getElem?_getD, List.getElem?_eq_getElem this]
        have := HLP.out _ (List.getElem_mem this)
        show L[t] < _
        omega
      have hroot := fun W => square_any (L.getD t 0) hp W
      have HPUT := Aside0.mk (HR.out.put HLL.out hlt HG.out)
      generalize L.getD t 0 = p at *
      generalize squareN p = q at *
      generalize (List.map squareN (List.take t L)).getD t 0 = z at *
      have i0 : (0 : Int) ≤ (t : Int) := by omega
      have i1 : (t : Int) < 8 := by omega
      clear hp HR
      go_wp2_with (go_at_call 62; refine (hroot _).mono ?_; rintro e w' ⟨rfl, rfl⟩)
      go_roundw
      case rel => exact ⟨t + 1, by omega, by go_num, HPUT⟩
      case measure => simp [intOf]; omega
    · obtain rfl : t = 8 := by omega
      rw [show ((8 : Nat) : Int) = 8 from rfl]
      have hH := HR.out.1
      have hB := HR.out.2.1
      have htake : L.take 8 = L := List.take_of_length_le (by rw [HLL.out]; exact Nat.le_refl _)
      rw [htake] at hH
      have hsz := rowN_size 8 (L.map squareN) (by simp; rw [HLL.out]; exact Nat.le_refl _)
      have h1 := rowN_one 8 (L.map squareN)
      generalize hR : rowN 8 (L.map squareN) = R at *
      have HRE := Aside0.mk hR
      clear hR
      have HH := Aside0.mk hH
      have HB := Aside0.mk hB
      have HSZ := Aside0.mk hsz
      have H1 := Aside0.mk h1
      clear hH hB hsz h1 htake HR HR0
      have hi : (Try.prog.info? 75).map (·.size) = some R.size := by rw [HSZ.out]; kernel_rfl
      have HI := Aside0.mk hi
      clear hi
      go_wp2_with (first | (refine wpList_load_mid rfl 75 (.tmp 0) rfl w.heap.size 0 rfl R.toList _ HH.out.range Try.underlying75 rfl (by rw [Array.length_toList]; exact HI.out) ?_; rw [Array.toArray_toList]) | (refine wpList_store_mid rfl 75 (.tmp 0) (.tmp 15) rfl w.heap.size 0 R rfl rfl HH.out.there HI.out H1.out ?_; rw [setCells_self R.toList 0 _ HH.out (by intro j v hv; rw [Nat.zero_add]; simpa using hv)]))
      exact bodyPost_ret (results_cell_row rfl _ _ w.heap.size 75 R (0, 0) _ rfl HH.out Try.underlying75 rfl HI.out) rfl ⟨by rw [HRE.out], HB.out⟩

set_option maxRecDepth 1000000 in
set_option maxHeartbeats 4000000 in
theorem constants_any (w : World) : Calls Try.prog 48 #[] w fun e w' => e = .returned (.agg (rowN 64 ((collect 310).map cubeN))) ∧ Below w.heap.size w w' := by
  obtain ⟨L, hL⟩ : ∃ L, L = collect 310 := ⟨_, rfl⟩
  have hLl : L.length = 64 := by rw [hL]; decide +kernel
  have hLp : ∀ p ∈ L, p ≤ 310 + 1 := fun p hp => (collect_pos 310 p (by rw [← hL]; exact hp)).2
  have hpr : ∀ W, Calls Try.prog 60 #[.int .i64 64] W fun e w' => ∃ v, e = .returned v ∧ w'.ownsRow W.heap.size 78 1 v 64 ((collect 310).map (fun x : Nat => Value.int .u64 x)) ∧ Below W.heap.size W w' := fun W => primes_any 64 310 (by decide) (by decide +kernel) (by decide +kernel) W
  rw [← hL] at hpr ⊢
  have HLL := Aside0.mk hLl
  have HLP := Aside0.mk hLp
  clear hL hLl hLp
  go_enter Try.func48, Try.ntmps48
  obtain ⟨w3, hw3⟩ : ∃ w3, w3 = w.alloc (.cells (rowN 64 []) 73) := ⟨_, rfl⟩
  have HW3 := Aside0.mk (show w.alloc (.cells #[.int .u32 0, .int .u32 0, .int .u32 0, .int .u32 0, .int .u32 0, .int .u32 0, .int .u32 0, .int .u32 0, .int .u32 0, .int .u32 0, .int .u32 0, .int .u32 0, .int .u32 0, .int .u32 0, .int .u32 0, .int .u32 0, .int .u32 0, .int .u32 0, .int .u32 0, .int .u32 0, .int .u32 0, .int .u32 0, .int .u32 0, .int .u32 0, .int .u32 0, .int .u32 0, .int .u32 0, .int .u32 0, .int .u32 0, .int .u32 0, .int .u32 0, .int .u32 0, .int .u32 0, .int .u32 0, .int .u32 0, .int .u32 0, .int .u32 0, .int .u32 0, .int .u32 0, .int .u32 0, .int .u32 0, .int .u32 0, .int .u32 0, .int .u32 0, .int .u32 0, .int .u32 0, .int .u32 0, .int .u32 0, .int .u32 0, .int .u32 0, .int .u32 0, .int .u32 0, .int .u32 0, .int .u32 0, .int .u32 0, .int .u32 0, .int .u32 0, .int .u32 0, .int .u32 0, .int .u32 0, .int .u32 0, .int .u32 0, .int .u32 0, .int .u32 0] 73) = w3 from hw3.symm)
  have hsz : w3.heap.size = w.heap.size + 1 := by rw [hw3]; simp
  have hH : Has w3 w.heap.size (rowN 64 []) 73 := by rw [hw3]; exact heap_alloc_new w _
  have hB : Below w.heap.size w w3 := by rw [hw3]; exact (Below.refl _ _).alloc (Nat.le_refl _) _
  have HH := Aside0.mk hH
  have HB := Aside0.mk hB
  have hcall : ∀ W, W = w3 → Calls Try.prog 60 #[.int .i64 64] W fun e w2 => ∃ g cap, e = .returned (.slice (some ⟨g, 0, none⟩) 64 cap) ∧ Aside0 (RowT 64 cubeN L 73 w g 0 w2) ∧ Aside0 (w.heap.size < g) := by
    rintro _ rfl
    refine (hpr _).mono ?_
    rintro e w2 ⟨v, rfl, hrow, hbel⟩
    rw [hsz] at hrow hbel
    have hrow2 : w2.ownsRow (w.heap.size + 1) 78 1 v L.length (L.map (fun x : Nat => Value.int .u64 x)) := by rw [HLL.out]; exact hrow
    rcases row_cases hrow2 with ⟨_, e⟩ | ⟨g, cap, rfl, hg, hcap, hc⟩
    · exact absurd HLL.out (by rw [e]; decide)
    rw [HLL.out] at hc ⊢
    have hH2 : Has w2 w.heap.size (rowN 64 []) 73 := (hbel.block w.heap.size (by omega)).trans HH.out
    exact ⟨g, cap, rfl, Aside0.mk ⟨hH2, HB.out.trans (hbel.mono (by omega)), hc⟩, Aside0.mk (by omega)⟩
  clear hw3 hH hB hsz hpr
  go_wp2_with (go_at_call 60; refine (hcall _ HW3.out).mono ?_; rintro e w2 ⟨g, cap, rfl, HR0, HG⟩)
  clear hcall HW3 HH HB
  go_loopw [5] (fun i W => ∃ t : Nat, t ≤ 64 ∧ i = .int .i64 t ∧ Aside0 (RowT 64 cubeN L 73 w g t W)) (fun i _ => 64 - (intOf i).toNat)
  case atStart => exact ⟨0, Nat.zero_le _, rfl, HR0⟩
  case round =>
    obtain ⟨t, ht, rfl, HR⟩ := hrel
    by_cases hlt : t < 64
    · have hcp := HR.out.2.2 t hlt
      obtain ⟨c0, f0⟩ := HR.out.1.at (rowN_at 64 _ (by simp; omega) t hlt)
      have hp : L.getD t 0 < 18446744073709551616 := by
        have : t < L.length := by rw [HLL.out]; exact hlt
        rw [List.getD_eq_getElem?_getD, List.getElem?_eq_getElem this]
        have := HLP.out _ (List.getElem_mem this)
        show L[t] < _
        omega
      have hroot := fun W => cube_any (L.getD t 0) hp W
      have HPUT := Aside0.mk (HR.out.put HLL.out hlt HG.out)
      generalize L.getD t 0 = p at *
      generalize cubeN p = q at *
      generalize (List.map cubeN (List.take t L)).getD t 0 = z at *
      have i0 : (0 : Int) ≤ (t : Int) := by omega
      have i1 : (t : Int) < 64 := by omega
      clear hp HR
      go_wp2_with (go_at_call 61; refine (hroot _).mono ?_; rintro e w' ⟨rfl, rfl⟩)
      go_roundw
      case rel => exact ⟨t + 1, by omega, by go_num, HPUT⟩
      case measure => simp [intOf]; omega
    · obtain rfl : t = 64 := by omega
      rw [show ((64 : Nat) : Int) = 64 from rfl]
      have hH := HR.out.1
      have hB := HR.out.2.1
      have htake : L.take 64 = L := List.take_of_length_le (by rw [HLL.out]; exact Nat.le_refl _)
      rw [htake] at hH
      have hsz := rowN_size 64 (L.map cubeN) (by simp; rw [HLL.out]; exact Nat.le_refl _)
      have h1 := rowN_one 64 (L.map cubeN)
      generalize hR : rowN 64 (L.map cubeN) = R at *
      have HRE := Aside0.mk hR
      clear hR
      have HH := Aside0.mk hH
      have HB := Aside0.mk hB
      have HSZ := Aside0.mk hsz
      have H1 := Aside0.mk h1
      clear hH hB hsz h1 htake HR HR0
      have hi : (Try.prog.info? 73).map (·.size) = some R.size := by rw [HSZ.out]; kernel_rfl
      have HI := Aside0.mk hi
      clear hi
      go_wp2_with (first | (refine wpList_load_mid rfl 73 (.tmp 0) rfl w.heap.size 0 rfl R.toList _ HH.out.range Try.underlying73 rfl (by rw [Array.length_toList]; exact HI.out) ?_; rw [Array.toArray_toList]) | (refine wpList_store_mid rfl 73 (.tmp 0) (.tmp 15) rfl w.heap.size 0 R rfl rfl HH.out.there HI.out H1.out ?_; rw [setCells_self R.toList 0 _ HH.out (by intro j v hv; rw [Nat.zero_add]; simpa using hv)]))
      exact bodyPost_ret (results_cell_row rfl _ _ w.heap.size 73 R (0, 0) _ rfl HH.out Try.underlying73 rfl HI.out) rfl ⟨by rw [HRE.out], HB.out⟩

end Go.Proofs.Ytkcjekboakoejaa.Print
