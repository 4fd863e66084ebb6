/- Contract of the reference's Root. -/
import Derived.Test.YtkcjekboakoejaaHSPower
import Derived.Deep.RegionHeld3
namespace Go.Proofs.Ytkcjekboakoejaa.Print
open Go Go.RowKit Go.Proofs.YtkcjekboakoejaaW.PrintWords
set_option linter.unusedVariables false
set_option linter.unusedSimpArgs false

theorem pow_any (x : Int) (n : Nat) (hn1 : 1 ≤ n) (hn : n ≤ 100) (p : N3) (hp : p = powI x (n - 1)) (w : World) : Calls Try.prog 83 #[.int .u64 x, .int .i64 n] w fun e w' => e = .returned (.agg #[.int .u64 p.1, .int .u64 p.2.1, .int .u64 p.2.2]) ∧ Below w.heap.size w w' := by
  rw [hp]; exact power_any x n hn1 hn w
def yI (x : Int) (r : Nat) : Int := bits .or .u64 x (IntKind.u64.wrap (2 ^ r))
/-- Is the n-th power of y above the goal? -/
def abv (y : Int) (n : Nat) (g : N3) : Bool := abI (powI y (n - 1)).1 (powI y (n - 1)).2.1 (powI y (n - 1)).2.2 g.1 g.2.1 g.2.2
/-- The bits of a root, from the r-th down. -/
def rGo (g : N3) (n : Nat) : Nat → Int → Int
  | 0, x => x
  | r + 1, x => rGo g n r (if abv (yI x r) n g = true then x else yI x r)
theorem rGo_succ (g : N3) (n r : Nat) (x : Int) : rGo g n (r + 1) x = rGo g n r (if abv (yI x r) n g = true then x else yI x r) := rfl
set_option maxRecDepth 1000000 in
set_option maxHeartbeats 4000000 in
theorem root2_any (p : Int) (n : Nat) (hn : n = 2) (w : World) : Calls Try.prog 71 #[.int .u64 p, .int .i64 n] w fun e w' => e = .returned (.int .u32 (IntKind.u32.wrap (rGo (0, p, 0) n 36 0))) ∧ Below w.heap.size w w' := by
  have t3 : ((n : Int) == 3) = false := by simp; omega
  have hn1 : 1 ≤ n := by omega
  have hn2 : n ≤ 100 := by omega
  clear hn
  obtain ⟨F, hF⟩ : ∃ F, F = rGo (0, p, 0) n 36 0 := ⟨_, rfl⟩
  rw [← hF]
  have HF := Aside0.mk hF
  clear hF
  obtain ⟨G, hG⟩ : ∃ G, G = w.heap.size := ⟨_, rfl⟩
  have HG := Aside0.mk hG
  go_enter Try.func71, Try.ntmps71
  go_wp2
  rw [← hG]
  clear hG t3
  have HW := Aside0.mk (show Has (w.alloc (.cells (v3 (0, p, 0)) 116)) G (v3 (0, p, 0)) 116 ∧ Below G w (w.alloc (.cells (v3 (0, p, 0)) 116)) from ⟨by rw [HG.out]; exact heap_alloc_new w _, by rw [HG.out]; exact (Below.refl _ w).alloc (Nat.le_refl _) _⟩)
  go_loopw [6, 7] (fun x i W => ∃ (r : Nat) (xI : Int), r ≤ 36 ∧ x = .int .u64 xI ∧ i = .int .i64 ((r : Int) - 1) ∧ Aside0 (rGo (0, p, 0) n r xI = F ∧ Has W G (v3 (0, p, 0)) 116 ∧ Below G w W)) (fun _ i _ => (intOf i + 1).toNat)
  case atStart => exact ⟨36, 0, Nat.le_refl _, rfl, rfl, Aside0.mk ⟨HF.out.symm, HW.out⟩⟩
  case round =>
    obtain ⟨r, x, hr, rfl, rfl, HR⟩ := hrel
    cases r with
    | zero =>
      obtain rfl : x = F := HR.out.1
      rw [show (((0 : Nat) : Int) - 1) = -1 from rfl]
      have hb := HR.out.2.2
      rw [HG.out] at hb
      clear HR HW HF HG
      go_wp2
      go_ret
      exact ⟨rfl, hb⟩
    | succ r =>
      rw [show (((r + 1 : Nat) : Int) - 1) = (r : Int) from by omega]
      have hr35 : (r : Int) ≤ 35 := by omega
      go_wp2
      have hst := HR.out.1
      rw [rGo_succ] at hst
      have hy : yI x r = bits .or .u64 x (IntKind.u64.wrap (2 ^ r)) := rfl
      have hav : ∀ q : N3, q = powI (yI x r) (n - 1) → abI q.1 q.2.1 q.2.2 0 p 0 = abv (yI x r) n (0, p, 0) := fun q hq => by rw [hq]; rfl
      have hpw : ∀ W, Has W G (v3 (0, p, 0)) 116 → Below G w W → Calls Try.prog 83 #[.int .u64 (yI x r), .int .i64 n] W fun e w' => e = .returned (.agg (v3 (powI (yI x r) (n - 1)))) ∧ Has w' G (v3 (0, p, 0)) 116 ∧ Aside0 (Has w' G (v3 (0, p, 0)) 116 ∧ Below G w w') := fun W h1 h2 =>
        (power_any (yI x r) n hn1 hn2 W).mono fun e w' ⟨he, hb⟩ => ⟨he, (hb.block G h1.lt).trans h1, Aside0.mk ⟨(hb.block G h1.lt).trans h1, h2.trans (hb.mono (Nat.le_of_lt h1.lt))⟩⟩
      obtain ⟨q, hq⟩ : ∃ q, q = powI (yI x r) (n - 1) := ⟨_, rfl⟩
      rw [← hq] at hpw
      have hav := hav q hq
      clear hq
      obtain ⟨q0, q1, q2⟩ := q
      have hab : ∀ W, Has W G (v3 (0, p, 0)) 116 → Below G w W → Calls Try.prog 82 #[.agg (v3 (q0, q1, q2)), .agg (v3 (0, p, 0))] W fun e w' => e = .returned (.bool (abv (yI x r) n (0, p, 0))) ∧ Aside0 (Has w' G (v3 (0, p, 0)) 116 ∧ Below G w w') := fun W h1 h2 => by
        refine (above_any q0 q1 q2 0 p 0 W).mono ?_
        rintro e w' ⟨rfl, hb⟩
        exact ⟨by rw [← hav], Aside0.mk ⟨(hb.block G h1.lt).trans h1, h2.trans (hb.mono (Nat.le_of_lt h1.lt))⟩⟩
      clear hav
      have e3 : ∀ u : N3, v3 u = #[.int .u64 u.1, .int .u64 u.2.1, .int .u64 u.2.2] := fun _ => rfl
      rw [e3 (q0, q1, q2)] at hpw hab
      rw [e3 (0, p, 0)] at hab
      have HPW := Lib.hid hpw
      have HR2 := Aside0.mk HR.out.2
      have hb := HR.out.2.1
      unfold v3 at hb
      obtain ⟨c0, c1, c2⟩ := qc3 hb
      clear hb HR HW HF hpw
      generalize yI x r = y at *
      rw [← hy]
      clear hy
      by_cases hA : abv y n (0, p, 0) = true
      · rw [hA] at hab
        rw [if_pos hA] at hst
        have HST := Aside0.mk hst
        have HAB := Lib.hid hab
        clear hA hst hab
        go_region_with (first | (go_at_call 83; refine (HPW.out _ (by exact HR2.out.1) (by first | exact HR2.out.2 | exact HR2.out.2.drew | exact HR2.out.2.drew.drew)).mono ?_; rintro e w1 ⟨rfl, hh, HW1⟩; unfold v3 at hh; obtain ⟨e0, e1, e2⟩ := qc3 hh) | (go_at_call 82; refine (HAB.out _ (by exact HW1.out.1) (by first | exact HW1.out.2 | exact HW1.out.2.drew | exact HW1.out.2.drew.drew)).mono ?_; rintro e w2 ⟨rfl, HW2⟩))
        all_goals
          go_wp2
          go_roundw
          case rel => exact ⟨r, x, by omega, rfl, rfl, Aside0.mk ⟨HST.out, HW2.out.1, by first | exact HW2.out.2 | exact HW2.out.2.drew | exact HW2.out.2.drew.drew⟩⟩
          case measure => simp [intOf]
      · have hA : abv y n (0, p, 0) = false := by simpa using hA
        rw [hA] at hab
        rw [if_neg (by rw [hA]; decide)] at hst
        have HST := Aside0.mk hst
        have HAB := Lib.hid hab
        clear hA hst hab
        go_region_with (first | (go_at_call 83; refine (HPW.out _ (by exact HR2.out.1) (by first | exact HR2.out.2 | exact HR2.out.2.drew | exact HR2.out.2.drew.drew)).mono ?_; rintro e w1 ⟨rfl, hh, HW1⟩; unfold v3 at hh; obtain ⟨e0, e1, e2⟩ := qc3 hh) | (go_at_call 82; refine (HAB.out _ (by exact HW1.out.1) (by first | exact HW1.out.2 | exact HW1.out.2.drew | exact HW1.out.2.drew.drew)).mono ?_; rintro e w2 ⟨rfl, HW2⟩))
        all_goals
          go_wp2
          go_roundw
          case rel => exact ⟨r, y, by omega, rfl, rfl, Aside0.mk ⟨HST.out, HW2.out.1, by first | exact HW2.out.2 | exact HW2.out.2.drew | exact HW2.out.2.drew.drew⟩⟩
          case measure => simp [intOf]
set_option maxRecDepth 1000000 in
set_option maxHeartbeats 4000000 in
theorem root3_any (p : Int) (n : Nat) (hn : n = 3) (w : World) : Calls Try.prog 71 #[.int .u64 p, .int .i64 n] w fun e w' => e = .returned (.int .u32 (IntKind.u32.wrap (rGo (0, IntKind.u64.wrap (p * 4294967296), p / 4294967296) n 36 0))) ∧ Below w.heap.size w w' := by
  have t3 : ((n : Int) == 3) = true := by simp; omega
  have hn1 : 1 ≤ n := by omega
  have hn2 : n ≤ 100 := by omega
  clear hn
  obtain ⟨F, hF⟩ : ∃ F, F = rGo (0, IntKind.u64.wrap (p * 4294967296), p / 4294967296) n 36 0 := ⟨_, rfl⟩
  rw [← hF]
  have HF := Aside0.mk hF
  clear hF
  obtain ⟨G, hG⟩ : ∃ G, G = w.heap.size := ⟨_, rfl⟩
  have HG := Aside0.mk hG
  go_enter Try.func71, Try.ntmps71
  go_wp2
  rw [← hG]
  clear hG t3
  generalize IntKind.u64.wrap (p * 4294967296) = g1 at *
  generalize p / 4294967296 = g2 at *
  have HW := Aside0.mk (show Has (w.alloc (.cells (v3 (0, g1, g2)) 116)) G (v3 (0, g1, g2)) 116 ∧ Below G w (w.alloc (.cells (v3 (0, g1, g2)) 116)) from ⟨by rw [HG.out]; exact heap_alloc_new w _, by rw [HG.out]; exact (Below.refl _ w).alloc (Nat.le_refl _) _⟩)
  go_loopw [6, 7] (fun x i W => ∃ (r : Nat) (xI : Int), r ≤ 36 ∧ x = .int .u64 xI ∧ i = .int .i64 ((r : Int) - 1) ∧ Aside0 (rGo (0, g1, g2) n r xI = F ∧ Has W G (v3 (0, g1, g2)) 116 ∧ Below G w W)) (fun _ i _ => (intOf i + 1).toNat)
  case atStart => exact ⟨36, 0, Nat.le_refl _, rfl, rfl, Aside0.mk ⟨HF.out.symm, HW.out⟩⟩
  case round =>
    obtain ⟨r, x, hr, rfl, rfl, HR⟩ := hrel
    cases r with
    | zero =>
      obtain rfl : x = F := HR.out.1
      rw [show (((0 : Nat) : Int) - 1) = -1 from rfl]
      have hb := HR.out.2.2
      rw [HG.out] at hb
      clear HR HW HF HG
      go_wp2
      go_ret
      exact ⟨rfl, hb⟩
    | succ r =>
      rw [show (((r + 1 : Nat) : Int) - 1) = (r : Int) from by omega]
      have hr35 : (r : Int) ≤ 35 := by omega
      go_wp2
      have hst := HR.out.1
      rw [rGo_succ] at hst
      have hy : yI x r = bits .or .u64 x (IntKind.u64.wrap (2 ^ r)) := rfl
      have hav : ∀ q : N3, q = powI (yI x r) (n - 1) → abI q.1 q.2.1 q.2.2 0 g1 g2 = abv (yI x r) n (0, g1, g2) := fun q hq => by rw [hq]; rfl
      have hpw : ∀ W, Has W G (v3 (0, g1, g2)) 116 → Below G w W → Calls Try.prog 83 #[.int .u64 (yI x r), .int .i64 n] W fun e w' => e = .returned (.agg (v3 (powI (yI x r) (n - 1)))) ∧ Has w' G (v3 (0, g1, g2)) 116 ∧ Aside0 (Has w' G (v3 (0, g1, g2)) 116 ∧ Below G w w') := fun W h1 h2 =>
        (power_any (yI x r) n hn1 hn2 W).mono fun e w' ⟨he, hb⟩ => ⟨he, (hb.block G h1.lt).trans h1, Aside0.mk ⟨(hb.block G h1.lt).trans h1, h2.trans (hb.mono (Nat.le_of_lt h1.lt))⟩⟩
      obtain ⟨q, hq⟩ : ∃ q, q = powI (yI x r) (n - 1) := ⟨_, rfl⟩
      rw [← hq] at hpw
      have hav := hav q hq
      clear hq
      obtain ⟨q0, q1, q2⟩ := q
      have hab : ∀ W, Has W G (v3 (0, g1, g2)) 116 → Below G w W → Calls Try.prog 82 #[.agg (v3 (q0, q1, q2)), .agg (v3 (0, g1, g2))] W fun e w' => e = .returned (.bool (abv (yI x r) n (0, g1, g2))) ∧ Aside0 (Has w' G (v3 (0, g1, g2)) 116 ∧ Below G w w') := fun W h1 h2 => by
        refine (above_any q0 q1 q2 0 g1 g2 W).mono ?_
        rintro e w' ⟨rfl, hb⟩
        exact ⟨by rw [← hav], Aside0.mk ⟨(hb.block G h1.lt).trans h1, h2.trans (hb.mono (Nat.le_of_lt h1.lt))⟩⟩
      clear hav
      have e3 : ∀ u : N3, v3 u = #[.int .u64 u.1, .int .u64 u.2.1, .int .u64 u.2.2] := fun _ => rfl
      rw [e3 (q0, q1, q2)] at hpw hab
      rw [e3 (0, g1, g2)] at hab
      have HPW := Lib.hid hpw
      have HR2 := Aside0.mk HR.out.2
      have hb := HR.out.2.1
      unfold v3 at hb
      obtain ⟨c0, c1, c2⟩ := qc3 hb
      clear hb HR HW HF hpw
      generalize yI x r = y at *
      rw [← hy]
      clear hy
      by_cases hA : abv y n (0, g1, g2) = true
      · rw [hA] at hab
        rw [if_pos hA] at hst
        have HST := Aside0.mk hst
        have HAB := Lib.hid hab
        clear hA hst hab
        go_region_with (first | (go_at_call 83; refine (HPW.out _ (by exact HR2.out.1) (by first | exact HR2.out.2 | exact HR2.out.2.drew | exact HR2.out.2.drew.drew)).mono ?_; rintro e w1 ⟨rfl, hh, HW1⟩; unfold v3 at hh; obtain ⟨e0, e1, e2⟩ := qc3 hh) | (go_at_call 82; refine (HAB.out _ (by exact HW1.out.1) (by first | exact HW1.out.2 | exact HW1.out.2.drew | exact HW1.out.2.drew.drew)).mono ?_; rintro e w2 ⟨rfl, HW2⟩))
        all_goals
          go_wp2
          go_roundw
          case rel => exact ⟨r, x, by omega, rfl, rfl, Aside0.mk ⟨HST.out, HW2.out.1, by first | exact HW2.out.2 | exact HW2.out.2.drew | exact HW2.out.2.drew.drew⟩⟩
          case measure => simp [intOf]
      · have hA : abv y n (0, g1, g2) = false := by simpa using hA
        rw [hA] at hab
        rw [if_neg (by rw [hA]; decide)] at hst
        have HST := Aside0.mk hst
        have HAB := Lib.hid hab
        clear hA hst hab
        go_region_with (first | (go_at_call 83; refine (HPW.out _ (by exact HR2.out.1) (by first | exact HR2.out.2 | exact HR2.out.2.drew | exact HR2.out.2.drew.drew)).mono ?_; rintro e w1 ⟨rfl, hh, HW1⟩; unfold v3 at hh; obtain ⟨e0, e1, e2⟩ := qc3 hh) | (go_at_call 82; refine (HAB.out _ (by exact HW1.out.1) (by first | exact HW1.out.2 | exact HW1.out.2.drew | exact HW1.out.2.drew.drew)).mono ?_; rintro e w2 ⟨rfl, HW2⟩))
        all_goals
          go_wp2
          go_roundw
          case rel => exact ⟨r, y, by omega, rfl, rfl, Aside0.mk ⟨HST.out, HW2.out.1, by first | exact HW2.out.2 | exact HW2.out.2.drew | exact HW2.out.2.drew.drew⟩⟩
          case measure => simp [intOf]
/-- The reference's Root, of the second and the third root. -/
def rootI (p : Int) (n : Nat) : Int := IntKind.u32.wrap (rGo (if n = 3 then (0, IntKind.u64.wrap (p * 4294967296), p / 4294967296) else (0, p, 0)) n 36 0)
theorem root_any (p : Int) (n : Nat) (hn : n = 2 ∨ n = 3) (w : World) : Calls Try.prog 71 #[.int .u64 p, .int .i64 n] w fun e w' => e = .returned (.int .u32 (rootI p n)) ∧ Below w.heap.size w w' := by
  rcases hn with h | h
  · have := root2_any p n h w
    unfold rootI
    rw [if_neg (by omega)]
    exact this
  · have := root3_any p n h w
    unfold rootI
    rw [if_pos h]
    exact this
end Go.Proofs.Ytkcjekboakoejaa.Print
