/- Contract of slices.Compact at nodes: how many stay. -/
import Derived.Test.YtddjhmelniphgaaGMap
import Derived.Test.YtddjhmelniphgaaGOrd
import Derived.IntWalk
import Derived.Deep.QuietTactic
import Derived.BigQuiet
import Derived.Test.YtddjhmelniphgaaPrint1
namespace Go.Proofs.Ytddjhmelniphgaa.Print
open Go Go.RowKit Go.Proofs.YtddjhmelniphgaaW.PrintWords Go.Proofs.YtddjhmelniphgaaW.PrintLast
set_option linter.unusedVariables false
set_option linter.unusedSimpArgs false
attribute [local go_sem high] eqA24

/-- A row of nodes that may be written: its cells at g. -/
def RowN (W : World) (g n : Nat) (d : Nat → Nd) : Prop := ∀ j, j < n → W.cell? ⟨g, j * 2, none⟩ = some (.string (d j).f0) ∧ W.cell? ⟨g, j * 2 + 1, none⟩ = some (.int .i64 (d j).f1) ∧ W.frozen? ⟨g, j * 2, none⟩ = false ∧ W.frozen? ⟨g, j * 2 + 1, none⟩ = false
theorem RowN.later {W W1 : World} {g n : Nat} {d : Nat → Nd} (h : RowN W g n d) (he : W1.heap[g]? = W.heap[g]?) : RowN W1 g n d := fun j hj => by
  obtain ⟨h0, h1, h2, h3⟩ := h j hj
  exact ⟨(World.cell?_of_block (w := W) (a := ⟨g, j * 2, none⟩) he).trans h0, (World.cell?_of_block (w := W) (a := ⟨g, j * 2 + 1, none⟩) he).trans h1, (World.frozen?_of_block (w := W) (a := ⟨g, j * 2, none⟩) he).trans h2, (World.frozen?_of_block (w := W) (a := ⟨g, j * 2 + 1, none⟩) he).trans h3⟩
theorem RowN.set {W : World} {g n : Nat} {d : Nat → Nd} (h : RowN W g n d) (k : Nat) (hk : k < n) (x : Nd) : RowN ((W.setCell ⟨g, k * 2, none⟩ (.string x.f0)).setCell ⟨g, k * 2 + 1, none⟩ (.int .i64 x.f1)) g n (fun j => if j = k then x else d j) := fun j hj => by
  by_cases e : j = k
  · subst e
    obtain ⟨h0, h1, h2, h3⟩ := h j hj
    have e0 : (fun j_1 => if j_1 = j then x else d j_1) j = x := if_pos rfl
    rw [e0]
    refine ⟨?_, ?_, ?_, ?_⟩ <;> go_simp
  · obtain ⟨h0, h1, h2, h3⟩ := h j hj
    obtain ⟨p0, p1, p2, p3⟩ := h k hk
    have e0 : (fun j => if j = k then x else d j) j = d j := if_neg e
    rw [e0]
    have e1 : j * 2 ≠ k * 2 := by omega
    have e2 : j * 2 ≠ k * 2 + 1 := by omega
    have e3 : j * 2 + 1 ≠ k * 2 := by omega
    have e4 : j * 2 + 1 ≠ k * 2 + 1 := by omega
    refine ⟨?_, ?_, ?_, ?_⟩ <;> go_simp
theorem below_setCells (g : Nat) (w0 : World) : ∀ (vs : List Value) (o : Nat) (w : World), Below g w0 w → Below g w0 (w.setCells g o vs)
  | [], _, _, h => h
  | v :: r, o, w, h => below_setCells g w0 r (o + 1) _ (h.setCell (p := ⟨g, o, none⟩) (Nat.le_refl _) v)
/-- clear(s[k:]) of a row of nodes. -/
theorem clear_row (g k n c : Nat) (d : Nat → Nd) (w : World) (hk : k < n) (hR : RowN w g n d) :
    ∃ vs, ∀ ty, (Builtin.clear_ #[25] ty #[.slice (some ⟨g, k * 2, none⟩) (n - k) (c - k)]).run Try.prog w = .ok (.tuple #[]) (w.setCells g (k * 2) vs) := by
  have hz : ∀ W : World, (zeroValue 24).run Try.prog W = .ok (.agg #[.string ⟨#[]⟩, .int .i64 0]) W := Try.zeroValue24
  obtain ⟨m, hm⟩ : ∃ m, n - k = m + 1 := ⟨n - k - 1, by omega⟩
  refine ⟨(Builtin.zeroCells (Value.agg #[.string ⟨#[]⟩, .int .i64 0]).cells (m + 1)).toList, fun ty => ?_⟩
  have hlen : (Builtin.zeroCells (Value.agg #[.string ⟨#[]⟩, .int .i64 0]).cells (m + 1)).toList.length = (m + 1) * 2 := by simp [Builtin.zeroCells, Value.cells]
  have hcells : ∀ j, j < (m + 1) * 2 → (w.cell? ⟨g, k * 2 + 0 + j, none⟩).isSome = true ∧ w.frozen? ⟨g, k * 2 + 0 + j, none⟩ = false := fun j hj => by
    obtain ⟨h0, h1, h2, h3⟩ := hR (k + j / 2) (by omega)
    rcases Nat.mod_two_eq_zero_or_one j with e | e
    · have e1 : k * 2 + 0 + j = (k + j / 2) * 2 := by omega
      rw [e1, h0]; exact ⟨rfl, h2⟩
    · have e1 : k * 2 + 0 + j = (k + j / 2) * 2 + 1 := by omega
      rw [e1, h1]; exact ⟨rfl, h3⟩
  have hst := run_storeCells_cells (P := Try.prog) g (k * 2) (Builtin.zeroCells (Value.agg #[.string ⟨#[]⟩, .int .i64 0]).cells (m + 1)).toList 0 w
    (fun j hj => (hcells j (by rw [hlen] at hj; exact hj)).1) (fun j hj => (hcells j (by rw [hlen] at hj; exact hj)).2)
    (fun v hv => by
      simp only [Builtin.zeroCells, Array.toList_map, List.mem_map, Array.mem_toList_iff, Array.mem_range] at hv
      obtain ⟨i, hi, rfl⟩ := hv
      have : i % 2 = 0 ∨ i % 2 = 1 := Nat.mod_two_eq_zero_or_one i
      simp only [Value.cells]
      have hs : (#[Value.string ⟨#[]⟩, Value.int .i64 0] : Array Value).size = 2 := rfl
      rw [hs]
      rcases this with e | e <;> rw [e] <;> rfl)
  rw [hm]
  simp only [Nat.add_zero] at hst
  simp [Builtin.clear_, run_underlying Try.underlying25, hz, hst, Result.andThen]
/-- How many of the first i are not as the one ahead of them (the first counts). -/
def kept (d : Nat → Nd) : Nat → Nat
  | 0 => 1
  | i + 1 => kept d i + if i = 0 then 0 else if d i = d (i - 1) then 0 else 1

theorem eqB (x y : Nd) : (x.f0.toList == y.f0.toList && (x.f1 == y.f1)) = decide (x = y) := by
  rw [Bool.eq_iff_iff, Bool.and_eq_true, decide_eq_true_iff, beq_iff_eq, beq_iff_eq]
  constructor
  · rintro ⟨h1, h2⟩
    obtain ⟨x0, x1⟩ := x
    obtain ⟨y0, y1⟩ := y
    simp only at h1 h2
    rw [h2, ba_ext h1]
  · rintro rfl; exact ⟨rfl, rfl⟩

set_option maxRecDepth 100000 in
set_option maxHeartbeats 2000000 in
theorem compact_any (g n c : Nat) (d : Nat → Nd) (w : World) (hn : 2 ≤ n) (hbig : n ≤ 1048576) (hc : n ≤ c) (hR : RowN w g n d) (hg : g < w.heap.size) :
    Calls Try.prog 47 #[.slice (some ⟨g, 0, none⟩) n c] w fun e w' => e = .returned (.slice (some ⟨g, 0, none⟩) (kept d n) c) ∧ Below g w w' := by
  have HR := Aside0.mk hR
  have hu24 := Try.underlying24
  clear hR
  go_enter Try.func47, Try.ntmps47
  go_wp2
  go_loopg [3] n (fun gg s3 wr => ∃ k : Nat, 1 ≤ k ∧ k ≤ n ∧ n - k ≤ gg ∧ s3 = .int .i64 k ∧ Aside0 (kept d k = k) ∧ Aside0 (∃ m, wr = w.drewN m))
  case atStart => exact ⟨1, Nat.le_refl _, by omega, by omega, rfl, Aside0.mk rfl, Aside0.mk ⟨0, rfl⟩⟩
  case round =>
    obtain ⟨k, hk1, hk, hgg, rfl, HK, HW⟩ := hrel
    by_cases hlt : k < n
    · have hltz : (k : Int) < (n : Int) := by omega
      obtain ⟨m, rfl⟩ := HW.out
      clear HW
      obtain ⟨i, rfl⟩ : ∃ i, k = i + 1 := ⟨k - 1, by omega⟩
      obtain ⟨h0, h1, h2, h3⟩ := HR.out (i + 1) hlt
      obtain ⟨p0, p1, p2, p3⟩ := HR.out i (by omega)
      have hcast : ((i + 1 : Nat) : Int) = (i : Int) + 1 := by omega
      rw [hcast] at hltz ⊢
      clear hcast
      have hin : (i : Int) < n := by omega
      have hi0 : (0 : Int) ≤ (i : Int) + 1 := by omega
      have hw1 : IntKind.i64.wrap (i : Int) = i := IntWalk.i64_in _ (by omega)
      have hi1 : (0 : Int) ≤ i := by omega
      by_cases heq : d (i + 1) = d i
      · have heb : ((d (i + 1)).f0.toList == (d i).f0.toList && ((d (i + 1)).f1 == (d i).f1)) = true := by rw [eqB]; exact decide_eq_true heq
        have HE := Aside0.mk heq
        clear heq
        go_wp2
        go_quiet (fail)
        go_wp2
        go_loopg [3, 5] n (fun gg s3 s5 wr => ∃ k k2 : Nat, 1 ≤ k2 ∧ i + 1 + k2 ≤ n ∧ n - k2 ≤ gg ∧ k ≤ i + k2 ∧ s3 = .int .i64 k ∧ s5 = .int .i64 k2 ∧ Aside0 (kept d (i + 1 + k2) = k) ∧ Aside0 (Below g w wr) ∧ Aside0 (∃ d', RowN wr g n d' ∧ ∀ j, i + k2 ≤ j → d' j = d j))
        case atStart => exact ⟨i + 1, 1, Nat.le_refl _, by omega, by omega, Nat.le_refl _, by go_num, rfl, Aside0.mk (by rw [kept, HK.out, if_neg (by omega), Nat.add_sub_cancel, if_pos HE.out]), Aside0.mk (pw_below_drewN (Below.refl _ _) _), Aside0.mk ⟨d, HR.out.later rfl, fun _ _ => rfl⟩⟩
        case round =>
          obtain ⟨k, k2, hk21, hk22, hg2, hkk, rfl, rfl, HK2, HB, HD⟩ := hrel
          clear h0 h1 h2 h3 p0 p1 p2 p3
          by_cases hl2 : i + 1 + k2 < n
          · obtain ⟨q, rfl⟩ : ∃ q, k2 = q + 1 := ⟨k2 - 1, by omega⟩
            obtain ⟨d', hd', hsame⟩ := HD.out
            clear HD
            have hcast : ((q + 1 : Nat) : Int) = (q : Int) + 1 := by omega
            rw [hcast]
            clear hcast
            obtain ⟨h0, h1, h2, h3⟩ := hd' (i + 1 + (q + 1)) hl2
            obtain ⟨p0, p1, p2, p3⟩ := hd' (i + 1 + q) (by omega)
            obtain ⟨s0, s1, s2, s3⟩ := hd' k (by omega)
            rw [hsame _ (by omega)] at h0 h1 p0 p1
            have e1 : (i + 1 + (q + 1)) * 2 = (i + 1) * 2 + (q + 1) * 2 := by omega
            have e2 : (i + 1 + q) * 2 = (i + 1) * 2 + q * 2 := by omega
            rw [e1] at h0 h1 h2 h3
            rw [e2] at p0 p1 p2 p3
            clear e1 e2
            have hq1 : IntKind.i64.wrap (q : Int) = q := IntWalk.i64_in _ (by omega)
            have hq0 : (0 : Int) ≤ (q : Int) + 1 := by omega
            have hq2 : (0 : Int) ≤ (q : Int) := by omega
            have hq3 : (q : Int) + 1 < ((n - (i + 1) : Nat) : Int) := by omega
            have hq4 : (q : Int) < ((n - (i + 1) : Nat) : Int) := by omega
            have HD' := Aside0.mk hd'
            have HS := Aside0.mk hsame
            clear hd' hsame
            by_cases heq2 : d (i + 1 + (q + 1)) = d (i + 1 + q)
            · have heb2 : ((d (i + 1 + (q + 1))).f0.toList == (d (i + 1 + q)).f0.toList && ((d (i + 1 + (q + 1))).f1 == (d (i + 1 + q)).f1)) = true := by rw [eqB]; exact decide_eq_true heq2
              have HE2 := Aside0.mk heq2
              clear heq2
              go_wp2
              go_quiet (fail)
              go_wp2
              go_roundg (n - (q + 1 + 1))
              case measure => omega
              case rel =>
                have e3 : i + 1 + (q + 1 + 1) = (i + 1 + (q + 1)) + 1 := by omega
                have e4 : i + 1 + (q + 1) - 1 = i + 1 + q := by omega
                exact ⟨k, q + 1 + 1, by omega, by omega, by omega, by omega, rfl, by go_num, Aside0.mk (by rw [e3, kept, if_neg (by omega), e4, if_pos HE2.out]; exact HK2.out), Aside0.mk (pw_below_drewN HB.out _), Aside0.mk ⟨d', HD'.out.later rfl, fun j hj => HS.out j (by omega)⟩⟩
            · have heb2 : ((d (i + 1 + (q + 1))).f0.toList == (d (i + 1 + q)).f0.toList && ((d (i + 1 + (q + 1))).f1 == (d (i + 1 + q)).f1)) = false := by rw [eqB]; exact decide_eq_false heq2
              have HE2 := Aside0.mk heq2
              clear heq2
              have hkn : (k : Int) < (n : Int) := by omega
              go_wp2
              go_quiet (fail)
              go_wp2
              go_roundg (n - (q + 1 + 1))
              case measure => omega
              case rel =>
                have e3 : i + 1 + (q + 1 + 1) = (i + 1 + (q + 1)) + 1 := by omega
                have e4 : i + 1 + (q + 1) - 1 = i + 1 + q := by omega
                have hset := RowN.set (HD'.out.later (W1 := wr.drewN nq) rfl) k (by omega) (d (i + 1 + (q + 1)))
                exact ⟨k + 1, q + 1 + 1, by omega, by omega, by omega, by omega, by go_num, by go_num, Aside0.mk (by rw [e3, kept, if_neg (by omega), e4, if_neg HE2.out, HK2.out]), Aside0.mk (((pw_below_drewN HB.out _).setCell (p := ⟨g, k * 2, none⟩) (Nat.le_refl _) _).setCell (p := ⟨g, k * 2 + 1, none⟩) (Nat.le_refl _) _), Aside0.mk ⟨_, hset, fun j hj => by rw [if_neg (by omega)]; exact HS.out j (by omega)⟩⟩
          · have hk2 : i + 1 + k2 = n := by omega
            obtain ⟨d', hd', hsame⟩ := HD.out
            obtain ⟨vs, hcl⟩ := clear_row g k n c d' wr (by omega) hd'
            clear hd' hsame HD
            have hkn : (k : Int) < (n : Int) := by omega
            go_wp2
            go_ret
            refine ⟨?_, below_setCells g w vs _ _ HB.out⟩
            have e5 : kept d n = k := by rw [← hk2]; exact HK2.out
            rw [e5]
            rfl
      · have hne : ((d (i + 1)).f0.toList == (d i).f0.toList && ((d (i + 1)).f1 == (d i).f1)) = false := by rw [eqB]; exact decide_eq_false heq
        have HE := Aside0.mk heq
        clear heq
        go_wp2
        go_quiet (fail)
        go_wp2
        go_roundg (n - (i + 1 + 1))
        case measure => omega
        case rel => exact ⟨i + 1 + 1, by omega, by omega, by omega, by go_num, Aside0.mk (by rw [kept, HK.out, if_neg (by omega), Nat.add_sub_cancel, if_neg HE.out]), Aside0.mk ⟨_, rfl⟩⟩
    · obtain rfl : k = n := by omega
      obtain ⟨m, rfl⟩ := HW.out
      go_wp2
      go_ret
      exact ⟨by rw [HK.out]; rfl, pw_below_drewN (Below.refl _ _) _⟩
end Go.Proofs.Ytddjhmelniphgaa.Print
