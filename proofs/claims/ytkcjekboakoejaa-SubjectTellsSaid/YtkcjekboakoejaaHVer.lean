/- Contracts of slices.IndexFunc and subject.first over versions: the place of the first version of which a predicate holds. -/
import Derived.Test.YtkcjekboakoejaaPrint0
import Derived.Shelf.Abstract
namespace Go.Proofs.Ytkcjekboakoejaa.Print
open Go.RowKit Go.Shelf Go.Proofs.YtkcjekboakoejaaW.PrintWords Go.Proofs.YtkcjekboakoejaaW.PrintLast
set_option linter.unusedVariables false
set_option linter.unusedSimpArgs false

abbrev V30 := S30
/-- A version as a value. -/
def encV (x : V30) : Value := .agg #[.int .i64 x.f0, .int .u32 x.f1, .bool x.f2]

/-- What a function value is asked: at each version, in each later world, it answers p. -/
def PredV (g : Nat) (lb : Array Value) (p : V30 → Bool) (w : World) : Prop :=
  ∀ (W : World) (x : V30), Below w.heap.size w W → Calls Try.prog g (#[.agg #[.int .i64 x.f0, .int .u32 x.f1, .bool x.f2]] ++ lb) W fun e w' => e = .returned (.bool (p x)) ∧ Below W.heap.size W w'

theorem PredV.later {g : Nat} {lb : Array Value} {p : V30 → Bool} {w w1 : World} (h : PredV g lb p w) (hb : Below w.heap.size w w1) : PredV g lb p w1 := fun W x hb1 => h W x (hb.trans (hb1.mono hb.size))

/-- The place of the first one; -1: none. -/
def idxP (p : V30 → Bool) : List V30 → Int → Int
  | [], _ => -1
  | x :: r, i => if p x = true then i else idxP p r (i + 1)

theorem idxP_hit (p : V30 → Bool) : ∀ (l : List V30) (k : Nat) (i : Int) (hk : k < l.length), (∀ j, j < k → p (l.getD j z30) = false) → p (l.getD k z30) = true → idxP p l i = i + k
  | x :: r, 0, i, _, _, h => by simp only [idxP]; rw [if_pos (by simpa using h)]; simp
  | x :: r, k + 1, i, hk, ha, h => by
    simp only [idxP]
    rw [if_neg (by have := ha 0 (by omega); simp at this; simp [this])]
    rw [idxP_hit p r k (i + 1) (by simpa using hk) (fun j hj => by have := ha (j + 1) (by omega); simpa using this) (by simpa using h)]
    omega
theorem idxP_miss (p : V30 → Bool) : ∀ (l : List V30) (i : Int), (∀ j, j < l.length → p (l.getD j z30) = false) → idxP p l i = -1
  | [], _, _ => rfl
  | x :: r, i, ha => by
    simp only [idxP]
    rw [if_neg (by have := ha 0 (by simp); simp at this; simp [this])]
    exact idxP_miss p r (i + 1) (fun j hj => by have := ha (j + 1) (by simpa using hj); simpa using this)

set_option maxHeartbeats 1000000 in
theorem index_any (g : Nat) (lb : Array Value) (eg : ∀ args w, (callFunc g args).run Try.prog w = .ok (.enter g args) w) (p : V30 → Bool) (A : Option Addr) (c : Nat) (l : List V30) (w : World)
    (hr : Kd.C k30 w A l.length l) (hc : l.length ≤ c) (hbig : l.length ≤ 1048576) (hp : PredV g lb p w) :
    Calls Try.prog 57 #[.slice A l.length c, .func (.func g) #[] lb] w fun e w' => e = .returned (.int .i64 (idxP p l 0)) ∧ Below w.heap.size w w' := by
  have HR := Aside0.mk hr
  have HP := Aside0.mk hp
  clear hr hp
  obtain ⟨n, hn⟩ : ∃ n, n = l.length := ⟨_, rfl⟩
  have HN := Aside0.mk hn
  rw [← hn] at hc hbig ⊢
  clear hn
  go_enter Try.func57, Try.ntmps57
  go_wp2
  go_loopg [5, 8] n (fun gg _ s8 wr => ∃ kk : Nat, kk ≤ n ∧ n - kk ≤ gg ∧ s8 = .int .i64 kk ∧ Aside0 (Below w.heap.size w wr) ∧ Aside0 (∀ j, j < kk → p (l.getD j z30) = false))
  case atStart => exact ⟨0, Nat.zero_le _, by omega, rfl, Aside0.mk (Below.refl _ w), Aside0.mk (fun j hj => absurd hj (Nat.not_lt_zero _))⟩
  case round =>
    obtain ⟨kk, hkk, hg, rfl, BW, HA⟩ := hrel
    by_cases hlt : kk < n
    · have hltz : (kk : Int) < (n : Int) := by omega
      obtain ⟨ad, rfl, h0, h1, h2⟩ := at_T30 (Kd.C_below HR.out BW.out) (kk : Int) (by omega) (by have := HN.out; omega)
      have hcall := HP.out wr (rd_T30 l kk) BW.out
      have hz : rd_T30 l kk = l.getD kk z30 := by simp [rd_T30]
      have HZ := Aside0.mk hz
      clear hz
      generalize rd_T30 l kk = y at hcall h0 h1 h2 HZ
      simp only [Int.toNat_natCast] at h0 h1 h2
      cases hq : p y with
      | true =>
        rw [hq] at hcall
        go_wp2_with (go_at_fn g; refine hcall.mono ?_; rintro e w' ⟨rfl, hb'⟩)
        go_ret
        have hb' := BW.out.trans (hb'.mono BW.out.size)
        refine ⟨?_, hb'⟩
        rw [idxP_hit p l kk 0 (by have := HN.out; omega) HA.out (by rw [← HZ.out]; exact hq)]
        simp
      | false =>
        rw [hq] at hcall
        go_wp2_with (go_at_fn g; refine hcall.mono ?_; rintro e w' ⟨rfl, hb'⟩)
        have hb2 := BW.out.trans (hb'.mono BW.out.size)
        go_roundg (n - (kk + 1))
        case measure => omega
        case rel =>
          refine ⟨kk + 1, by omega, by omega, by go_num, Aside0.mk hb2, Aside0.mk (fun j hj => ?_)⟩
          by_cases e : j = kk
          · subst e
            rw [← HZ.out]; exact hq
          · exact HA.out j (by omega)
    · have hltz : ¬ (kk : Int) < (n : Int) := by omega
      have : kk = n := by omega
      subst this
      go_wp2
      go_ret
      refine ⟨?_, BW.out⟩
      rw [idxP_miss p l 0 (fun j hj => HA.out j (by have := HN.out; omega))]
      rfl

theorem idxP_range (p : V30 → Bool) : ∀ (l : List V30) (i : Int), idxP p l i = -1 ∨ (i ≤ idxP p l i ∧ idxP p l i < i + l.length)
  | [], _ => .inl rfl
  | x :: r, i => by
    simp only [idxP]
    split
    · exact .inr ⟨Int.le_refl _, by simp; omega⟩
    · rcases idxP_range p r (i + 1) with h | h
      · exact .inl h
      · exact .inr ⟨by omega, by simp; omega⟩

/-- The first version of which p holds; a blank one: none. -/
def firstP (p : V30 → Bool) (l : List V30) : V30 × Bool := if 0 ≤ idxP p l 0 then (rd_T30 l (idxP p l 0), true) else (z30, false)

set_option maxHeartbeats 1000000 in
theorem first_any (g : Nat) (lb : Array Value) (eg : ∀ args w, (callFunc g args).run Try.prog w = .ok (.enter g args) w) (p : V30 → Bool) (A : Option Addr) (c : Nat) (l : List V30) (w : World)
    (hr : Kd.C k30 w A l.length l) (hc : l.length ≤ c) (hbig : l.length ≤ 1048576) (hp : PredV g lb p w) :
    Calls Try.prog 43 #[.slice A l.length c, .func (.func g) #[] lb] w fun e w' => e = .returned (.tuple #[.agg #[.int .i64 (firstP p l).1.f0, .int .u32 (firstP p l).1.f1, .bool (firstP p l).1.f2], .bool (firstP p l).2]) ∧ Below w.heap.size w w' := by
  have hcall := fun (W : World) (hb : Below w.heap.size w W) => index_any g lb eg p A c l W (Kd.C_below hr hb) hc hbig (hp.later hb)
  have hR := idxP_range p l 0
  unfold firstP
  have HR := Aside0.mk hr
  clear hr hp
  obtain ⟨i, hi⟩ : ∃ i, idxP p l 0 = i := ⟨_, rfl⟩
  rw [hi] at hcall hR ⊢
  clear hi
  by_cases h0 : 0 ≤ i
  · have h1 : i < l.length := by omega
    rw [if_pos h0]
    obtain ⟨y, hy⟩ : ∃ y, rd_T30 l i = y := ⟨_, rfl⟩
    rw [hy]
    have HY := Aside0.mk hy
    clear hy
    go_enter Try.func43, Try.ntmps43
    go_wp2_with fail
    refine (hcall _ ((Below.refl _ _).alloc (Nat.le_refl _) _)).mono ?_
    rintro e w1 ⟨rfl, hb⟩
    have hb0 := ((Below.refl _ w).alloc (Nat.le_refl _) (.cells #[.int .i64 0, .int .u32 0, .bool false] 30)).trans (hb.mono (by simp))
    obtain ⟨ad, rfl, c0, c1, c2⟩ := at_T30 (Kd.C_below HR.out hb0) i h0 h1
    rw [HY.out] at c0 c1 c2
    have hblk := blk_below (blk_new w (.cells #[.int .i64 0, .int .u32 0, .bool false] 30)) hb
    obtain ⟨z0, z1, z2⟩ : w1.cell? ⟨w.heap.size, 0, none⟩ = some (.int .i64 0) ∧ w1.cell? ⟨w.heap.size, 1, none⟩ = some (.int .u32 0) ∧ w1.cell? ⟨w.heap.size, 2, none⟩ = some (.bool false) := ⟨blk_cell hblk 0, blk_cell hblk 1, blk_cell hblk 2⟩
    have f0 := blk_frozen hblk 0
    have f1 := blk_frozen hblk 1
    have f2 := blk_frozen hblk 2
    have HBLK := Aside0.mk hblk
    have HB0 := Aside0.mk hb0
    clear hb hb0 hblk hcall
    go_wp2
    refine bodyPost_ret (v := .tuple #[.agg #[.int .i64 y.f0, .int .u32 y.f1, .bool y.f2], .bool true]) ?_ rfl ?_
    · simp [results, Try.results43, go_sem, z0, z1, z2]
    · exact ⟨rfl, below_set (below_set (below_set HB0.out (Nat.le_refl _)) (Nat.le_refl _)) (Nat.le_refl _)⟩
  · rw [if_neg h0]
    go_enter Try.func43, Try.ntmps43
    go_wp2_with fail
    refine (hcall _ ((Below.refl _ _).alloc (Nat.le_refl _) _)).mono ?_
    rintro e w1 ⟨rfl, hb⟩
    have hb0 := ((Below.refl _ w).alloc (Nat.le_refl _) (.cells #[.int .i64 0, .int .u32 0, .bool false] 30)).trans (hb.mono (by simp))
    have hblk := blk_below (blk_new w (.cells #[.int .i64 0, .int .u32 0, .bool false] 30)) hb
    obtain ⟨z0, z1, z2⟩ : w1.cell? ⟨w.heap.size, 0, none⟩ = some (.int .i64 0) ∧ w1.cell? ⟨w.heap.size, 1, none⟩ = some (.int .u32 0) ∧ w1.cell? ⟨w.heap.size, 2, none⟩ = some (.bool false) := ⟨blk_cell hblk 0, blk_cell hblk 1, blk_cell hblk 2⟩
    have f0 := blk_frozen hblk 0
    have f1 := blk_frozen hblk 1
    have f2 := blk_frozen hblk 2
    have HB0 := Aside0.mk hb0
    clear hb hb0 hblk hcall
    go_wp2
    refine bodyPost_ret (v := .tuple #[.agg #[.int .i64 0, .int .u32 0, .bool false], .bool false]) ?_ rfl ?_
    · simp [results, Try.results43, go_sem, z0, z1, z2]
    · exact ⟨rfl, below_set (below_set (below_set HB0.out (Nat.le_refl _)) (Nat.le_refl _)) (Nat.le_refl _)⟩
end Go.Proofs.Ytkcjekboakoejaa.Print
