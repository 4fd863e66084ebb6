/- Contracts of slices.IndexFunc and slices.ContainsFunc over nodes: the place of the first node of which a predicate holds. -/
import Derived.Test.YtddjhmelniphgaaGMap
import Derived.Shelf.Abstract
namespace Go.Proofs.Ytddjhmelniphgaa.Print
open Go.RowKit Go.Shelf Go.Proofs.YtddjhmelniphgaaW.PrintWords Go.Proofs.YtddjhmelniphgaaW.PrintLast
set_option linter.unusedVariables false
set_option linter.unusedSimpArgs false


/-- What a function value is asked: at each version, in each later world, it answers p. -/
def PredN (g : Nat) (lb : Array Value) (p : Nd → Bool) (w : World) : Prop :=
  ∀ (W : World) (x : Nd), okN x → Below w.heap.size w W → Calls Try.prog g (#[.agg #[.string x.f0, .int .i64 x.f1]] ++ lb) W fun e w' => e = .returned (.bool (p x)) ∧ Below W.heap.size W w'

theorem PredN.later {g : Nat} {lb : Array Value} {p : Nd → Bool} {w w1 : World} (h : PredN g lb p w) (hb : Below w.heap.size w w1) : PredN g lb p w1 := fun W x hx hb1 => h W x hx (hb.trans (hb1.mono hb.size))

/-- The place of the first one; -1: none. -/
def idxP (p : Nd → Bool) : List Nd → Int → Int
  | [], _ => -1
  | x :: r, i => if p x = true then i else idxP p r (i + 1)

theorem idxP_hit (p : Nd → Bool) : ∀ (l : List Nd) (k : Nat) (i : Int) (hk : k < l.length), (∀ j, j < k → p (l.getD j z24) = false) → p (l.getD k z24) = true → idxP p l i = i + k
  | x :: r, 0, i, _, _, h => by simp only [idxP]; rw [if_pos (by simpa using h)]; simp
  | x :: r, k + 1, i, hk, ha, h => by
    simp only [idxP]
    rw [if_neg (by have := ha 0 (by omega); simp at this; simp [this])]
    rw [idxP_hit p r k (i + 1) (by simpa using hk) (fun j hj => by have := ha (j + 1) (by omega); simpa using this) (by simpa using h)]
    omega
theorem idxP_miss (p : Nd → Bool) : ∀ (l : List Nd) (i : Int), (∀ j, j < l.length → p (l.getD j z24) = false) → idxP p l i = -1
  | [], _, _ => rfl
  | x :: r, i, ha => by
    simp only [idxP]
    rw [if_neg (by have := ha 0 (by simp); simp at this; simp [this])]
    exact idxP_miss p r (i + 1) (fun j hj => by have := ha (j + 1) (by simpa using hj); simpa using this)

set_option maxHeartbeats 1000000 in
theorem index_any (g : Nat) (lb : Array Value) (eg : ∀ args w, (callFunc g args).run Try.prog w = .ok (.enter g args) w) (p : Nd → Bool) (A : Option Addr) (c : Nat) (l : List Nd) (w : World)
    (hr : Kd.C k24 w A l.length l) (hc : l.length ≤ c) (hbig : l.length ≤ 1048576) (hok : ∀ x ∈ l, okN x) (hp : PredN g lb p w) :
    Calls Try.prog 48 #[.slice A l.length c, .func (.func g) #[] lb] w fun e w' => e = .returned (.int .i64 (idxP p l 0)) ∧ Below w.heap.size w w' := by
  have HR := Aside0.mk hr
  have HP := Aside0.mk hp
  have HOK := Aside0.mk hok
  clear hr hp hok
  obtain ⟨n, hn⟩ : ∃ n, n = l.length := ⟨_, rfl⟩
  have HN := Aside0.mk hn
  rw [← hn] at hc hbig ⊢
  clear hn
  go_enter Try.func48, Try.ntmps48
  go_wp2
  go_loopg [5, 8] n (fun gg _ s8 wr => ∃ kk : Nat, kk ≤ n ∧ n - kk ≤ gg ∧ s8 = .int .i64 kk ∧ Aside0 (Below w.heap.size w wr) ∧ Aside0 (∀ j, j < kk → p (l.getD j z24) = false))
  case atStart => exact ⟨0, Nat.zero_le _, by omega, rfl, Aside0.mk (Below.refl _ w), Aside0.mk (fun j hj => absurd hj (Nat.not_lt_zero _))⟩
  case round =>
    obtain ⟨kk, hkk, hg, rfl, BW, HA⟩ := hrel
    by_cases hlt : kk < n
    · have hltz : (kk : Int) < (n : Int) := by omega
      obtain ⟨ad, rfl, h0, h1⟩ := at_T24 (Kd.C_below HR.out BW.out) (kk : Int) (by omega) (by have := HN.out; omega)
      have hcall := HP.out wr (rd_T24 l kk) (HOK.out _ (by have := HN.out; simp only [rd_T24, Int.toNat_natCast]; rw [List.getD_eq_getElem?_getD, List.getElem?_eq_getElem (by omega)]; exact List.getElem_mem _)) BW.out
      have hz : rd_T24 l kk = l.getD kk z24 := by simp [rd_T24]
      have HZ := Aside0.mk hz
      clear hz
      generalize rd_T24 l kk = y at hcall h0 h1 HZ
      simp only [Int.toNat_natCast] at h0 h1
      cases hq : p y with
      | true =>
        rw [hq] at hcall
        go_wp2_with (go_at_fn g; refine hcall.mono ?_; rintro e w' ⟨rfl, hb'⟩)
        go_ret
        have hb' := BW.out.trans (hb'.mono BW.out.size)
        refine ⟨?_, hb'⟩
        rw [idxP_hit p l kk 0 (by have := HN.out; omega) HA.out (by rw [← HZ.out]; exact hq)]
        simp
      | false =>
        rw [hq] at hcall
        go_wp2_with (go_at_fn g; refine hcall.mono ?_; rintro e w' ⟨rfl, hb'⟩)
        have hb2 := BW.out.trans (hb'.mono BW.out.size)
        go_roundg (n - (kk + 1))
        case measure => omega
        case rel =>
          refine ⟨kk + 1, by omega, by omega, by go_num, Aside0.mk hb2, Aside0.mk (fun j hj => ?_)⟩
          by_cases e : j = kk
          · subst e
            rw [← HZ.out]; exact hq
          · exact HA.out j (by omega)
    · have hltz : ¬ (kk : Int) < (n : Int) := by omega
      have : kk = n := by omega
      subst this
      go_wp2
      go_ret
      refine ⟨?_, BW.out⟩
      rw [idxP_miss p l 0 (fun j hj => HA.out j (by have := HN.out; omega))]
      rfl

/-- Has the list one? -/
def anyP (p : Nd → Bool) (l : List Nd) : Bool := l.any p
theorem idxP_any0 (p : Nd → Bool) : ∀ (l : List Nd) (i : Int), 0 ≤ i → (0 ≤ idxP p l i ↔ l.any p = true)
  | [], i, h => by simp [idxP]
  | x :: r, i, h => by
    have e : idxP p (x :: r) i = if p x = true then i else idxP p r (i + 1) := rfl
    rw [e, List.any_cons]
    by_cases hx : p x = true
    · rw [if_pos hx, hx]; simp [h]
    · rw [if_neg hx, Bool.eq_false_iff.2 hx, Bool.false_or]; exact idxP_any0 p r (i + 1) (by omega)
theorem idxP_any (p : Nd → Bool) (l : List Nd) : decide (0 ≤ idxP p l 0) = l.any p := by
  rw [Bool.eq_iff_iff, decide_eq_true_iff]; exact idxP_any0 p l 0 (by omega)

set_option maxHeartbeats 1000000 in
theorem contains_any (g : Nat) (lb : Array Value) (eg : ∀ args w, (callFunc g args).run Try.prog w = .ok (.enter g args) w) (p : Nd → Bool) (A : Option Addr) (c : Nat) (l : List Nd) (w : World)
    (hr : Kd.C k24 w A l.length l) (hc : l.length ≤ c) (hbig : l.length ≤ 1048576) (hok : ∀ x ∈ l, okN x) (hp : PredN g lb p w) :
    Calls Try.prog 33 #[.slice A l.length c, .func (.func g) #[] lb] w fun e w' => e = .returned (.bool (anyP p l)) ∧ Below w.heap.size w w' := by
  have hcall := index_any g lb eg p A c l w hr hc hbig hok hp
  have e1 : anyP p l = decide (0 ≤ idxP p l 0) := (idxP_any p l).symm
  rw [e1]
  clear hr hok hp e1
  generalize idxP p l 0 = i at hcall ⊢
  go_enter Try.func33, Try.ntmps33
  go_wp2_with (go_at_call 48; refine hcall.mono ?_; rintro e w' ⟨rfl, hb'⟩)
  go_ret
  exact ⟨rfl, hb'⟩
end Go.Proofs.Ytddjhmelniphgaa.Print
