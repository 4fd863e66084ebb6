/- Contract of the reference's power. -/
import Derived.Test.YtkcjekboakoejaaHSTimes
import Derived.Test.YtkcjekboakoejaaHSBlk
namespace Go.Proofs.Ytkcjekboakoejaa.Print
open Go Go.RowKit Go.Proofs.YtkcjekboakoejaaW.PrintWords
set_option linter.unusedVariables false
set_option linter.unusedSimpArgs false

abbrev N3 := Int × Int × Int
def v3 (p : N3) : Array Value := #[.int .u64 p.1, .int .u64 p.2.1, .int .u64 p.2.2]
def tms (p : N3) (b : Int) : N3 := (T0 p.1 b, T1 p.1 p.2.1 b, T2 p.1 p.2.1 p.2.2 b)
def adds (p q : N3) : N3 := (A0 p.1 q.1, A1 p.1 q.1 p.2.1 q.2.1, A2 p.1 q.1 p.2.1 q.2.1 p.2.2 q.2.2)
def shl32 (q : N3) : N3 := (IntKind.u64.wrap (q.1 * 4294967296), bits .or .u64 (IntKind.u64.wrap (q.2.1 * 4294967296)) (q.1 / 4294967296), bits .or .u64 (IntKind.u64.wrap (q.2.2 * 4294967296)) (q.2.1 / 4294967296))
/-- Once more times x. -/
def pStep (x : Int) (p : N3) : N3 := adds (tms p (bits .and .u64 x 4294967295)) (shl32 (tms p (x / 4294967296)))
def powI (x : Int) : Nat → N3
  | 0 => (x, 0, 0)
  | k + 1 => pStep x (powI x k)
theorem tms_any (p : N3) (b : Int) (w : World) : Calls Try.prog 87 #[.agg (v3 p), .int .u64 b] w fun e w' => e = .returned (.agg (v3 (tms p b))) ∧ Below w.heap.size w w' := times_any _ _ _ _ w
theorem adds_any (p q : N3) (w : World) : Calls Try.prog 88 #[.agg (v3 p), .agg (v3 q)] w fun e w' => e = .returned (.agg (v3 (adds p q))) ∧ Below w.heap.size w w' := add3_any _ _ _ _ _ _ w
theorem set3 {W : World} {V : Nat} {T : TypeId} {c0 c1 c2 : Value} (h : Has W V #[c0, c1, c2] T) (v0 v1 v2 : Value) : Has (((W.setCell ⟨V, 0, none⟩ v0).setCell ⟨V, 1, none⟩ v1).setCell ⟨V, 2, none⟩ v2) V #[v0, v1, v2] T := by
  have := ((h.set (i := 0) v0).set (i := 1) v1).set (i := 2) v2
  simpa using this
theorem other3 {W : World} {B V : Nat} {T : TypeId} {c : Array Value} (h : Has W B c T) (hn : B ≠ V) (v0 v1 v2 : Value) : Has (((W.setCell ⟨V, 0, none⟩ v0).setCell ⟨V, 1, none⟩ v1).setCell ⟨V, 2, none⟩ v2) B c T :=
  ((h.other hn v0).other hn v1).other hn v2
theorem below3 {w W : World} {n V : Nat} (h : Below n w W) (hn : n ≤ V) (v0 v1 v2 : Value) : Below n w (((W.setCell ⟨V, 0, none⟩ v0).setCell ⟨V, 1, none⟩ v1).setCell ⟨V, 2, none⟩ v2) :=
  ((h.setCell (p := ⟨V, 0, none⟩) hn v0).setCell (p := ⟨V, 1, none⟩) hn v1).setCell (p := ⟨V, 2, none⟩) hn v2
/-- power's world: the result's box, the product's box. -/
def PowW (w : World) (R P : Nat) (p : N3) (W : World) : Prop := Has W R #[.int .u64 0, .int .u64 0, .int .u64 0] 116 ∧ Has W P (v3 p) 116 ∧ Below w.heap.size w W ∧ w.heap.size ≤ R ∧ w.heap.size ≤ P ∧ R ≠ P
theorem Has.lt {w : World} {B : Nat} {c : Array Value} {t : TypeId} (h : Has w B c t) : B < w.heap.size := (Array.getElem?_eq_some_iff.1 h).1
theorem PowW.later {w W W' : World} {R P : Nat} {p : N3} (h : PowW w R P p W) (hb : Below W.heap.size W W') : PowW w R P p W' :=
  ⟨(hb.block R h.1.lt).trans h.1, (hb.block P h.2.1.lt).trans h.2.1, h.2.2.1.trans (hb.mono h.2.2.1.size), h.2.2.2⟩
theorem PowW.more {w W : World} {R P : Nat} {p : N3} (h : PowW w R P p W) (o : Obj) : PowW w R P p (W.alloc o) :=
  h.later ((Below.refl _ W).alloc (Nat.le_refl _) o)
set_option maxRecDepth 1000000 in
set_option maxHeartbeats 4000000 in
theorem power_any (x : Int) (n : Nat) (hn1 : 1 ≤ n) (hn : n ≤ 100) (w : World) : Calls Try.prog 83 #[.int .u64 x, .int .i64 n] w fun e w' => e = .returned (.agg (v3 (powI x (n - 1)))) ∧ Below w.heap.size w w' := by
  have hs0 : PowW w w.heap.size (w.heap.size + 1) (powI x 0) ((w.alloc (.cells #[.int .u64 0, .int .u64 0, .int .u64 0] 116)).alloc (.cells #[.int .u64 x, .int .u64 0, .int .u64 0] 116)) :=
    ⟨heap_alloc2_old w _ _, heap_alloc2_new w _ _, ((Below.refl _ w).alloc (Nat.le_refl _) _).alloc (by simp) _, Nat.le_refl _, by omega, by omega⟩
  have HS0 := Aside0.mk hs0
  clear hs0
  obtain ⟨P, hP⟩ : ∃ P, P = w.heap.size + 1 := ⟨_, rfl⟩
  obtain ⟨F, hF⟩ : ∃ F, F = powI x (n - 1) := ⟨_, rfl⟩
  rw [← hF]
  have HF := Aside0.mk hF
  clear hF
  go_enter Try.func83, Try.ntmps83
  go_wp2
  rw [← hP] at HS0 ⊢
  clear hP
  go_loopw [6] (fun i W => ∃ k : Nat, k + 1 ≤ n ∧ i = .int .i64 ((k : Int) + 1) ∧ Aside0 (PowW w w.heap.size P (powI x k) W)) (fun i _ => n - (intOf i).toNat)
  case atStart => exact ⟨0, by omega, rfl, HS0⟩
  case round =>
    obtain ⟨k, hk, rfl, HR⟩ := hrel
    by_cases hkn : k + 1 < n
    · have hst : powI x (k + 1) = pStep x (powI x k) := rfl
      have HST := Aside0.mk hst
      generalize powI x k = p at *
      clear hst
      obtain ⟨p0, p1, p2⟩ := p
      have ht1 := tms_any (p0, p1, p2) (bits .and .u64 x 4294967295)
      have ht2 := tms_any (p0, p1, p2) (x / 4294967296)
      obtain ⟨q, hq⟩ : ∃ q, q = tms (p0, p1, p2) (bits .and .u64 x 4294967295) := ⟨_, rfl⟩
      obtain ⟨r, hr⟩ : ∃ r, r = tms (p0, p1, p2) (x / 4294967296) := ⟨_, rfl⟩
      rw [← hq] at ht1
      rw [← hr] at ht2
      have HQ := Aside0.mk hq
      have HRR := Aside0.mk hr
      clear hq hr
      obtain ⟨q0, q1, q2⟩ := q
      obtain ⟨r0, r1, r2⟩ := r
      have ha := adds_any (q0, q1, q2) (shl32 (r0, r1, r2))
      obtain ⟨z, hz⟩ : ∃ z, z = adds (q0, q1, q2) (shl32 (r0, r1, r2)) := ⟨_, rfl⟩
      rw [← hz] at ha
      have HZ := Aside0.mk hz
      clear hz
      obtain ⟨z0, z1, z2⟩ := z
      simp only [v3, shl32] at ht1 ht2 ha
      have hb := HR.out.2.1
      unfold v3 at hb
      obtain ⟨c0, c1, c2⟩ := qc3 hb
      clear hb
      go_wp2_with (fail)
      refine (ht1 _).mono ?_
      rintro e w1 ⟨rfl, hb1⟩
      clear ht1 c0 c1 c2
      have HR1 := Aside0.mk (HR.out.later hb1)
      clear hb1 HR
      have hb := HR1.out.2.1
      have hl1 := hb.lt
      unfold v3 at hb
      obtain ⟨c0, c1, c2⟩ := qc3 hb
      have hn1 : P ≠ w1.heap.size := by omega
      clear hb
      go_wp2_with (fail)
      refine (ht2 _).mono ?_
      rintro e w2 ⟨rfl, hb2⟩
      have HR2 := Aside0.mk ((HR1.out.more _).later hb2)
      have h7 : Has w2 w1.heap.size #[.int .u64 q0, .int .u64 q1, .int .u64 q2] 116 := (hb2.block _ (by simp)).trans (heap_alloc_new w1 _)
      clear ht2 c0 c1 c2 hb2 hl1 hn1 HR1
      have hl7 := h7.lt
      have hn7 : w1.heap.size ≠ w2.heap.size := by omega
      obtain ⟨c0, c1, c2⟩ := qc3 h7
      clear h7
      go_wp2_with (fail)
      refine (ha _).mono ?_
      rintro e w3 ⟨rfl, hb3⟩
      have HR3 := Aside0.mk ((HR2.out.more _).later hb3)
      clear ha c0 c1 c2 hb3 hl7 hn7 HR2
      have hb := HR3.out.2.1
      unfold v3 at hb
      obtain ⟨c0, c1, c2⟩ := qc3 hb
      obtain ⟨f0, f1, f2⟩ := qf3 hb
      clear hb
      go_wp2
      go_roundw
      case rel =>
        refine ⟨k + 1, by omega, by go_num, Aside0.mk ⟨other3 HR3.out.1 HR3.out.2.2.2.2.2 _ _ _, ?_, below3 HR3.out.2.2.1 HR3.out.2.2.2.2.1 _ _ _, HR3.out.2.2.2⟩⟩
        rw [HST.out]
        unfold pStep
        rw [← HQ.out, ← HRR.out, ← HZ.out]
        exact set3 (c0 := .int .u64 p0) (c1 := .int .u64 p1) (c2 := .int .u64 p2) HR3.out.2.1 _ _ _
      case measure => simp [intOf]; omega
    · obtain rfl : k = n - 1 := by omega
      rw [← HF.out] at HR
      clear HF
      have hw := HR.out.2.1
      have hw0 := HR.out.1
      obtain ⟨F0, F1, F2⟩ := F
      unfold v3 at hw
      obtain ⟨c0, c1, c2⟩ := qc3 hw
      obtain ⟨d0, d1, d2⟩ := qc3 hw0
      obtain ⟨f0, f1, f2⟩ := qf3 hw0
      clear hw hw0
      have hi : ¬ ((n - 1 : Nat) : Int) + 1 < (n : Int) := by omega
      go_wp2
      refine bodyPost_ret (v := .agg (v3 (F0, F1, F2))) ?_ rfl ⟨rfl, below3 HR.out.2.2.1 (Nat.le_refl _) _ _ _⟩
      simp [results, Try.results83, go_sem, v3, c0, c1, c2, d0, d1, d2]
end Go.Proofs.Ytkcjekboakoejaa.Print
