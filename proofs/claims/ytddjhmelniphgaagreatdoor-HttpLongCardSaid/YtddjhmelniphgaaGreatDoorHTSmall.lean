/- Contract of the reference's small: a text in small letters. -/
import Derived.Test.YtddjhmelniphgaaGreatDoorPrint0
import Derived.Test.YtddjhmelniphgaaGreatDoorHSq
import Derived.WalkKit
import Derived.LoopTactic
import Derived.BigRegion
import Derived.Lib.ConvBytes
import Derived.Lib.AtoiErrMem
import Derived.Laws.IdiomStrings
namespace Go.Proofs.YtddjhmelniphgaaGreatDoor.Print
open Go Go.RowKit Go.Proofs.YtddjhmelniphgaaGreatDoorW.PrintWords Go.Proofs.YtddjhmelniphgaaGreatDoorW.PrintLast
set_option linter.unusedVariables false
set_option linter.unusedSimpArgs false

def lowB (c : UInt8) : UInt8 := if 65 ≤ c.toNat ∧ c.toNat ≤ 90 then UInt8.ofNat (c.toNat + 32) else c
def lowN (s : ByteArray) : ByteArray := ⟨(s.data.toList.map lowB).toArray⟩
/-- The first k bytes are small, the others as they were. -/
def lowK (l : List UInt8) (k : Nat) : List UInt8 := (l.take k).map lowB ++ l.drop k
theorem lowK_len (l : List UInt8) (k : Nat) : (lowK l k).length = l.length := by simp [lowK]; omega
theorem lowK_get {l : List UInt8} {k : Nat} (h : k < l.length) : (lowK l k).getD k 0 = l.getD k 0 := by
  unfold lowK
  rw [List.getD_eq_getElem?_getD, List.getD_eq_getElem?_getD, List.getElem?_append_right (by simp; omega), List.getElem?_drop]
  congr 2
  simp
  omega
theorem lowK_set {l : List UInt8} {k : Nat} (h : k < l.length) : (lowK l k).set k (lowB (l.getD k 0)) = lowK l (k + 1) := by
  have e : l.getD k 0 = l[k] := by simp [List.getD, h]
  unfold lowK
  have hlen : ((l.take k).map lowB).length = k := by simp; omega
  rw [List.set_append_right _ _ (by omega), hlen, Nat.sub_self, List.drop_eq_getElem_cons h, List.set_cons_zero, List.take_succ_eq_append_getElem h, List.map_append, e, List.append_assoc]
  rfl
theorem lowK_same {l : List UInt8} {k : Nat} (h : k < l.length) (hc : lowB (l.getD k 0) = l.getD k 0) : lowK l k = lowK l (k + 1) := by
  rw [← lowK_set h, hc, ← lowK_get h]
  apply List.ext_getElem?
  intro j
  by_cases hj : j = k
  · subst hj
    rw [List.getElem?_set_self (by rw [lowK_len]; exact h), List.getElem?_eq_getElem (by rw [lowK_len]; exact h)]
    simp [List.getD, List.getElem?_eq_getElem (show j < (lowK l j).length by rw [lowK_len]; exact h)]
  · rw [List.getElem?_set_ne (fun e => hj e.symm)]
/-- The row of bytes in block g. -/
def RowS (g n : Nat) (W : World) (l : List UInt8) : Prop := ∀ j, j < n → W.cell? ⟨g, j, none⟩ = some (.int .u8 (l.getD j 0).toNat) ∧ W.frozen? ⟨g, j, none⟩ = false
theorem RowS.set {g n : Nat} {W : World} {l : List UInt8} (h : RowS g n W l) (hl : n ≤ l.length) {k : Nat} (hk : k < n) (c : UInt8) : RowS g n (W.setCell ⟨g, k, none⟩ (.int .u8 c.toNat)) (l.set k c) := fun j hj => by
  obtain ⟨h1, h2⟩ := h j hj
  refine ⟨?_, by rw [World.frozen?_setCell]; exact h2⟩
  by_cases e : j = k
  · subst e
    rw [World.cell?_setCell_same' _ _ _ (by rw [h1]; rfl)]
    simp [List.getD, List.getElem?_set_self (show j < l.length by omega)]
  · rw [World.cell?_setCell_other _ _ _ _ (by intro e2; have := congrArg Addr.off e2; simp at this; omega), h1]
    simp [List.getD, List.getElem?_set_ne (fun e2 => e e2.symm)]
set_option maxRecDepth 100000 in
set_option maxHeartbeats 2000000 in
theorem small_any (s : ByteArray) (hs : s.size ≤ 1048576) (w : World) : Calls Tryz.prog 97 #[.string s] w fun e w' => e = .returned (.string (lowN s)) ∧ Below w.heap.size w w' := by
  have hcv := Lib.run_convert_string_bytes (P := Tryz.prog) w 9 57 5 s (u := .string) Tryz.underlying9 Tryz.underlying57 Tryz.underlying5
  obtain ⟨n, hn⟩ : ∃ n, n = s.size := ⟨_, rfl⟩
  have hll : s.data.toList.length = n := by rw [hn]; simp
  have hrow : RowS w.heap.size n (Lib.bytesWorld w 5 s) s.data.toList := fun j hj => by
    refine ⟨Lib.bytesWorld_cell w 5 s j (by omega), ?_⟩
    have hb := Lib.bytesWorld_at_new w 5 s
    have hge : s.size ≤ grownCap w s.size 0 5 := grownCap_ge _ _ _ _
    simp only [World.frozen?, hb]
    simp only [Bool.and_eq_false_iff, decide_eq_false_iff_not]
    left
    simp [Lib.bytesCells]
    omega
  obtain ⟨W2, hW2⟩ : ∃ W2, W2 = Lib.bytesWorld w 5 s := ⟨_, rfl⟩
  have HB0 := Aside0.mk (show Below w.heap.size w W2 by rw [hW2]; exact Lib.bytesWorld_below _ _ _)
  rw [← hW2] at hcv hrow
  generalize hcap : grownCap _ s.size 0 _ = cap at hcv
  clear hcap hW2
  have HR0 := Aside0.mk hrow
  have HLL := Aside0.mk hll
  obtain ⟨out, hout⟩ : ∃ out, out = lowN s := ⟨_, rfl⟩
  have HO := Aside0.mk hout
  rw [← hout]
  obtain ⟨l, hl⟩ : ∃ l, l = s.data.toList := ⟨_, rfl⟩
  rw [← hl] at HR0 HLL
  have HL := Aside0.mk hl
  obtain ⟨g, hg⟩ : ∃ g, g = w.heap.size := ⟨_, rfl⟩
  rw [← hg] at hcv HR0
  have HG := Aside0.mk hg
  rw [← hn] at hs hcv
  have HSZ := Aside0.mk hs
  clear hrow hll hout hl hg hn hs
  go_enter Tryz.func97, Tryz.ntmps97
  go_wp2
  clear hcv
  go_loopw [4] (fun i W => ∃ k : Nat, k ≤ n ∧ i = .int .i64 k ∧ Aside0 (RowS g n W (lowK l k) ∧ Below w.heap.size w W)) (fun i _ => n - (intOf i).toNat)
  case atStart => exact ⟨0, Nat.zero_le _, rfl, Aside0.mk ⟨HR0.out, HB0.out⟩⟩
  case round =>
    obtain ⟨k, hk, rfl, HR⟩ := hrel
    by_cases hkn : k < n
    · obtain ⟨c1, f1⟩ := HR.out.1 k hkn
      rw [lowK_get (by rw [HLL.out]; exact hkn)] at c1
      have HC := Aside0.mk (show lowB (l.getD k 0) = lowB (l.getD k 0) from rfl)
      have E1 := Aside0.mk (show wrap64 ((k : Int) + 1) = ((k + 1 : Nat) : Int) by have := HSZ.out; unfold wrap64; omega)
      have HS := Aside0.mk (lowK_set (l := l) (k := k) (by rw [HLL.out]; exact hkn))
      have HT := Aside0.mk (lowK_same (l := l) (k := k) (by rw [HLL.out]; exact hkn))
      have HRS := Aside0.mk (HR.out.1.set (by rw [lowK_len, HLL.out]; exact Nat.le_refl _) hkn (lowB (l.getD k 0)))
      generalize l.getD k 0 = c at *
      have HCL := Aside0.mk c.toNat_lt
      obtain ⟨m, hm⟩ : ∃ m, m = c.toNat := ⟨_, rfl⟩
      rw [← hm] at c1
      have HM := Aside0.mk hm
      clear hm HC
      have hm256 : m < 256 := by have := HCL.out; have := HM.out; omega
      by_cases h1 : 65 ≤ m
      · by_cases h2 : m ≤ 90
        · have EC := Aside0.mk (show ((m : Int) + 32) = ((lowB c).toNat : Int) by
            unfold lowB
            rw [if_pos ⟨by rw [← HM.out]; exact h1, by rw [← HM.out]; exact h2⟩, ← HM.out]
            simp
            omega)
          go_wp2
          go_roundw
          case rel => exact ⟨k + 1, hkn, by rw [E1.out], Aside0.mk ⟨by rw [← HS.out, EC.out]; exact HRS.out, HR.out.2.setCell (p := ⟨g, k, none⟩) (by rw [HG.out]; exact Nat.le_refl _) _⟩⟩
          case measure => rw [E1.out]; simp [intOf]; omega
        · have HT2 := Aside0.mk (HT.out (by unfold lowB; rw [if_neg (by rw [← HM.out]; omega)]))
          go_wp2
          go_roundw
          case rel => exact ⟨k + 1, hkn, by rw [E1.out], Aside0.mk ⟨by rw [← HT2.out]; exact HR.out.1, HR.out.2⟩⟩
          case measure => rw [E1.out]; simp [intOf]; omega
      · have HT2 := Aside0.mk (HT.out (by unfold lowB; rw [if_neg (by rw [← HM.out]; omega)]))
        go_wp2
        go_roundw
        case rel => exact ⟨k + 1, hkn, by rw [E1.out], Aside0.mk ⟨by rw [← HT2.out]; exact HR.out.1, HR.out.2⟩⟩
        case measure => rw [E1.out]; simp [intOf]; omega
    · obtain rfl : k = n := by omega
      have hback := run_convert_bytes_back (P := Tryz.prog) wr 57 9 5 ⟨g, 0, none⟩ cap (lowK l k) Tryz.underlying57 Tryz.underlying5 Tryz.underlying9 (fun j hj => by
        have := (HR.out.1 j (by rw [lowK_len, HLL.out] at hj; exact hj)).1
        rw [Addr.add_lit, Nat.zero_add, this]
        simp [List.getD, hj])
      rw [lowK_len, HLL.out] at hback
      have hfin : (⟨(lowK l k).toArray⟩ : ByteArray) = out := by
        rw [HO.out]
        unfold lowN lowK
        rw [← HL.out, List.take_of_length_le (by rw [HLL.out]; exact Nat.le_refl _), List.drop_eq_nil_of_le (by rw [HLL.out]; exact Nat.le_refl _), List.append_nil]
      rw [hfin] at hback
      go_wp2
      go_ret
      exact ⟨rfl, HR.out.2⟩
def codicilref29_small.f (a0 : ByteArray) : Option (ByteArray) := if a0.size ≤ 1048576 then some (lowN a0) else none
theorem codicilref29_small.calls (a0 : ByteArray) (r : ByteArray) (w : World) (h : codicilref29_small.f a0 = some r) :
    Calls Tryz.prog 97 #[.string a0] w fun e w' => e = .returned (.string r) ∧ Below w.heap.size w w' := by
  unfold codicilref29_small.f at h
  split at h
  · obtain rfl := Option.some.inj h
    exact small_any a0 (by assumption) w
  · cases h
end Go.Proofs.YtddjhmelniphgaaGreatDoor.Print
