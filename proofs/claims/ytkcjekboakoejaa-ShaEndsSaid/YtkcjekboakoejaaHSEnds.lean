/- The law ShaEnds, walked by hand: digests of texts of n bytes c. -/
import Derived.Test.YtkcjekboakoejaaHS3R
import Derived.Test.YtkcjekboakoejaaHAlive03
namespace Go.Proofs.Ytkcjekboakoejaa.Print
open Go Go.RowKit Go.Proofs.YtkcjekboakoejaaW.PrintWords
set_option linter.unusedVariables false
set_option linter.unusedSimpArgs false
def codicillaw03_ShaEnds.f (a0 : Int) (a1 : Int) : Option (Bool) := if 0 ≤ a0 ∧ a0 ≤ 255 ∧ 0 ≤ a1 ∧ a1 ≤ 255 then some true else none
/-- The first k bytes are c. -/
def filled (c : UInt8) (n k : Nat) : List UInt8 := List.replicate k c ++ List.replicate (n - k) 0
theorem filled_len (c : UInt8) {n k : Nat} (h : k ≤ n) : (filled c n k).length = n := by simp [filled]; omega
theorem filled_set (c : UInt8) {n k : Nat} (h : k < n) : (filled c n k).set k c = filled c n (k + 1) := by
  unfold filled
  obtain ⟨r, hr⟩ : ∃ r, n - k = r + 1 := ⟨n - k - 1, by omega⟩
  have hr2 : n - (k + 1) = r := by omega
  rw [hr, hr2, List.set_append_right _ _ (by simp), List.replicate_succ, List.length_replicate, Nat.sub_self, List.replicate_succ', List.append_assoc]
  rfl
set_option maxRecDepth 100000 in
set_option maxHeartbeats 4000000 in
theorem ends_any (c : UInt8) (n : Nat) (hn : n ≤ 255) (w : World) : Calls Try.prog 7 #[.int .u8 c.toNat, .int .u8 n] w fun e w' => e = .returned (.bool true) ∧ Below w.heap.size w w' := by
  obtain ⟨i0, hi, hz0, hz1, hz2⟩ := info_parts bld_info
  obtain ⟨W1, hmk, hown0, hg0⟩ := run_make_full (P := Try.prog) (w := w) w.heap.size 59 5 i0 (.int .u8 0) 1 Try.underlying59 hi hz0 hz1 .u8 .u8 n (by rw [hz2]; omega) (by unfold maxLen; omega) (Nat.le_refl _)
  obtain ⟨g, hg⟩ : ∃ g, g = w.heap.size := ⟨_, rfl⟩
  have hzz : (madeCells (Value.int .u8 0).cells (n * 1)).toList = encU (filled c n 0) := by
    rw [Nat.mul_one]
    unfold filled encU madeCells
    apply List.ext_getElem?
    intro j
    simp
    by_cases hj : j < n
    · simp [hj, Value.cells, Array.getElem?_range, Nat.mod_one]
    · simp [hj]
  rw [hzz] at hown0
  have HB0 := Aside0.mk (show Below w.heap.size w W1 from ⟨hg0.os, hg0.tape, hg0.output, hg0.size, fun k hk => hg0.block k hk (by simp)⟩)
  have HO := Aside0.mk hown0
  clear hown0 hg0 hzz hi hz0 hz1 hz2
  rw [← hg] at hmk
  have HG := Aside0.mk hg
  clear hg
  go_enter Try.func7, Try.ntmps7
  go_wp2
  clear hmk
  go_loopw [6] (fun i W => ∃ k : Nat, k ≤ n ∧ i = .int .i64 k ∧ Aside0 (W.ownsRow w.heap.size 5 1 (.slice (some ⟨g, 0, none⟩) n n) n (encU (filled c n k)) ∧ Below w.heap.size w W)) (fun i _ => n - (intOf i).toNat)
  case atStart => exact ⟨0, Nat.zero_le _, rfl, Aside0.mk ⟨by rw [HG.out]; exact HO.out, HB0.out⟩⟩
  case round =>
    obtain ⟨k, hk, rfl, HR⟩ := hrel
    by_cases hkn : k < n
    · have hown := HR.out.1
      have hc0 := hown.cellAt k (by omega)
      have hf0 := hown.frozenAt k
      have hst := filled_set c hkn
      have hlen := filled_len c hk
      have hc1 : wr.cell? ⟨g, k, none⟩ = some (.int .u8 (((filled c n k).getD k 0).toNat : Int)) := by
        rw [hc0]; unfold encU; rw [List.getElem?_map, List.getElem?_eq_getElem (by omega)]; simp [List.getD, List.getElem?_eq_getElem (show k < (filled c n k).length by omega)]
      have HST := Aside0.mk (show (encU (filled c n k)).set k (.int .u8 (c.toNat : Int)) = encU (filled c n (k + 1)) by unfold encU; rw [← hst, List.map_set])
      have HW := Lib.hid (fun u => hown.stored k u)
      clear hc0 hst hlen hown
      generalize (filled c n k).getD k 0 = y at *
      have hkb : (k : Int) < 255 := by omega
      go_wp2
      go_roundw
      case rel =>
        have h1 := (HW.out (.int .u8 (c.toNat : Int))).1
        rw [HST.out] at h1
        exact ⟨k + 1, by omega, by go_num, Aside0.mk ⟨h1, HR.out.2.setCell (p := ⟨g, k, none⟩) (by rw [HG.out]; exact Nat.le_refl _) _⟩⟩
      case measure => simp [intOf]; omega
    · obtain rfl : k = n := by omega
      have hl : filled c k k = List.replicate k c := by simp [filled]
      rw [hl] at HR
      obtain ⟨l, hlr⟩ : ∃ l, l = List.replicate k c := ⟨_, rfl⟩
      have hlen : l.length = k := by rw [hlr]; simp
      rw [← hlr] at HR
      clear hl hlr hkn hk
      have hcv : ∀ W : World, W.ownsRow w.heap.size 5 1 (.slice (some ⟨g, 0, none⟩) k k) k (encU l) → (convert 59 9 (.slice (some ⟨g, 0, none⟩) k k)).run Try.prog W = .ok (.string ⟨l.toArray⟩) W := by
        intro W hW
        have := run_convert_bytes_back (P := Try.prog) W 59 9 5 ⟨g, 0, none⟩ k l Try.underlying59 Try.underlying5 Try.underlying9 (fun j hj => hW.cells (g := g) rfl j (.int .u8 (l[j].toNat : Int)) (by unfold encU; simp [hj]))
        rw [hlen] at this
        exact this
      have hsz : (⟨l.toArray⟩ : ByteArray).size ≤ 8192 := by
        show l.toArray.size ≤ _
        rw [List.size_toArray, hlen]; omega
      have HCV := Lib.hid hcv
      clear hcv
      generalize (⟨l.toArray⟩ : ByteArray) = s at *
      have hs1 : ∀ W, W.ownsRow w.heap.size 5 1 (.slice (some ⟨g, 0, none⟩) k k) k (encU l) → Below w.heap.size w W → Calls Try.prog 34 #[.string s] W fun e w' => e = .returned (.string (sumN s)) ∧ Aside0 (w'.ownsRow w.heap.size 5 1 (.slice (some ⟨g, 0, none⟩) k k) k (encU l) ∧ Below w.heap.size w w') := fun W h1 h2 =>
        (sum_any s (by omega) W).mono fun e w' ⟨he, hb⟩ => ⟨he, Aside0.mk ⟨h1.kept (row := none) ⟨hb.os, hb.tape, hb.output, hb.size, fun k hk _ => hb.block k hk⟩ (by right; simp [Value.ownBlock]), h2.trans (hb.mono h2.size)⟩⟩
      have hs2 : ∀ W, W.ownsRow w.heap.size 5 1 (.slice (some ⟨g, 0, none⟩) k k) k (encU l) → Below w.heap.size w W → Calls Try.prog 35 #[.string s] W fun e w' => e = .returned (.string (sumN s)) ∧ Aside0 (w'.ownsRow w.heap.size 5 1 (.slice (some ⟨g, 0, none⟩) k k) k (encU l) ∧ Below w.heap.size w w') := fun W h1 h2 =>
        (rsum_any 400 nums3 nums2 s hsz W).mono fun e w' ⟨he, hb⟩ => ⟨he, Aside0.mk ⟨h1.kept (row := none) ⟨hb.os, hb.tape, hb.output, hb.size, fun k hk _ => hb.block k hk⟩ (by right; simp [Value.ownBlock]), h2.trans (hb.mono h2.size)⟩⟩
      have hal : ∀ W, Below w.heap.size w W → Calls Try.prog 33 #[] W fun e w' => e = .returned (.bool true) ∧ Below w.heap.size w w' := fun W h =>
        (codicillaw03_alive.calls true W alive03_at).mono fun e w' ⟨he, hb⟩ => ⟨he, h.trans (hb.mono h.size)⟩
      have H1 := Lib.hid hs1
      have H2 := Lib.hid hs2
      have H3 := Lib.hid hal
      have hc0 := HCV.out wr HR.out.1
      have hc1 := HCV.out wr.drew HR.out.1.drew
      clear hs1 hs2 hal hsz
      generalize sumN s = q at *
      go_wp2
      go_region_with (first | (go_at_call 34; refine (H1.out _ (by first | exact HR.out.1 | exact HR.out.1.drew | exact HR1.out.1 | exact HR1.out.1.drew) (by first | exact HR.out.2 | exact HR.out.2.drew | exact HR1.out.2 | exact HR1.out.2.drew)).mono ?_; rintro e w1 ⟨rfl, HR1⟩; have hc2 := HCV.out w1 HR1.out.1) | (go_at_call 35; refine (H2.out _ (by first | exact HR1.out.1 | exact HR1.out.1.drew | exact HR.out.1 | exact HR.out.1.drew) (by first | exact HR1.out.2 | exact HR1.out.2.drew | exact HR.out.2 | exact HR.out.2.drew)).mono ?_; rintro e w2 ⟨rfl, HR1⟩; have hc3 := HCV.out w2 HR1.out.1) | (go_at_call 33; refine (H3.out _ (by first | exact HR1.out.2 | exact HR1.out.2.drew)).mono ?_; rintro e w3 ⟨rfl, hb3⟩))
      all_goals
        go_wp2
        go_ret
        exact ⟨rfl, by first | exact hb3 | exact hb3.drew | exact hb3.drew.drew⟩
theorem codicillaw03_ShaEnds.calls (a0 : Int) (a1 : Int) (r : Bool) (w : World) (h : codicillaw03_ShaEnds.f a0 a1 = some r) :
    Calls Try.prog 7 #[.int .u8 a0, .int .u8 a1] w fun e w' => e = .returned (.bool r) ∧ Below w.heap.size w w' := by
  unfold codicillaw03_ShaEnds.f at h
  split at h
  · rename_i hs
    obtain ⟨h0, h1, h2, h3⟩ := hs
    obtain rfl := Option.some.inj h
    obtain ⟨n, rfl⟩ : ∃ n : Nat, a1 = n := ⟨a1.toNat, by omega⟩
    have := ends_any (UInt8.ofNat a0.toNat) n (by omega) w
    have e : (((UInt8.ofNat a0.toNat).toNat : Nat) : Int) = a0 := by simp; omega
    rw [e] at this
    exact this
  · cases h
end Go.Proofs.Ytkcjekboakoejaa.Print
