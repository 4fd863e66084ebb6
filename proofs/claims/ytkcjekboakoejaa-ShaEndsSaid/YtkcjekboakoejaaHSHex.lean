/- Contract of sha.Hex. -/
import Derived.Test.YtkcjekboakoejaaHBld
import Derived.Lib.ConvBytes
import Derived.Lib.AtoiErrMem
import Derived.Laws.Strings3
import Derived.Laws.Shifts
import Derived.Laws.BitsLemmas
namespace Go.Proofs.Ytkcjekboakoejaa.Print
open Go Go.RowKit Go.Proofs.YtkcjekboakoejaaW.PrintWords
set_option linter.unusedVariables false
set_option linter.unusedSimpArgs false

/-- A digit of sixteen, of what it stands for. -/
def dig16 (n : Nat) : UInt8 := UInt8.ofNat (if n < 10 then 48 + n else 87 + n)
def hexL : List UInt8 → List UInt8
  | [] => []
  | c :: r => dig16 (c.toNat / 16) :: dig16 (c.toNat % 16) :: hexL r
theorem hexL_snoc (c : UInt8) : ∀ l, hexL (l ++ [c]) = hexL l ++ [dig16 (c.toNat / 16)] ++ [dig16 (c.toNat % 16)]
  | [] => rfl
  | x :: r => by simp [hexL, hexL_snoc c r]
theorem hexL_len : ∀ l, (hexL l).length = 2 * l.length
  | [] => rfl
  | x :: r => by simp only [hexL, List.length_cons, hexL_len r]; omega
theorem idx_dig (n : Nat) (hn : n < 16) (W : World) : (Instr.index 9 (.string ⟨#[48, 49, 50, 51, 52, 53, 54, 55, 56, 57, 97, 98, 99, 100, 101, 102]⟩) (.int .u8 (n : Int))).run Try.prog W = .ok (.int .u8 ((dig16 n).toNat : Int)) W := by
  rcases (by omega : n = 0 ∨ n = 1 ∨ n = 2 ∨ n = 3 ∨ n = 4 ∨ n = 5 ∨ n = 6 ∨ n = 7 ∨ n = 8 ∨ n = 9 ∨ n = 10 ∨ n = 11 ∨ n = 12 ∨ n = 13 ∨ n = 14 ∨ n = 15) with rfl | rfl | rfl | rfl | rfl | rfl | rfl | rfl | rfl | rfl | rfl | rfl | rfl | rfl | rfl | rfl <;>
    (simp [Instr.index, asIntOf, run_underlying Try.underlying9, dig16, go_sem]; rfl)
theorem take_snoc' (l : List UInt8) (k : Nat) (h : k < l.length) : l.take (k + 1) = l.take k ++ [l.getD k 0] := by
  rw [List.take_succ_eq_append_getElem h]; simp [h]
set_option maxRecDepth 100000 in
set_option maxHeartbeats 2000000 in
theorem hex_any (s : ByteArray) (hs : s.size ≤ 34359738368) (w : World) : Calls Try.prog 38 #[.string s] w fun e w' => e = .returned (.string ⟨(hexL s.data.toList).toArray⟩) ∧ Below w.heap.size w w' := by
  obtain ⟨b, hb⟩ : ∃ b, b = w.heap.size := ⟨_, rfl⟩
  obtain ⟨W1, hW1⟩ : ∃ W1, W1 = w.alloc (.cells #[.pointer none, .slice none 0 0] 88) := ⟨_, rfl⟩
  have hcv := Lib.run_convert_string_bytes (P := Try.prog) W1 9 59 5 s (u := .string) Try.underlying9 Try.underlying59 Try.underlying5
  obtain ⟨W2, hW2⟩ : ∃ W2, W2 = Lib.bytesWorld W1 5 s := ⟨_, rfl⟩
  rw [← hW2] at hcv
  have hz1 : W1.heap.size = b + 1 := by rw [hW1, hb]; simp
  have hbel1 : Below b w W1 := by rw [hW1, hb]; exact (Below.refl _ _).alloc (Nat.le_refl _) _
  have hbel2 : Below W1.heap.size W1 W2 := by rw [hW2]; exact Lib.bytesWorld_below _ _ _
  have hz2 : W2.heap.size = b + 2 := by rw [hW2]; simp [Lib.bytesWorld, World.freeze, hz1]
  have hbld : Bld (b + 2) b [] W2 := by
    refine Bld.later (W := W1) ?_ hbel2
    rw [hW1, hb]
    exact bld_new w _
  have hB : ∀ j, j < s.size → W2.cell? ⟨b + 1, j, none⟩ = some (.int .u8 (s.data.toList.getD j 0).toNat) := fun j hj => by
    rw [hW2, ← hz1]; exact Lib.bytesWorld_cell W1 5 s j hj
  have HB := Aside0.mk (show (∀ j, j < s.size → W2.cell? ⟨b + 1, j, none⟩ = some (.int .u8 (s.data.toList.getD j 0).toNat)) ∧ Below b w W2 ∧ b + 2 = W2.heap.size from ⟨hB, hbel1.trans (hbel2.mono (by omega)), hz2.symm⟩)
  clear hbel1 hbel2 hB hz2
  rw [hz1] at hcv
  clear hz1 hW2
  subst hb
  subst hW1
  have HBLD := Aside0.mk hbld
  clear hbld
  generalize hcap : grownCap _ s.size 0 _ = cap at hcv
  clear hcap
  have HS := Aside0.mk hs
  clear hs
  go_enter Try.func38, Try.ntmps38
  go_wp2
  go_loopw [9] (fun i W => ∃ k : Nat, k ≤ s.size ∧ i = .int .i64 k ∧ Aside0 (Bld (w.heap.size + 2) w.heap.size (hexL (s.data.toList.take k)) W ∧ BKept (w.heap.size + 2) w.heap.size W2 W)) (fun i _ => s.size - (intOf i).toNat)
  case atStart => exact ⟨0, Nat.zero_le _, rfl, Aside0.mk ⟨HBLD.out, BKept.refl _ _ _⟩⟩
  case round =>
    obtain ⟨k, hk, rfl, HR⟩ := hrel
    by_cases hks : k < s.size
    · have hc : wr.cell? ⟨w.heap.size + 1, k, none⟩ = some (.int .u8 (s.data.toList.getD k 0).toNat) := by
        rw [World.cell?_of_block (a := ⟨w.heap.size + 1, k, none⟩) (HR.out.2.block (w.heap.size + 1) (by have := HB.out.2.2; omega) (by omega) (.inl (by omega)))]
        exact HB.out.1 k hks
      have hst := hexL_snoc (s.data.toList.getD k 0) (s.data.toList.take k)
      rw [← take_snoc' _ _ (by simpa using hks)] at hst
      have hlen : (hexL (s.data.toList.take k)).length ≤ 2 * s.size := by rw [hexL_len]; simp; omega
      generalize hexL (s.data.toList.take k) = l0 at *
      generalize s.data.toList.getD k 0 = c at *
      have HST := Aside0.mk hst
      have HL := Aside0.mk hlen
      clear hst hlen
      have hi1 : ∀ W, (Instr.index 9 (.string ⟨#[48, 49, 50, 51, 52, 53, 54, 55, 56, 57, 97, 98, 99, 100, 101, 102]⟩) (.int .u8 ((c.toNat : Int) / 16))).run Try.prog W = .ok (.int .u8 ((dig16 (c.toNat / 16)).toNat : Int)) W := fun W => idx_dig (c.toNat / 16) (by have := c.toNat_lt; omega) W
      have hi2 : ∀ W, (Instr.index 9 (.string ⟨#[48, 49, 50, 51, 52, 53, 54, 55, 56, 57, 97, 98, 99, 100, 101, 102]⟩) (.int .u8 ((c.toNat : Int) % 16))).run Try.prog W = .ok (.int .u8 ((dig16 (c.toNat % 16)).toNat : Int)) W := fun W => idx_dig (c.toNat % 16) (by omega) W
      have hc256 : (c.toNat : Int) < 256 := by have := c.toNat_lt; omega
      have hRw : w.heap.size + 2 ≤ wr.heap.size := by have := HB.out.2.2; have := HR.out.2.size; omega
      have hkb : (k : Int) < 34359738368 := by have := HS.out; omega
      have HRW := Aside0.mk hRw
      clear hRw
      generalize dig16 (c.toNat / 16) = d1 at *
      generalize dig16 (c.toNat % 16) = d2 at *
      go_wp2_with (first | (go_at_call 55; ((with_reducible refine (wbyte_any (w.heap.size + 2) w.heap.size l0 d1 wr HR.out.1 (by have := HL.out; have := HS.out; omega) HRW.out).mono ?_)); rintro e w1 ⟨rfl, h1⟩; have HR1 := Aside0.mk h1; clear h1) | (go_at_call 55; ((with_reducible refine (wbyte_any (w.heap.size + 2) w.heap.size (l0 ++ [d1]) d2 w1 HR1.out.bld (by have := HL.out; have := HS.out; rw [List.length_append]; simp only [List.length_singleton]; omega) (by have := HRW.out; have := HR1.out.kept.size; omega)).mono ?_)); rintro e w2 ⟨rfl, h2⟩; have HR2 := Aside0.mk h2; clear h2))
      go_roundw
      case rel => exact ⟨k + 1, by omega, by go_num, Aside0.mk ⟨by rw [HST.out]; exact HR2.out.bld, (HR.out.2.trans HR1.out.kept).trans HR2.out.kept⟩⟩
      case measure => simp [intOf]; omega
    · obtain rfl : k = s.size := by omega
      have hl : s.data.toList.take s.size = s.data.toList := List.take_of_length_le (by simp)
      rw [hl] at HR
      clear hl
      have hst := bstring_any (w.heap.size + 2) w.heap.size w.heap.size _ wr HR.out.1 (by omega) (Nat.le_refl _) (by have := HB.out.2.2; have := HR.out.2.size; omega)
      have hbel : Below w.heap.size w wr := HB.out.2.1.trans (HR.out.2.below (by omega) (Nat.le_refl _) (by have := HB.out.2.2; omega))
      have HBEL := Aside0.mk hbel
      clear hbel HR HB HBLD
      obtain ⟨l0, hl0⟩ : ∃ l0, l0 = hexL s.data.toList := ⟨_, rfl⟩
      rw [← hl0] at hst
      have HL0 := Aside0.mk hl0
      clear hl0
      go_wp2_with (go_at_call 56; refine hst.mono ?_; rintro e w1 ⟨rfl, hb1, _⟩)
      go_ret
      exact ⟨by rw [← HL0.out]; rfl, HBEL.out.trans hb1⟩
end Go.Proofs.Ytkcjekboakoejaa.Print
