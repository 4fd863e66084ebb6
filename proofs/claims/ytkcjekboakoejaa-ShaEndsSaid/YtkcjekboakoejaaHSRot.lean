/- Contracts of math/bits.RotateLeft32 and of sha.block's rotations. -/
import Derived.Test.YtkcjekboakoejaaProg
import Derived.WalkKit
import Derived.ProofKit
import Derived.LoopTactic
import Derived.Below
import Derived.BigCall
import Derived.BigGuard
import Derived.Lib.Hide
import Derived.Laws.Shifts
import Derived.Laws.BitsLemmas
import Derived.Laws.BitsAllLaws
import Derived.Laws.Bits64b
namespace Go.Proofs.Ytkcjekboakoejaa.Print
open Go Go.RowKit
set_option linter.unusedVariables false
set_option linter.unusedSimpArgs false

/-- x, turned to the right. -/
def rotN (x m : Nat) : Nat := (x * 2 ^ (32 - m) % 4294967296) ||| (x / 2 ^ m)
theorem and31 (m : Nat) (h1 : 1 ≤ m) (h2 : m ≤ 31) : bits .and .u64 (IntKind.u64.wrap (-(m : Int))) 31 = ((32 - m : Nat) : Int) := by
  have e : IntKind.u64.wrap (-(m : Int)) = ((18446744073709551616 - m : Nat) : Int) := by
    rw [IntKind.wrap_u64]
    omega
  rw [e]
  have := bits_and_u64_nat (18446744073709551616 - m) 31 (by omega) (by omega)
  have h3 : (18446744073709551616 - m) &&& 31 = 32 - m := by
    rw [show (31 : Nat) = 2 ^ 5 - 1 from rfl, Nat.and_two_pow_sub_one_eq_mod]
    omega
  rw [h3] at this
  exact this
theorem rot_int (x m : Nat) (hx : x < 4294967296) (h1 : 1 ≤ m) (h2 : m ≤ 31) : bits .or .u32 ((x : Int) * 2 ^ (32 - m) % 4294967296) ((x : Int) / 2 ^ (32 - (32 - m))) = (rotN x m : Int) := by
  have e : 32 - (32 - m) = m := by omega
  rw [e]
  have h := u32_or_nat (x * 2 ^ (32 - m) % 4294967296) (x / 2 ^ m) (Nat.mod_lt _ (by decide)) (Nat.lt_of_le_of_lt (Nat.div_le_self _ _) hx)
  have e1 : ((x * 2 ^ (32 - m) % 4294967296 : Nat) : Int) = (x : Int) * 2 ^ (32 - m) % 4294967296 := by simp
  have e2 : ((x / 2 ^ m : Nat) : Int) = (x : Int) / 2 ^ m := by simp
  rw [e1, e2] at h
  exact h
theorem rotN_lt (x m : Nat) (hx : x < 4294967296) : rotN x m < 4294967296 := by
  unfold rotN
  have h1 : x * 2 ^ (32 - m) % 4294967296 < 2 ^ 32 := Nat.mod_lt _ (by decide)
  have h2 : x / 2 ^ m < 2 ^ 32 := Nat.lt_of_le_of_lt (Nat.div_le_self _ _) hx
  exact Nat.or_lt_two_pow h1 h2
set_option maxHeartbeats 1000000 in
theorem rot_any (x m : Nat) (hx : x < 4294967296) (h1 : 1 ≤ m) (h2 : m ≤ 31) (w : World) :
    Calls Try.prog 69 #[.int .u32 x, .int .i64 (-(m : Int))] w fun e w' => e = .returned (.int .u32 (rotN x m)) ∧ w' = w := by
  have hand := and31 m h1 h2
  go_enter Try.func69, Try.ntmps69
  go_wp2
  go_ret
  exact ⟨by rw [← rot_int x m hx h1 h2]; rfl, rfl⟩
/-- Rotations, joined. -/
def rotsN (x : Nat) (ms : List Nat) : Nat := ms.foldl (fun y m => y ^^^ rotN x m) 0
theorem rotsN_snoc (x : Nat) (ms : List Nat) (m : Nat) : rotsN x (ms ++ [m]) = rotsN x ms ^^^ rotN x m := by simp [rotsN]
theorem xor_lt {a b : Nat} (ha : a < 4294967296) (hb : b < 4294967296) : a ^^^ b < 4294967296 := Nat.xor_lt_two_pow (n := 32) ha hb
theorem rotsN_lt (x : Nat) (hx : x < 4294967296) (ms : List Nat) : rotsN x ms < 4294967296 := by
  unfold rotsN
  suffices h : ∀ (ms : List Nat) (y : Nat), y < 4294967296 → ms.foldl (fun y m => y ^^^ rotN x m) y < 4294967296 from h ms 0 (by decide)
  intro ms
  induction ms with
  | nil => intro y hy; exact hy
  | cons m r ih => intro y hy; exact ih _ (xor_lt hy (rotN_lt x m hx))
set_option maxHeartbeats 2000000 in
theorem rots_any (x : Nat) (hx : x < 4294967296) (b n : Nat) (ms : List Nat) (hn : ms.length = n) (hs : n ≤ 1024) (hm : ∀ m ∈ ms, 1 ≤ m ∧ m ≤ 31) (w : World) (hc : ∀ j, j < n → w.cell? ⟨b, j, none⟩ = some (.int .i64 ((ms.getD j 0 : Nat) : Int))) :
    Calls Try.prog 68 #[.int .u32 x, .slice (some ⟨b, 0, none⟩) n n] w fun e w' => e = .returned (.int .u32 (rotsN x ms)) ∧ w' = w := by
  have HN := Lib.hid hn
  have HM := Lib.hid hm
  clear hm hn
  go_enter Try.func68, Try.ntmps68
  go_wp2
  go_loop [4, 9] (fun y i => ∃ (k : Nat) (v : Nat), k ≤ n ∧ i = .int .i64 k ∧ y = .int .u32 v ∧ v < 4294967296 ∧ Hid (v = rotsN x (ms.take k))) (fun _ i => n - (intOf i).toNat)
  case atStart => exact ⟨0, 0, Nat.zero_le _, rfl, rfl, by decide, Lib.hid rfl⟩
  case round =>
    obtain ⟨k, v, hk, rfl, rfl, hv, HV⟩ := hrel
    by_cases hlt : k < n
    · have hcell := hc k hlt
      have hkl : k < ms.length := by have := HN.out; omega
      have hmm := HM.out (ms.getD k 0) (by rw [List.getD_eq_getElem?_getD, List.getElem?_eq_getElem hkl]; exact List.getElem_mem hkl)
      have ht : ms.take (k + 1) = ms.take k ++ [ms.getD k 0] := by
        rw [List.take_succ_eq_append_getElem hkl, List.getD_eq_getElem?_getD, List.getElem?_eq_getElem hkl]
        rfl
      have HT := Lib.hid ht
      clear ht hc
      generalize ms.getD k 0 = m at *
      have hrot := fun W => rot_any x m hx hmm.1 hmm.2 W
      have hr := rotN_lt x m hx
      have hx2 := u32_xor_nat v (rotN x m) hv hr
      have hl := xor_lt hv hr
      have HS : Hid (v ^^^ rotN x m = rotsN x (ms.take (k + 1))) := Lib.hid (by rw [HT.out, rotsN_snoc, ← HV.out])
      generalize rotN x m = r at *
      generalize v ^^^ r = z at *
      have i0 : (0 : Int) ≤ (k : Int) := by omega
      have i1 : (k : Int) < (n : Int) := by omega
      go_wp2_with (go_at_call 69; refine (hrot _).mono ?_; rintro e w' ⟨rfl, rfl⟩)
      go_round
      case rel => exact ⟨k + 1, z, by omega, by go_num, rfl, hl, HS⟩
      case measure => simp [intOf]; omega
    · go_wp2
      go_ret
      obtain rfl : k = n := by omega
      have h1 := HV.out
      rw [List.take_of_length_le (by have := HN.out; omega)] at h1
      exact ⟨by rw [← h1]; rfl, rfl⟩
end Go.Proofs.Ytkcjekboakoejaa.Print
