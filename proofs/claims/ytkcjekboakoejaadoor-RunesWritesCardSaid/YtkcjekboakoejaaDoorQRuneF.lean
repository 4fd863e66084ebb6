/- Plain law: the reference's first code point is the program's. -/
import Derived.Test.YtkcjekboakoejaaDoorQRuneB
import Derived.Test.YtkcjekboakoejaaDoorPrint1
import Derived.Test.YtkcjekboakoejaaDoorPrint2
namespace Go.Proofs.YtkcjekboakoejaaDoor.Print
open Go.RowKit Go.Proofs.YtkcjekboakoejaaDoorW.PrintWords Go.Proofs.YtkcjekboakoejaaDoorW.PrintLast
set_option linter.unusedVariables false
set_option linter.unusedSimpArgs false

theorem w32 {n : Int} (h : -2147483648 ≤ n ∧ n ≤ 2147483647) : wrap32 n = n := by unfold wrap32; omega
theorem bt_g (s : ByteArray) (i : Nat) (h : i < s.size) : bt s (i : Int) = (g s i : Int) := by
  have h1 := (bt_at s (i : Int) (by simpa using h)).symm
  rw [h1, g_at s i (by rw [Array.length_toList]; exact h)]
  rfl
theorem str_nat (l : List Nat) (b : ByteArray) (hb : b.data.toList.map UInt8.toNat = l) : strOfNums (l.map fun x : Nat => (x : Int)) = b := by
  subst hb
  obtain ⟨⟨l⟩⟩ := b
  unfold strOfNums
  simp only [List.map_map]
  congr 2
  conv => rhs; rw [← List.map_id l]
  refine List.map_congr_left (fun x _ => ?_)
  simp
theorem m256 {n : Nat} (h : n < 256) {x : Int} (e : x = (n : Int)) : x % 256 = (n : Int) := by omega
theorem td (n k : Nat) : Int.tdiv (n : Int) (k : Int) = ((n / k : Nat) : Int) := rfl
theorem tm (n k : Nat) : Int.tmod (n : Int) (k : Int) = ((n % k : Nat) : Int) := rfl
theorem wadd {a n : Nat} (h : a + n ≤ 2147483647) : wrap32 ((a : Int) + (n : Int)) = ((a + n : Nat) : Int) := by unfold wrap32; omega
theorem wn {n : Nat} (h : n ≤ 2147483647) : wrap32 (n : Int) = (n : Int) := by unfold wrap32; omega
set_option maxRecDepth 1000000 in
theorem rbytes_is (r : Int) (hr : -2147483648 ≤ r ∧ r ≤ 2147483647) : codicilref01_Bytes.f r = some (bytesP r) := by
  have hp : codicilref01_Point.f r = some (Lib.validRune r) := by
    unfold codicilref01_Point.f Lib.validRune
    repeat' split
    all_goals first
      | (congr 1; symm; rw [decide_eq_true_eq]; omega)
      | (congr 1; symm; rw [decide_eq_false_iff_not]; omega)
      | (congr 1; rw [decide_eq_decide]; omega)
  unfold codicilref01_Bytes.f
  rw [hp, Option.bind_some]
  cases hv : Lib.validRune r with
  | false =>
    rw [if_neg (by decide)]
    unfold bytesP
    rw [if_neg (by rw [hv]; decide)]
  | true =>
    rw [if_pos rfl]
    have hN : 0 ≤ r ∧ validN r.toNat := by
      simp only [Lib.validRune, decide_eq_true_eq] at hv
      unfold validN
      omega
    obtain ⟨n, rfl⟩ : ∃ n : Nat, r = (n : Int) := ⟨r.toNat, by omega⟩
    have hl := bytesP_list hN.2
    simp only [Int.toNat_natCast] at hl
    have hm : n ≤ 1114111 := by have := hN.2; unfold validN at this; omega
    rw [← str_nat _ _ hl]
    clear hl hv hp hN hr
    unfold enc
    by_cases c1 : n < 128
    · have h1 : (n : Int) < 128 := by omega
      simp only [h1, if_true, c1, List.map]
      rw [m256 (n := n) (by omega) rfl]
    have h1 : ¬ (n : Int) < 128 := by omega
    by_cases c2 : n < 2048
    · have h2 : (n : Int) < 2048 := by omega
      have e1 : wrap32 (192 + wrap32 (Int.tdiv (n : Int) 64)) % 256 = ((192 + n / 64 : Nat) : Int) := m256 (by omega) (by rw [show (64 : Int) = ((64 : Nat) : Int) from rfl, td, wn (by omega)]; exact wadd (a := 192) (by omega))
      have e2 : wrap32 (128 + Int.tmod (n : Int) 64) % 256 = ((128 + n % 64 : Nat) : Int) := m256 (by omega) (by rw [show (64 : Int) = ((64 : Nat) : Int) from rfl, tm]; exact wadd (a := 128) (by omega))
      simp only [h1, h2, c1, c2, if_true, if_false, List.map, e1, e2]
    have h2 : ¬ (n : Int) < 2048 := by omega
    by_cases c3 : n < 65536
    · have h3 : (n : Int) < 65536 := by omega
      have e1 : wrap32 (224 + wrap32 (Int.tdiv (n : Int) 4096)) % 256 = ((224 + n / 4096 : Nat) : Int) := m256 (by omega) (by rw [show (4096 : Int) = ((4096 : Nat) : Int) from rfl, td, wn (by omega)]; exact wadd (a := 224) (by omega))
      have e2 : wrap32 (128 + Int.tmod (wrap32 (Int.tdiv (n : Int) 64)) 64) % 256 = ((128 + n / 64 % 64 : Nat) : Int) := m256 (by omega) (by rw [show (64 : Int) = ((64 : Nat) : Int) from rfl, td, wn (by omega), tm]; exact wadd (a := 128) (by omega))
      have e3 : wrap32 (128 + Int.tmod (n : Int) 64) % 256 = ((128 + n % 64 : Nat) : Int) := m256 (by omega) (by rw [show (64 : Int) = ((64 : Nat) : Int) from rfl, tm]; exact wadd (a := 128) (by omega))
      simp only [h1, h2, h3, c1, c2, c3, if_true, if_false, List.map, e1, e2, e3]
    · have h3 : ¬ (n : Int) < 65536 := by omega
      have e0 : wrap32 (240 + wrap32 (Int.tdiv (n : Int) 262144)) % 256 = ((240 + n / 262144 : Nat) : Int) := m256 (by omega) (by rw [show (262144 : Int) = ((262144 : Nat) : Int) from rfl, td, wn (by omega)]; exact wadd (a := 240) (by omega))
      have e1 : wrap32 (128 + Int.tmod (wrap32 (Int.tdiv (n : Int) 4096)) 64) % 256 = ((128 + n / 4096 % 64 : Nat) : Int) := m256 (by omega) (by rw [show (4096 : Int) = ((4096 : Nat) : Int) from rfl, show (64 : Int) = ((64 : Nat) : Int) from rfl, td, wn (by omega), tm]; exact wadd (a := 128) (by omega))
      have e2 : wrap32 (128 + Int.tmod (wrap32 (Int.tdiv (n : Int) 64)) 64) % 256 = ((128 + n / 64 % 64 : Nat) : Int) := m256 (by omega) (by rw [show (64 : Int) = ((64 : Nat) : Int) from rfl, td, wn (by omega), tm]; exact wadd (a := 128) (by omega))
      have e3 : wrap32 (128 + Int.tmod (n : Int) 64) % 256 = ((128 + n % 64 : Nat) : Int) := m256 (by omega) (by rw [show (64 : Int) = ((64 : Nat) : Int) from rfl, tm]; exact wadd (a := 128) (by omega))
      simp only [h1, h2, h3, c1, c2, c3, if_false, List.map, e0, e1, e2, e3]
end Go.Proofs.YtkcjekboakoejaaDoor.Print
