/- Plain law of code points and their bytes, in numbers: what stands at the front of bytes, and that it is the only one. -/
import Derived.Test.YtkcjekboakoejaaDoorHRBytes
import Derived.Lib.DecodeN
namespace Go.Proofs.YtkcjekboakoejaaDoor.Print
set_option linter.unusedVariables false
set_option linter.unusedSimpArgs false

def validN (r : Nat) : Prop := r < 55296 ∨ (57344 ≤ r ∧ r ≤ 1114111)
/-- A code point's bytes. -/
def enc (r : Nat) : List Nat :=
  if r < 128 then [r] else if r < 2048 then [192 + r / 64, 128 + r % 64] else if r < 65536 then [224 + r / 4096, 128 + r / 64 % 64, 128 + r % 64]
  else [240 + r / 262144, 128 + r / 4096 % 64, 128 + r / 64 % 64, 128 + r % 64]
/-- Does a row of numbers stand at the front of so many bytes, of which these are the first? -/
def matchN (l : List Nat) (m b0 b1 b2 b3 : Nat) : Prop :=
  match l with
  | [x] => 1 ≤ m ∧ x = b0
  | [x, y] => 2 ≤ m ∧ x = b0 ∧ y = b1
  | [x, y, z] => 3 ≤ m ∧ x = b0 ∧ y = b1 ∧ z = b2
  | [x, y, z, u] => 4 ≤ m ∧ x = b0 ∧ y = b1 ∧ z = b2 ∧ u = b3
  | _ => False
/-- The code point at the front, and how many bytes it has. -/
def dec (m b0 b1 b2 b3 : Nat) : Option (Nat × Nat) :=
  if 1 ≤ m ∧ b0 < 128 then some (b0, 1)
  else if 2 ≤ m ∧ 194 ≤ b0 ∧ b0 ≤ 223 ∧ 128 ≤ b1 ∧ b1 ≤ 191 then some ((b0 - 192) * 64 + (b1 - 128), 2)
  else if 3 ≤ m ∧ 224 ≤ b0 ∧ b0 ≤ 239 ∧ 128 ≤ b1 ∧ b1 ≤ 191 ∧ 128 ≤ b2 ∧ b2 ≤ 191 ∧ 2048 ≤ (b0 - 224) * 4096 + (b1 - 128) * 64 + (b2 - 128) ∧ ((b0 - 224) * 4096 + (b1 - 128) * 64 + (b2 - 128) < 55296 ∨ 57344 ≤ (b0 - 224) * 4096 + (b1 - 128) * 64 + (b2 - 128)) then some ((b0 - 224) * 4096 + (b1 - 128) * 64 + (b2 - 128), 3)
  else if 4 ≤ m ∧ 240 ≤ b0 ∧ b0 ≤ 247 ∧ 128 ≤ b1 ∧ b1 ≤ 191 ∧ 128 ≤ b2 ∧ b2 ≤ 191 ∧ 128 ≤ b3 ∧ b3 ≤ 191 ∧ 65536 ≤ (b0 - 240) * 262144 + (b1 - 128) * 4096 + (b2 - 128) * 64 + (b3 - 128) ∧ (b0 - 240) * 262144 + (b1 - 128) * 4096 + (b2 - 128) * 64 + (b3 - 128) ≤ 1114111 then some ((b0 - 240) * 262144 + (b1 - 128) * 4096 + (b2 - 128) * 64 + (b3 - 128), 4)
  else none
theorem enc_len (r : Nat) : (enc r).length = if r < 128 then 1 else if r < 2048 then 2 else if r < 65536 then 3 else 4 := by
  unfold enc
  repeat' split
  all_goals rfl
theorem dec_match {m b0 b1 b2 b3 r n : Nat} (h : dec m b0 b1 b2 b3 = some (r, n)) : matchN (enc r) m b0 b1 b2 b3 ∧ n = (enc r).length ∧ validN r ∧ 1 ≤ n ∧ n ≤ 4 ∧ n ≤ m := by
  unfold dec at h
  split at h
  · rename_i c
    simp only [Option.some.injEq, Prod.mk.injEq] at h
    obtain ⟨rfl, rfl⟩ := h
    have e : enc b0 = [b0] := by unfold enc; rw [if_pos c.2]
    rw [e]
    exact ⟨⟨c.1, rfl⟩, rfl, .inl (by omega), by omega, by omega, by omega⟩
  split at h
  · rename_i c
    simp only [Option.some.injEq, Prod.mk.injEq] at h
    obtain ⟨rfl, rfl⟩ := h
    obtain ⟨r, hr⟩ : ∃ r, r = (b0 - 192) * 64 + (b1 - 128) := ⟨_, rfl⟩
    rw [← hr]
    have e : enc r = [192 + r / 64, 128 + r % 64] := by unfold enc; rw [if_neg (by omega), if_pos (by omega)]
    rw [e]
    exact ⟨⟨by omega, by omega, by omega⟩, rfl, .inl (by omega), by omega, by omega, by omega⟩
  split at h
  · rename_i c
    simp only [Option.some.injEq, Prod.mk.injEq] at h
    obtain ⟨rfl, rfl⟩ := h
    obtain ⟨r, hr⟩ : ∃ r, r = (b0 - 224) * 4096 + (b1 - 128) * 64 + (b2 - 128) := ⟨_, rfl⟩
    rw [← hr] at c ⊢
    have e : enc r = [224 + r / 4096, 128 + r / 64 % 64, 128 + r % 64] := by unfold enc; rw [if_neg (by omega), if_neg (by omega), if_pos (by omega)]
    rw [e]
    refine ⟨⟨by omega, by omega, by omega, by omega⟩, rfl, ?_, by omega, by omega, by omega⟩
    unfold validN
    omega
  split at h
  · rename_i c
    simp only [Option.some.injEq, Prod.mk.injEq] at h
    obtain ⟨rfl, rfl⟩ := h
    obtain ⟨r, hr⟩ : ∃ r, r = (b0 - 240) * 262144 + (b1 - 128) * 4096 + (b2 - 128) * 64 + (b3 - 128) := ⟨_, rfl⟩
    rw [← hr] at c ⊢
    have e : enc r = [240 + r / 262144, 128 + r / 4096 % 64, 128 + r / 64 % 64, 128 + r % 64] := by unfold enc; rw [if_neg (by omega), if_neg (by omega), if_neg (by omega)]
    rw [e]
    refine ⟨⟨by omega, by omega, by omega, by omega, by omega⟩, rfl, ?_, by omega, by omega, by omega⟩
    unfold validN
    omega
  · cases h
set_option maxRecDepth 1000000 in
theorem dec_of_match {m b0 b1 b2 b3 r : Nat} (hv : validN r) (h : matchN (enc r) m b0 b1 b2 b3) : dec m b0 b1 b2 b3 = some (r, (enc r).length) := by
  unfold validN at hv
  rw [enc_len]
  unfold enc at h
  split at h
  · rename_i c
    obtain ⟨h1, rfl⟩ := h
    unfold dec
    rw [if_pos ⟨h1, c⟩, if_pos c]
  split at h
  · rename_i c1 c2
    obtain ⟨h1, rfl, rfl⟩ := h
    unfold dec
    rw [if_neg (by omega), if_pos (by omega), if_neg c1, if_pos c2]
    congr 2
    omega
  split at h
  · rename_i c1 c2 c3
    obtain ⟨h1, g0, g1, g2⟩ := h
    have e : (b0 - 224) * 4096 + (b1 - 128) * 64 + (b2 - 128) = r := by omega
    unfold dec
    rw [if_neg (by omega), if_neg (by omega), e, if_pos (by omega), if_neg c1, if_neg c2, if_pos c3]
  · rename_i c1 c2 c3
    obtain ⟨h1, g0, g1, g2, g3⟩ := h
    have e : (b0 - 240) * 262144 + (b1 - 128) * 4096 + (b2 - 128) * 64 + (b3 - 128) = r := by omega
    unfold dec
    rw [if_neg (by omega), if_neg (by omega), if_neg (by omega), e, if_pos (by omega), if_neg c1, if_neg c2, if_neg c3]
set_option maxHeartbeats 2000000 in
theorem decodeN_dec (m b0 b1 b2 b3 : Nat) (hm : 1 ≤ m) (h0 : b0 < 256) (h1 : b1 < 256) (h2 : b2 < 256) (h3 : b3 < 256) : Lib.decodeN m b0 b1 b2 b3 = (dec m b0 b1 b2 b3).getD (65533, 1) := by
  unfold Lib.decodeN dec
  by_cases c0 : b0 < 128
  · rw [if_pos c0, if_pos ⟨hm, c0⟩]
    rfl
  have d0 : ¬ (1 ≤ m ∧ b0 < 128) := fun h => c0 h.2
  rw [if_neg c0, if_neg d0]
  by_cases c1 : b0 / 32 = 6 ∧ (1 < m ∧ b1 / 64 = 2)
  · rw [if_pos c1]
    by_cases c2 : b0 % 32 * 64 + b1 % 64 ≥ 128
    · have d1 : 2 ≤ m ∧ 194 ≤ b0 ∧ b0 ≤ 223 ∧ 128 ≤ b1 ∧ b1 ≤ 191 := by omega
      rw [if_pos c2, if_pos d1]
      simp only [Option.getD_some, Prod.mk.injEq, and_true]
      omega
    · have d1 : ¬ (2 ≤ m ∧ 194 ≤ b0 ∧ b0 ≤ 223 ∧ 128 ≤ b1 ∧ b1 ≤ 191) := by omega
      rw [if_neg c2, if_neg d1, if_neg (by omega), if_neg (by omega)]
      rfl
  rw [if_neg c1]
  have d1 : ¬ (2 ≤ m ∧ 194 ≤ b0 ∧ b0 ≤ 223 ∧ 128 ≤ b1 ∧ b1 ≤ 191) := by omega
  rw [if_neg d1]
  by_cases c3 : b0 / 16 = 14 ∧ (1 < m ∧ b1 / 64 = 2) ∧ (2 < m ∧ b2 / 64 = 2)
  · rw [if_pos c3]
    have e : (b0 - 224) * 4096 + (b1 - 128) * 64 + (b2 - 128) = b0 % 16 * 4096 + b1 % 64 * 64 + b2 % 64 := by omega
    rw [e]
    obtain ⟨r, hr⟩ : ∃ r, r = b0 % 16 * 4096 + b1 % 64 * 64 + b2 % 64 := ⟨_, rfl⟩
    rw [← hr]
    have hr2 : r < 65536 := by omega
    by_cases c4 : r ≥ 2048 ∧ (r < 55296 ∨ (57344 ≤ r ∧ r ≤ 1114111))
    · have d2 : 3 ≤ m ∧ 224 ≤ b0 ∧ b0 ≤ 239 ∧ 128 ≤ b1 ∧ b1 ≤ 191 ∧ 128 ≤ b2 ∧ b2 ≤ 191 ∧ 2048 ≤ r ∧ (r < 55296 ∨ 57344 ≤ r) := by omega
      rw [if_pos c4, if_pos d2]
      rfl
    · have d2 : ¬ (3 ≤ m ∧ 224 ≤ b0 ∧ b0 ≤ 239 ∧ 128 ≤ b1 ∧ b1 ≤ 191 ∧ 128 ≤ b2 ∧ b2 ≤ 191 ∧ 2048 ≤ r ∧ (r < 55296 ∨ 57344 ≤ r)) := by omega
      rw [if_neg c4, if_neg d2, if_neg (by omega)]
      rfl
  rw [if_neg c3]
  have d3 : ¬ (3 ≤ m ∧ 224 ≤ b0 ∧ b0 ≤ 239 ∧ 128 ≤ b1 ∧ b1 ≤ 191 ∧ 128 ≤ b2 ∧ b2 ≤ 191 ∧ 2048 ≤ (b0 - 224) * 4096 + (b1 - 128) * 64 + (b2 - 128) ∧ ((b0 - 224) * 4096 + (b1 - 128) * 64 + (b2 - 128) < 55296 ∨ 57344 ≤ (b0 - 224) * 4096 + (b1 - 128) * 64 + (b2 - 128))) := by omega
  rw [if_neg d3]
  by_cases c5 : b0 / 8 = 30 ∧ (1 < m ∧ b1 / 64 = 2) ∧ (2 < m ∧ b2 / 64 = 2) ∧ (3 < m ∧ b3 / 64 = 2)
  · rw [if_pos c5]
    have e : (b0 - 240) * 262144 + (b1 - 128) * 4096 + (b2 - 128) * 64 + (b3 - 128) = b0 % 8 * 262144 + b1 % 64 * 4096 + b2 % 64 * 64 + b3 % 64 := by omega
    rw [e]
    obtain ⟨r, hr⟩ : ∃ r, r = b0 % 8 * 262144 + b1 % 64 * 4096 + b2 % 64 * 64 + b3 % 64 := ⟨_, rfl⟩
    rw [← hr]
    by_cases c4 : r ≥ 65536 ∧ (r < 55296 ∨ (57344 ≤ r ∧ r ≤ 1114111))
    · have d2 : 4 ≤ m ∧ 240 ≤ b0 ∧ b0 ≤ 247 ∧ 128 ≤ b1 ∧ b1 ≤ 191 ∧ 128 ≤ b2 ∧ b2 ≤ 191 ∧ 128 ≤ b3 ∧ b3 ≤ 191 ∧ 65536 ≤ r ∧ r ≤ 1114111 := by omega
      rw [if_pos c4, if_pos d2]
      rfl
    · have d2 : ¬ (4 ≤ m ∧ 240 ≤ b0 ∧ b0 ≤ 247 ∧ 128 ≤ b1 ∧ b1 ≤ 191 ∧ 128 ≤ b2 ∧ b2 ≤ 191 ∧ 128 ≤ b3 ∧ b3 ≤ 191 ∧ 65536 ≤ r ∧ r ≤ 1114111) := by omega
      rw [if_neg c4, if_neg d2]
      rfl
  have d4 : ¬ (4 ≤ m ∧ 240 ≤ b0 ∧ b0 ≤ 247 ∧ 128 ≤ b1 ∧ b1 ≤ 191 ∧ 128 ≤ b2 ∧ b2 ≤ 191 ∧ 128 ≤ b3 ∧ b3 ≤ 191 ∧ 65536 ≤ (b0 - 240) * 262144 + (b1 - 128) * 4096 + (b2 - 128) * 64 + (b3 - 128) ∧ (b0 - 240) * 262144 + (b1 - 128) * 4096 + (b2 - 128) * 64 + (b3 - 128) ≤ 1114111) := by omega
  rw [if_neg c5, if_neg d4]
  rfl
end Go.Proofs.YtkcjekboakoejaaDoor.Print
