/- Contract of internal/strconv.ParseUint at base 16, size 8, for two bytes; strconv.ParseUint of the same. -/
import Derived.Test.YtddjhmelniphgaaGreatDoorPrint0
import Derived.Test.YtddjhmelniphgaaGreatDoorHTLen
import Derived.Lib.IfaceEq
import Derived.Lib.AtoiErrMem
import Derived.RegionTactic
import Derived.Deep.RegionWith
import Derived.Test.YtddjhmelniphgaaGreatDoorHShelf
import Derived.Lib.Strings
import Derived.Lib.Walk
import Derived.Lib.ConvBytes
import Derived.Lib.ParseIntBMem
import Derived.Lib.Hide
import Derived.Laws.Strings3
import Derived.Laws.Closers25
import Derived.Laws.Closers25b
import Derived.WalkKit
import Derived.BigCall
import Derived.BigGuard
namespace Go.Proofs.YtddjhmelniphgaaGreatDoor.Print
open Go Go.RowKit Go.Proofs.YtddjhmelniphgaaGreatDoorW.PrintWords Go.Proofs.YtddjhmelniphgaaGreatDoorW.PrintLast Go.Shelf
set_option linter.unusedVariables false
set_option linter.unusedSimpArgs false

/-- A digit of sixteen. -/
def hexD (c : Nat) : Option Nat := if 48 ≤ c ∧ c ≤ 57 then some (c - 48) else if 97 ≤ c ∧ c ≤ 102 then some (c - 87) else if 65 ≤ c ∧ c ≤ 70 then some (c - 55) else none
def hexFrom (acc : Nat) : List UInt8 → Option Nat
  | [] => some acc
  | c :: r => (hexD c.toNat).bind fun d => hexFrom (acc * 16 + d) r
def hexV : Option Nat → Value
  | some n => .tuple #[.int .u64 n, .nilIface]
  | none => .tuple #[.int .u64 0, .iface 131 (.int .i64 2)]
theorem low_tab : ∀ c : Fin 256, bits .or .u8 ((c.val : Nat) : Int) 32 = ((c.val ||| 32 : Nat) : Int) := by decide +kernel
theorem low_hex : ∀ c : Fin 256, (48 ≤ c.val ∧ c.val ≤ 57) ∨ (97 ≤ (c.val ||| 32) ∧ (c.val ||| 32) ≤ 102 ∧ 65 ≤ c.val ∧ c.val ≠ 95 ∧ hexD c.val = some ((c.val ||| 32) - 87)) ∨ (((c.val ||| 32) < 97 ∨ 102 < (c.val ||| 32)) ∧ (c.val < 48 ∨ 57 < c.val) ∧ (c.val ||| 32) < 256 ∧ hexD c.val = none) := by decide +kernel
theorem low_any (c : Nat) (hc : c < 256) (w : World) : Calls Tryz.prog 99 #[.int .u8 c] w fun e w' => e = .returned (.int .u8 ((c ||| 32 : Nat) : Int)) ∧ w' = w := by
  have h := Tryz.internal_strconv_lower (c : Int) w
  rw [low_tab ⟨c, hc⟩] at h
  exact h

set_option maxHeartbeats 32000000 in
set_option maxRecDepth 100000 in
theorem hx8_any (t : ByteArray) (h4 : t.size = 2) (w : World) :
    Calls Tryz.prog 69 #[.string t, .int .i64 16, .int .i64 8] w fun e w' => e = .returned (hexV (hexFrom 0 t.data.toList)) ∧ w' = Lib.bytesWorld w 5 t := by
  have hemp : t.toList.isEmpty = false := by
    rw [← decide_eq_emptyBytes]
    exact decide_eq_false (fun h => by rw [h] at h4; cases h4)
  have hcv := Lib.run_convert_string_bytes (P := Tryz.prog) w 9 57 5 t (u := .string) Tryz.underlying9 Tryz.underlying57 Tryz.underlying5
  have hB : ∀ j, j < t.size → (Lib.bytesWorld w 5 t).cell? ⟨w.heap.size, j, none⟩ = some (.int .u8 (t.data.toList.getD j 0).toNat) := fun j hj => Lib.bytesWorld_cell w 5 t j hj
  obtain ⟨W1, hW1⟩ : ∃ W1, W1 = Lib.bytesWorld w 5 t := ⟨_, rfl⟩
  rw [← hW1] at hcv hB ⊢
  clear hW1
  obtain ⟨bs, hL⟩ : ∃ bs, bs = t.data.toList := ⟨_, rfl⟩
  have hLn : bs.length = t.size := by rw [hL, Lib.size_eq]
  rw [← hL] at hB ⊢
  clear hL
  have hmv : IntKind.u64.wrap (IntKind.u64.wrap 256 - 1) = 255 := by
    rw [IntKind.wrap_u64, IntKind.wrap_u64]
    decide
  go_enter Tryz.func69, Tryz.ntmps69
  go_wp2
  go_loop [12, 13, 101] (fun vu vn vi => ∃ (k acc : Nat) (a : Int), vu = .bool false ∧ vn = .int .u64 a ∧ vi = .int .i64 k ∧ k ≤ t.size ∧ Hid (a = (acc : Int) ∧ acc < 16 ^ k ∧ hexFrom 0 bs = hexFrom acc (bs.drop k)))
    (fun _ _ vi => t.size - (intOf vi).toNat)
  case atStart => exact ⟨0, 0, 0, rfl, rfl, rfl, by omega, rfl, by decide, rfl⟩
  case round =>
    obtain ⟨k, acc, a, rfl, rfl, rfl, hk, hh⟩ := hrel
    obtain ⟨ha, hacc, hdec⟩ := hh.out
    clear hh
    by_cases hkn : k < t.size
    · have hacc4 : acc ≤ 15 := by
        rcases (by omega : k = 0 ∨ k = 1) with h | h <;> subst h <;> omega
      have a0 : 0 ≤ a := by omega
      have a1 : a ≤ 15 := by omega
      have hpow : ∀ d, d ≤ 15 → acc * 16 + d < 16 ^ (k + 1) := fun d hd => by rw [Nat.pow_succ]; omega
      have hc := hB k hkn
      have hdrop : bs.drop k = bs[k]'(by omega) :: bs.drop (k + 1) := List.drop_eq_getElem_cons (by omega)
      have hget : bs.getD k 0 = bs[k]'(by omega) := by simp [List.getD, List.getElem?_eq_getElem (show k < bs.length by omega)]
      rw [hdrop] at hdec
      rw [hget] at hc
      generalize bs[k]'(by omega) = c at hc hdec
      have hc256 : c.toNat < 256 := c.toNat_lt
      clear hB hdrop hget
      have hstep : hexFrom acc (c :: bs.drop (k + 1)) = (hexD c.toNat).bind fun d => hexFrom (acc * 16 + d) (bs.drop (k + 1)) := rfl
      rcases low_hex ⟨c.toNat, hc256⟩ with ⟨hd0, hd1⟩ | ⟨hv0, hv1, hc65, hc95, hh⟩ | ⟨hv0, hcd, hv256, hh⟩
      · have hh : hexD c.toNat = some (c.toNat - 48) := by unfold hexD; rw [if_pos ⟨hd0, hd1⟩]
        rw [hstep, hh, Option.bind_some] at hdec
        have HN : Hid (a * 16 + ((c.toNat : Int) - 48) = ((acc * 16 + (c.toNat - 48) : Nat) : Int) ∧ acc * 16 + (c.toNat - 48) < 16 ^ (k + 1) ∧ hexFrom 0 bs = hexFrom (acc * 16 + (c.toNat - 48)) (bs.drop (k + 1))) := Lib.hid ⟨by simp only at hd0; omega, hpow _ (by simp only at hd1; omega), hdec⟩
        have id0 : (48 : Int) ≤ (c.toNat : Int) := by simp only at hd0; omega
        have id1 : (c.toNat : Int) ≤ 57 := by simp only at hd1; omega
        have n95 : ¬ (c.toNat : Int) = 95 := by omega
        clear hacc hdec ha hacc4 hpow hstep hh
        go_wp2
        refine ⟨⟨k + 1, acc * 16 + (c.toNat - 48), a * 16 + ((c.toNat : Int) - 48), rfl, (by first | rfl | (congr 1; omega)), (by first | rfl | (congr 1; omega)), by omega, HN⟩, by simp [intOf]; omega⟩
      · rw [hstep, hh, Option.bind_some] at hdec
        simp only at hv0 hv1 hc65 hc95
        have hlow := low_any c.toNat hc256
        generalize c.toNat ||| 32 = v at *
        have HN : Hid (a * 16 + ((v : Int) - 97 + 10) = ((acc * 16 + (v - 87) : Nat) : Int) ∧ acc * 16 + (v - 87) < 16 ^ (k + 1) ∧ hexFrom 0 bs = hexFrom (acc * 16 + (v - 87)) (bs.drop (k + 1))) := Lib.hid ⟨by omega, hpow _ (by omega), hdec⟩
        have id0 : (97 : Int) ≤ (v : Int) := by omega
        have id1 : (v : Int) ≤ 102 := by omega
        have ic0 : (57 : Int) < (c.toNat : Int) := by omega
        have n95 : ¬ (c.toNat : Int) = 95 := by omega
        clear hacc hdec ha hacc4 hpow hstep hh
        go_wp2_with (go_at_call 99; refine (hlow _).mono ?_; rintro e w' ⟨rfl, rfl⟩)
        refine ⟨⟨k + 1, acc * 16 + (v - 87), a * 16 + ((v : Int) - 97 + 10), rfl, (by first | rfl | (congr 1; omega)), (by first | rfl | (congr 1; omega)), by omega, HN⟩, by simp [intOf]; omega⟩
      · rw [hstep, hh, Option.bind_none] at hdec
        simp only at hv0 hcd hv256
        have hlow := low_any c.toNat hc256
        generalize c.toNat ||| 32 = v at *
        have ic0 : ¬ ((48 : Int) ≤ (c.toNat : Int) ∧ (c.toNat : Int) ≤ 57) := by omega
        have iv0 : (0 : Int) ≤ (v : Int) := by omega
        have iv1 : (v : Int) < 256 := by omega
        have HV := Aside0.mk hv0
        clear hacc ha hacc4 hpow hstep hh hv0
        have hl95 : ∀ W, Calls Tryz.prog 99 #[.int .u8 95] W fun e w' => e = .returned (.int .u8 127) ∧ w' = W := fun W => low_any 95 (by decide) W
        go_wp2_with (go_at_call 99; (first | refine (hlow _).mono ?_ | refine (hl95 _).mono ?_); rintro e w' ⟨rfl, rfl⟩)
        all_goals first
          | (exfalso; have := HV.out; omega)
          | (go_ret2; first | exact ⟨rfl, rfl⟩ | exact ⟨by rw [hdec]; rfl, rfl⟩)
    · have hkk : k = t.size := by omega
      subst hkk
      have hF : hexFrom acc (bs.drop t.size) = some acc := by rw [List.drop_eq_nil_of_le (by omega)]; rfl
      rw [hF] at hdec
      subst ha
      clear hacc hF
      go_wp2
      go_ret2
      exact ⟨rfl, rfl⟩

set_option maxHeartbeats 4000000 in
set_option maxRecDepth 100000 in
theorem syntax_any (fn s : ByteArray) (w : World) (hlim : s.size ≤ 281474976710656) (hv : Laid0 w) :
    Calls Tryz.prog 101 #[.string fn, .string s] w fun e w' => ∃ N, e = .returned (.pointer (some ⟨N, 0, none⟩)) ∧ w.heap.size ≤ N ∧ Below w.heap.size w w' := by
  obtain ⟨te, pe, hv⟩ := hv.syn
  have hG : 1 < w.heap.size := Lib.lt_of_cell hv
  have hvd : w.drew.cell? ⟨1, 0, none⟩ = some _ := hv
  go_enter Tryz.func101, Tryz.ntmps101
  go_wp2
  go_region_with (
      go_at_call 123
      refine (Tryz.stringslite_Clone s _ hlim).mono ?_
      rintro e w2 ⟨rfl, hbel⟩
      have hv2 : w2.cell? ⟨1, 0, none⟩ = some _ := (hbel.cell (show (⟨1, 0, none⟩ : Addr).block < w.drew.heap.size from hG)).trans hvd)
  all_goals (
    go_wp2
    go_ret
    have hs2 : w.heap.size ≤ w2.heap.size := hbel.size
    exact ⟨_, rfl, hs2, ((Below.drew (Below.refl _ w)).trans hbel).alloc hs2 _⟩)

set_option maxHeartbeats 4000000 in
set_option maxRecDepth 100000 in
theorem toErr_syntax (fn s : ByteArray) (base bits : Int) (w : World) (hlim : s.size ≤ 281474976710656) (hv : Laid0 w) :
    Calls Tryz.prog 70 #[.string fn, .string s, .int .i64 base, .int .i64 bits, .iface 131 (.int .i64 2)] w fun e w' => ∃ N, e = .returned (.iface 134 (.pointer (some ⟨N, 0, none⟩))) ∧ w.heap.size ≤ N ∧ Below w.heap.size w w' := by
  have heq : ∀ W, (binOp .eql 81 (.iface 131 (.int .i64 2)) (.iface 131 (.int .i64 2))).run Tryz.prog W = .ok (.bool true) W := fun W => Lib.run_eql_iface_int W 2 2 Tryz.underlying81 (by kernel_rfl) Tryz.underlying131
  go_enter Tryz.func70, Tryz.ntmps70
  go_wp2_with (go_at_call 101; refine (syntax_any fn s _ hlim ?_).mono ?_)
  · exact hv
  rintro e w2 ⟨N, rfl, h1, h3⟩
  go_wp2
  go_ret
  exact ⟨N, rfl, h1, h3⟩

theorem phx8_no (t : ByteArray) (h4 : t.size = 2) (hn : hexFrom 0 t.data.toList = none) (w : World) (hv : Laid0 w) :
    Calls Tryz.prog 40 #[.string t, .int .i64 16, .int .i64 8] w fun e w' => ∃ N, e = .returned (.tuple #[.int .u64 0, .iface 134 (.pointer (some ⟨N, 0, none⟩))]) ∧ Below w.heap.size w w' := by
  have h := hx8_any t h4 w
  rw [hn] at h
  have hb := Lib.bytesWorld_below w 5 t
  generalize Lib.bytesWorld w 5 t = W at *
  have hv2 := hv.later hb
  have HB := Aside0.mk hb
  have hlim : t.size ≤ 281474976710656 := by omega
  clear hb hn hv h4
  simp only [hexV] at h
  go_enter Tryz.func40, Tryz.ntmps40
  go_wp2_with (first | (go_at_call 69; refine h.mono ?_; rintro e w' ⟨rfl, rfl⟩) | (go_at_call 70; refine (toErr_syntax _ _ _ _ _ hlim hv2).mono ?_; rintro e w' ⟨N, rfl, hN, hb2⟩))
  go_ret2
  exact ⟨N, rfl, HB.out.trans (hb2.mono HB.out.size)⟩


/-- strconv.ParseUint(t, 16, 8), of two bytes. -/
theorem hex_two (t : ByteArray) (h4 : t.size = 2) (w : World) (hv : Laid0 w) :
    Calls Tryz.prog 40 #[.string t, .int .i64 16, .int .i64 8] w fun e w' => ∃ v, e = .returned (.tuple #[.int .u64 (((hexFrom 0 t.data.toList).getD 0 : Nat) : Int), v]) ∧ ErrV v (hexFrom 0 t.data.toList).isSome ∧ Below w.heap.size w w' := by
  cases hr : hexFrom 0 t.data.toList with
  | none =>
    refine (phx8_no t h4 hr w hv).mono ?_
    rintro e w' ⟨N, rfl, hb⟩
    exact ⟨_, rfl, .inr ⟨_, _, rfl, rfl⟩, hb⟩
  | some n =>
    have h := hx8_any t h4 w
    rw [hr] at h
    have hb := Lib.bytesWorld_below w 5 t
    generalize Lib.bytesWorld w 5 t = W at *
    have HB := Aside0.mk hb
    clear hb hr hv h4
    simp only [hexV] at h
    go_enter Tryz.func40, Tryz.ntmps40
    go_wp2_with (go_at_call 69; refine h.mono ?_; rintro e w' ⟨rfl, rfl⟩)
    go_ret2
    exact ⟨_, rfl, .inl ⟨rfl, rfl⟩, HB.out⟩
end Go.Proofs.YtddjhmelniphgaaGreatDoor.Print
