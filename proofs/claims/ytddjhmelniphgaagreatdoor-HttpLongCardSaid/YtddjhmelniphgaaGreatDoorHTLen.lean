/- Contracts of strconv.ParseUint at base 10, and of http.length. -/
import Derived.Test.YtddjhmelniphgaaGreatDoorHTFmt
namespace Go.Proofs.YtddjhmelniphgaaGreatDoor.Print
open Go Go.RowKit Go.Proofs.YtddjhmelniphgaaGreatDoorW.PrintWords Go.Proofs.YtddjhmelniphgaaGreatDoorW.PrintLast
set_option linter.unusedVariables false
set_option linter.unusedSimpArgs false
/-- What ParseUint hands back; whether its error is nil. -/
def puV (B : Nat) (l : List UInt8) : Nat := match Lib.parseUintB B l with | .ok u => u | Lib.NumEnd.syntax => 0 | .range => 2 ^ B - 1
def puOk (B : Nat) (l : List UInt8) : Bool := match Lib.parseUintB B l with | .ok _ => true | _ => false
def ErrV (v : Value) (ok : Bool) : Prop := (v = .nilIface ∧ ok = true) ∨ (∃ t a, v = .iface t (.pointer (some a)) ∧ ok = false)
theorem pu32_any (s : List UInt8) (hs : s.length ≤ 4000000) (w : World) (HL : Laid0 w) :
    Calls Tryz.prog 40 #[.string (bs s), .int .i64 10, .int .i64 32] w fun e w' => ∃ v, e = .returned (.tuple #[.int .u64 (puV 32 s), v]) ∧ ErrV v (puOk 32 s) ∧ Below w.heap.size w w' := by
  have hz : (bs s).size = s.length := rfl
  match h : Lib.parseUintB 32 s with
  | .ok u =>
    have e1 : puV 32 s = u := by unfold puV; rw [h]
    have e2 : puOk 32 s = true := by unfold puOk; rw [h]
    rw [e1, e2]
    exact (Tryz.strconv_ParseUint_10_at32_ok (bs s) (by omega) u h w).mono fun e w' ⟨he, hw⟩ => ⟨_, he, .inl ⟨rfl, rfl⟩, hw.elim (fun h => h ▸ Below.refl _ _) (fun h => h ▸ Lib.bytesWorld_below _ _ _)⟩
  | Lib.NumEnd.syntax =>
    have e1 : puV 32 s = 0 := by unfold puV; rw [h]
    have e2 : puOk 32 s = false := by unfold puOk; rw [h]
    rw [e1, e2]
    obtain ⟨u, v, hc⟩ := HL.syn
    exact (Tryz.strconv_ParseUint_10_at32_syntax (bs s) (by omega) h _ w hc (.inr ⟨_, _, rfl⟩)).mono fun e w' ⟨N, he, _, _, hb⟩ => ⟨_, he, .inr ⟨_, _, rfl, rfl⟩, hb⟩
  | .range =>
    have e1 : puV 32 s = 4294967295 := by unfold puV; rw [h]
    have e2 : puOk 32 s = false := by unfold puOk; rw [h]
    rw [e1, e2]
    obtain ⟨u, v, hc⟩ := HL.rng
    exact (Tryz.strconv_ParseUint_10_at32_range (bs s) (by omega) h _ w hc (.inr ⟨_, _, rfl⟩)).mono fun e w' ⟨N, he, _, _, hb⟩ => ⟨_, he, .inr ⟨_, _, rfl, rfl⟩, hb⟩
theorem pu16_any (s : List UInt8) (hs : s.length ≤ 4000000) (w : World) (HL : Laid0 w) :
    Calls Tryz.prog 40 #[.string (bs s), .int .i64 10, .int .i64 16] w fun e w' => ∃ v, e = .returned (.tuple #[.int .u64 (puV 16 s), v]) ∧ ErrV v (puOk 16 s) ∧ Below w.heap.size w w' := by
  have hz : (bs s).size = s.length := rfl
  match h : Lib.parseUintB 16 s with
  | .ok u =>
    have e1 : puV 16 s = u := by unfold puV; rw [h]
    have e2 : puOk 16 s = true := by unfold puOk; rw [h]
    rw [e1, e2]
    exact (Tryz.strconv_ParseUint_10_at16_ok (bs s) (by omega) u h w).mono fun e w' ⟨he, hw⟩ => ⟨_, he, .inl ⟨rfl, rfl⟩, hw.elim (fun h => h ▸ Below.refl _ _) (fun h => h ▸ Lib.bytesWorld_below _ _ _)⟩
  | Lib.NumEnd.syntax =>
    have e1 : puV 16 s = 0 := by unfold puV; rw [h]
    have e2 : puOk 16 s = false := by unfold puOk; rw [h]
    rw [e1, e2]
    obtain ⟨u, v, hc⟩ := HL.syn
    exact (Tryz.strconv_ParseUint_10_at16_syntax (bs s) (by omega) h _ w hc (.inr ⟨_, _, rfl⟩)).mono fun e w' ⟨N, he, _, _, hb⟩ => ⟨_, he, .inr ⟨_, _, rfl, rfl⟩, hb⟩
  | .range =>
    have e1 : puV 16 s = 65535 := by unfold puV; rw [h]
    have e2 : puOk 16 s = false := by unfold puOk; rw [h]
    rw [e1, e2]
    obtain ⟨u, v, hc⟩ := HL.rng
    exact (Tryz.strconv_ParseUint_10_at16_range (bs s) (by omega) h _ w hc (.inr ⟨_, _, rfl⟩)).mono fun e w' ⟨N, he, _, _, hb⟩ => ⟨_, he, .inr ⟨_, _, rfl, rfl⟩, hb⟩
theorem puV_le {B : Nat} {l : List UInt8} : puV B l ≤ 2 ^ B - 1 := by
  unfold puV
  split
  · rename_i u h; exact Lib.parseUintB_le h
  · exact Nat.zero_le _
  · exact Nat.le_refl _
/-- What content-length says; none: it may not be. -/
def lengthL (s : List UInt8) : Option Nat := if puOk 32 s && decide (s.length ≤ 6) && ((bs (Lib.decDigits (puV 32 s))).toList == (bs s).toList) then some (puV 32 s) else none
def lengthPost (s : List UInt8) (w : World) (e : Ending) (w' : World) : Prop :=
  Below w.heap.size w w' ∧ match lengthL s with | some n => e = .returned (.int .i64 n) | none => e = .panicked (oops 291)
theorem lengthPost_none {s : List UInt8} {w w' : World} (h : lengthL s = none) (hb : Below w.heap.size w w') : lengthPost s w (.panicked (oops 291)) w' := ⟨hb, by rw [h]⟩
theorem lengthPost_some {s : List UInt8} {w w' : World} {n : Nat} (h : lengthL s = some n) (hb : Below w.heap.size w w') : lengthPost s w (.returned (.int .i64 n)) w' := ⟨hb, by rw [h]⟩
set_option maxRecDepth 100000 in
set_option maxHeartbeats 2000000 in
theorem length_any (s : List UInt8) (hs : s.length ≤ 4000000) (w : World) (HL : Laid0 w) : Calls Tryz.prog 60 #[.string (bs s)] w (lengthPost s w) := by
  have hpu := pu32_any s hs w HL
  have hle := puV_le (B := 32) (l := s)
  have hln : lengthL s = lengthL s := rfl
  conv at hln => rhs; unfold lengthL
  have HN := Aside0.mk hln
  have HL0 := Aside0.mk HL
  clear hln HL
  have hzi : ((bs s).size : Int) = (s.length : Int) := rfl
  have hfm := fun W (hb : Below w.heap.size w W) => fmtU_any (puV 32 s) (by omega) W (HL0.out.later hb)
  generalize (bs (Lib.decDigits (puV 32 s))) = fs at *
  generalize puV 32 s = u at *
  generalize puOk 32 s = ok at *
  have E1 := Aside0.mk (show (u : Int) < 9223372036854775808 by omega)
  clear hle
  cases ok with
  | false =>
    have HN2 := Aside0.mk (show lengthL s = none by rw [HN.out]; simp)
    go_enter Tryz.func60, Tryz.ntmps60
    go_wp2_with (first | (go_at_call 40; refine hpu.mono ?_; rintro e w1 ⟨v, rfl, he, hb1⟩; obtain ⟨t, a, rfl⟩ : ∃ t a, v = .iface t (.pointer (some a)) := by (rcases he with ⟨_, h⟩ | ⟨t, a, h, _⟩; cases h; exact ⟨t, a, h⟩)) | (go_at_call 44; refine (must_false 291 _).mono ?_; rintro e w2 ⟨rfl, rfl⟩))
    exact ⟨rfl, lengthPost_none HN2.out hb1⟩
  | true =>
    by_cases h6 : s.length ≤ 6
    · have h6i : (s.length : Int) ≤ 6 := by omega
      generalize hq : (fs.toList == (bs s).toList) = q at HN
      cases q with
      | true =>
        have HN2 := Aside0.mk (show lengthL s = some u by rw [HN.out]; simp [h6])
        have hwr : IntKind.i64.wrap (u : Int) = (u : Int) := by have := E1.out; rw [IntKind.wrap_i64]; omega
        go_enter Tryz.func60, Tryz.ntmps60
        go_wp2_with (first | (go_at_call 40; refine hpu.mono ?_; rintro e w1 ⟨v, rfl, he, hb1⟩; obtain rfl : v = .nilIface := by (rcases he with ⟨h, _⟩ | ⟨t, a, _, h⟩; exact h; cases h)) | (go_at_call 44; refine (must_true 291 _).mono ?_; rintro e w2 ⟨rfl, rfl⟩) | (go_at_call 92; refine (hfm _ hb1).mono ?_; rintro e w2 ⟨rfl, hb2⟩))
        go_ret
        exact lengthPost_some HN2.out (hb1.trans (hb2.mono hb1.size))
      | false =>
        have HN2 := Aside0.mk (show lengthL s = none by rw [HN.out]; simp)
        go_enter Tryz.func60, Tryz.ntmps60
        go_wp2_with (first | (go_at_call 40; refine hpu.mono ?_; rintro e w1 ⟨v, rfl, he, hb1⟩; obtain rfl : v = .nilIface := by (rcases he with ⟨h, _⟩ | ⟨t, a, _, h⟩; exact h; cases h)) | (go_at_call 44; refine (must_false 291 _).mono ?_; rintro e w2 ⟨rfl, rfl⟩) | (go_at_call 92; refine (hfm _ hb1).mono ?_; rintro e w2 ⟨rfl, hb2⟩))
        exact ⟨rfl, lengthPost_none HN2.out (hb1.trans (hb2.mono hb1.size))⟩
    · have HN2 := Aside0.mk (show lengthL s = none by rw [HN.out]; simp [h6])
      have h6i : ¬ ((s.length : Int) ≤ 6) := by omega
      go_enter Tryz.func60, Tryz.ntmps60
      go_wp2_with (first | (go_at_call 40; refine hpu.mono ?_; rintro e w1 ⟨v, rfl, he, hb1⟩; obtain rfl : v = .nilIface := by (rcases he with ⟨h, _⟩ | ⟨t, a, _, h⟩; exact h; cases h)) | (go_at_call 44; refine (must_false 291 _).mono ?_; rintro e w2 ⟨rfl, rfl⟩))
      exact ⟨rfl, lengthPost_none HN2.out hb1⟩
end Go.Proofs.YtddjhmelniphgaaGreatDoor.Print
