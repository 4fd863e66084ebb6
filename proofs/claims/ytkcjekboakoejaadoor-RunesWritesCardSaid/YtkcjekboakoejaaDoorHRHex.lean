/- Contract of runes.Hex: the number of four digits of sixteen; where they are none, nothing is said here (of a text of less than four bytes it is told that they are none). -/
import Derived.Test.YtkcjekboakoejaaDoorHRPu
import Derived.Test.YtkcjekboakoejaaDoorHRFirst
import Derived.Lib.AtoiErrMem
namespace Go.Proofs.YtkcjekboakoejaaDoor.Print
open Go.RowKit Go.Proofs.YtkcjekboakoejaaDoorW.PrintWords Go.Proofs.YtkcjekboakoejaaDoorW.PrintLast
set_option linter.unusedVariables false
set_option linter.unusedSimpArgs false

theorem hexD_lt {c d : Nat} (h : hexD c = some d) : d ≤ 15 := by
  unfold hexD at h
  split at h
  · cases h; omega
  · split at h
    · cases h; omega
    · split at h
      · cases h; omega
      · cases h
theorem hexFrom_lt : ∀ (l : List UInt8) (acc n : Nat), hexFrom acc l = some n → n < (acc + 1) * 16 ^ l.length := by
  intro l
  induction l with
  | nil => intro acc n h; simp only [hexFrom, Option.some.injEq] at h; simp [h]
  | cons c r ih =>
    intro acc n h
    simp only [hexFrom, Option.bind_eq_some_iff] at h
    obtain ⟨d, hd, h⟩ := h
    have h1 := ih _ _ h
    have h2 := hexD_lt hd
    refine Nat.lt_of_lt_of_le h1 ?_
    rw [List.length_cons, Nat.pow_succ, Nat.mul_comm (16 ^ r.length), ← Nat.mul_assoc]
    exact Nat.mul_le_mul_right _ (by omega)
theorem ppu16_any (t : ByteArray) (h4 : t.size = 4) (n : Nat) (hn : hexFrom 0 t.data.toList = some n) (w : World) :
    Calls Tryd.prog 43 #[.string t, .int .i64 16, .int .i64 16] w fun e w' => e = .returned (.tuple #[.int .u64 n, .nilIface]) ∧ Below w.heap.size w w' := by
  have h := pu16_any t h4 w
  rw [hn] at h
  have hb := Lib.bytesWorld_below w 5 t
  generalize Lib.bytesWorld w 5 t = W at *
  have HB := Aside0.mk hb
  clear hb hn
  simp only [hexV] at h
  go_enter Tryd.func43, Tryd.ntmps43
  go_wp2_with (go_at_call 51; refine h.mono ?_; rintro e w' ⟨rfl, rfl⟩)
  go_ret2
  exact ⟨rfl, HB.out⟩
def hexR (s : ByteArray) : Option (Int × Bool) := if s.size < 4 then some (0, false) else (hexFrom 0 (s.extract 0 4).data.toList).map fun (n : Nat) => ((n : Int), true)
set_option maxRecDepth 100000 in
theorem hex_any (s : ByteArray) (r : Int × Bool) (hr : hexR s = some r) (w : World) :
    Calls Tryd.prog 33 #[.string s] w fun e w' => e = .returned (.tuple #[.int .i32 r.1, .bool r.2]) ∧ Below w.heap.size w w' := by
  by_cases h4 : s.size < 4
  · obtain rfl : (0, false) = r := by
      unfold hexR at hr
      rw [if_pos h4] at hr
      exact Option.some.inj hr
    have i4 : (s.size : Int) < 4 := by omega
    clear hr
    go_enter Tryd.func33, Tryd.ntmps33
    go_wp2
    refine bodyPost_ret (v := .tuple #[.int .i32 0, .bool false]) ?_ rfl ?_
    · simp [results, Tryd.results33, go_sem]
    · exact ⟨rfl, Below.refl _ _⟩
  · unfold hexR at hr
    rw [if_neg h4, Option.map_eq_some_iff] at hr
    obtain ⟨n, hn, rfl⟩ := hr
    have hsz : (s.extract 0 4).size = 4 := by rw [ByteArray.size_extract]; omega
    have hlt := hexFrom_lt _ _ _ hn
    rw [Array.length_toList] at hlt
    have hlt2 : n < 65536 := by
      have e : (s.extract 0 4).data.size = 4 := hsz
      rw [e] at hlt
      omega
    have hp := ppu16_any (s.extract 0 4) hsz n hn
    have i4 : (4 : Int) ≤ (s.size : Int) := by omega
    have hw : IntKind.i32.wrap (n : Int) = (n : Int) := by
      rw [IntKind.wrap_i32]
      omega
    clear hlt hn hsz
    go_enter Tryd.func33, Tryd.ntmps33
    go_wp2_with (go_at_call 43; refine (hp _).mono ?_; rintro e w1 ⟨rfl, hb⟩)
    have HB := Aside0.mk hb
    clear hb hp
    go_region
    all_goals
      go_wp2
      refine bodyPost_ret (v := .tuple #[.int .i32 (n : Int), .bool true]) ?_ rfl ?_
      · simp [results, Tryd.results33, go_sem, hw]
      · exact ⟨rfl, by first | exact HB.out | exact HB.out.drew⟩
end Go.Proofs.YtkcjekboakoejaaDoor.Print
