/- Contracts of strconv's road of the error: syntaxError, toError, and ParseUint of four bytes that are no digits of sixteen; runes.Hex at every text. -/
import Derived.Test.YtkcjekboakoejaaDoorHLaid
import Derived.Test.YtkcjekboakoejaaDoorHRHex
import Derived.Lib.IfaceEq
import Derived.Lib.Walk
import Derived.Lib.AtoiErrMem
import Derived.RegionTactic
import Derived.Deep.RegionWith
import Derived.BigGuard
namespace Go.Proofs.YtkcjekboakoejaaDoor.Print
open Go.RowKit Go.Shelf Go.Proofs.YtkcjekboakoejaaDoorW.PrintWords Go.Proofs.YtkcjekboakoejaaDoorW.PrintLast
set_option linter.unusedVariables false
set_option linter.unusedSimpArgs false

set_option maxHeartbeats 4000000 in
set_option maxRecDepth 100000 in
theorem syntax_any (fn s : ByteArray) (w : World) (hlim : s.size ≤ 281474976710656) (hv : Laid0 w) :
    Calls Tryd.prog 58 #[.string fn, .string s] w fun e w' => ∃ N, e = .returned (.pointer (some ⟨N, 0, none⟩)) ∧ w.heap.size ≤ N ∧ Below w.heap.size w w' := by
  obtain ⟨te, pe, hv⟩ := hv.1
  have hG : 1 < w.heap.size := Lib.lt_of_cell hv
  have hvd : w.drew.cell? ⟨1, 0, none⟩ = some _ := hv
  go_enter Tryd.func58, Tryd.ntmps58
  go_wp2
  go_region_with (
      go_at_call 67
      refine (Tryd.stringslite_Clone s _ hlim).mono ?_
      rintro e w2 ⟨rfl, hbel⟩
      have hv2 : w2.cell? ⟨1, 0, none⟩ = some _ := (hbel.cell (show (⟨1, 0, none⟩ : Addr).block < w.drew.heap.size from hG)).trans hvd)
  all_goals (
    go_wp2
    go_ret
    have hs2 : w.heap.size ≤ w2.heap.size := hbel.size
    exact ⟨_, rfl, hs2, ((Below.drew (Below.refl _ w)).trans hbel).alloc hs2 _⟩)

set_option maxHeartbeats 4000000 in
set_option maxRecDepth 100000 in
theorem toErr_syntax (fn s : ByteArray) (base bits : Int) (w : World) (hlim : s.size ≤ 281474976710656) (hv : Laid0 w) :
    Calls Tryd.prog 52 #[.string fn, .string s, .int .i64 base, .int .i64 bits, .iface 61 (.int .i64 2)] w fun e w' => ∃ N, e = .returned (.iface 63 (.pointer (some ⟨N, 0, none⟩))) ∧ w.heap.size ≤ N ∧ Below w.heap.size w w' := by
  have heq : ∀ W, (binOp .eql 50 (.iface 61 (.int .i64 2)) (.iface 61 (.int .i64 2))).run Tryd.prog W = .ok (.bool true) W := fun W => Lib.run_eql_iface_int W 2 2 Tryd.underlying50 (by kernel_rfl) Tryd.underlying61
  go_enter Tryd.func52, Tryd.ntmps52
  go_wp2_with (go_at_call 58; refine (syntax_any fn s _ hlim ?_).mono ?_)
  · exact hv
  rintro e w2 ⟨N, rfl, h1, h3⟩
  go_wp2
  go_ret
  exact ⟨N, rfl, h1, h3⟩

theorem ppu16_no (t : ByteArray) (h4 : t.size = 4) (hn : hexFrom 0 t.data.toList = none) (w : World) (hv : Laid0 w) :
    Calls Tryd.prog 43 #[.string t, .int .i64 16, .int .i64 16] w fun e w' => ∃ N, e = .returned (.tuple #[.int .u64 0, .iface 63 (.pointer (some ⟨N, 0, none⟩))]) ∧ Below w.heap.size w w' := by
  have h := pu16_any t h4 w
  rw [hn] at h
  have hb := Lib.bytesWorld_below w 5 t
  generalize Lib.bytesWorld w 5 t = W at *
  have hv2 := hv.later hb
  have HB := Aside0.mk hb
  have hlim : t.size ≤ 281474976710656 := by omega
  clear hb hn hv h4
  simp only [hexV] at h
  go_enter Tryd.func43, Tryd.ntmps43
  go_wp2_with (first | (go_at_call 51; refine h.mono ?_; rintro e w' ⟨rfl, rfl⟩) | (go_at_call 52; refine (toErr_syntax _ _ _ _ _ hlim hv2).mono ?_; rintro e w' ⟨N, rfl, hN, hb2⟩))
  go_ret2
  exact ⟨N, rfl, HB.out.trans (hb2.mono HB.out.size)⟩

/-- Four digits of sixteen, or none. -/
def hexAll (s : ByteArray) : Int × Bool := (hexR s).getD (0, false)
set_option maxRecDepth 100000 in
theorem hex_all (s : ByteArray) (w : World) (hv : Laid0 w) :
    Calls Tryd.prog 33 #[.string s] w fun e w' => e = .returned (.tuple #[.int .i32 (hexAll s).1, .bool (hexAll s).2]) ∧ Below w.heap.size w w' := by
  unfold hexAll
  cases hr : hexR s with
  | some r => exact hex_any s r hr w
  | none =>
    have h4 : ¬ s.size < 4 := fun h => by unfold hexR at hr; rw [if_pos h] at hr; cases hr
    unfold hexR at hr
    rw [if_neg h4, Option.map_eq_none_iff] at hr
    have hsz : (s.extract 0 4).size = 4 := by rw [ByteArray.size_extract]; omega
    have hp := ppu16_no (s.extract 0 4) hsz hr w hv
    have i4 : (4 : Int) ≤ (s.size : Int) := by omega
    have hw : IntKind.i32.wrap 0 = 0 := by decide
    clear hr hsz hv
    go_enter Tryd.func33, Tryd.ntmps33
    go_wp2_with (go_at_call 43; refine hp.mono ?_; rintro e w1 ⟨N, rfl, hb⟩)
    have HB := Aside0.mk hb
    clear hb hp
    go_region
    all_goals
      go_wp2
      refine bodyPost_ret (v := .tuple #[.int .i32 0, .bool false]) ?_ rfl ?_
      · simp [results, Tryd.results33, go_sem, hw]
      · exact ⟨rfl, by first | exact HB.out | exact HB.out.drew⟩
end Go.Proofs.YtkcjekboakoejaaDoor.Print
