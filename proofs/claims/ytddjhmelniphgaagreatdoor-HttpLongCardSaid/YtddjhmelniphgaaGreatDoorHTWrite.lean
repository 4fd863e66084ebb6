/- The contract of http.write. -/
import Derived.Test.YtddjhmelniphgaaGreatDoorHAn
import Derived.Test.YtddjhmelniphgaaGreatDoorHLb
import Derived.Test.YtddjhmelniphgaaGreatDoorHTAsc
import Derived.Test.YtddjhmelniphgaaGreatDoorHTItoa
import Derived.Test.YtddjhmelniphgaaGreatDoorHBld
import Derived.Test.YtddjhmelniphgaaGreatDoorHSq
import Derived.Test.YtddjhmelniphgaaGreatDoorPrint0
import Derived.Lib.ItoaLen
import Derived.RegionTactic
import Derived.ChangeAlike
namespace Go.Proofs.YtddjhmelniphgaaGreatDoor.Print
open Go Go.RowKit Go.Proofs.YtddjhmelniphgaaGreatDoorW.PrintWords Go.Proofs.YtddjhmelniphgaaGreatDoorW.PrintLast
set_option linter.unusedVariables false
set_option linter.unusedSimpArgs false
abbrev clT : List UInt8 := [99, 111, 110, 116, 101, 110, 116, 45, 108, 101, 110, 103, 116, 104]
abbrev teT : List UInt8 := [116, 114, 97, 110, 115, 102, 101, 114, 45, 101, 110, 99, 111, 100, 105, 110, 103]
/-- Whether a header may be written. -/
def okHd (h : S59) : Bool := tokenB h.f0 && (((bs (lowA h.f0.data.toList)).toList == h.f0.toList) && (!(h.f0.toList == ([99, 111, 110, 116, 101, 110, 116, 45, 108, 101, 110, 103, 116, 104] : List UInt8)) && (!(h.f0.toList == ([116, 114, 97, 110, 115, 102, 101, 114, 45, 101, 110, 99, 111, 100, 105, 110, 103] : List UInt8)) && valueB h.f1)))
def hdT (h : S59) : ByteArray := h.f0 ++ ⟨#[58, 32]⟩ ++ h.f1 ++ ⟨#[13, 10]⟩
def hdsL (l : List S59) : List UInt8 := l.flatMap fun h => (hdT h).data.toList
/-- What holds between the rounds. -/
structure WInv (w : World) (pre : List UInt8) (l : List S59) (k : Nat) (W : World) : Prop where
  bld : Bld (w.heap.size + 1) w.heap.size (pre ++ hdsL (l.take k)) W
  bel : Below w.heap.size w W
  big : w.heap.size + 1 ≤ W.heap.size
theorem WInv.below {w W W' : World} {pre : List UInt8} {l : List S59} {k : Nat} (h : WInv w pre l k W) (hb : Below W.heap.size W W') : WInv w pre l k W' :=
  ⟨h.bld.later hb, h.bel.trans (hb.mono h.bel.size), Nat.le_trans h.big hb.size⟩
def lenT (body : ByteArray) : ByteArray := ⟨#[99, 111, 110, 116, 101, 110, 116, 45, 108, 101, 110, 103, 116, 104, 58, 32]⟩ ++ itoaN body.size ++ ⟨#[13, 10, 13, 10]⟩
def headT (line : ByteArray) (l : List S59) (body : ByteArray) : List UInt8 := (line ++ ⟨#[13, 10]⟩).data.toList ++ hdsL l ++ (lenT body).data.toList
/-- http.write, in plain words. -/
def writeN (line : ByteArray) (l : List S59) (body : ByteArray) : ByteArray × Int :=
  if (decide (l.length < 64) && decide (body.size ≤ 65536) && l.all okHd && decide ((headT line l body).length ≤ 8192)) = true then (⟨(headT line l body).toArray⟩ ++ body, 0) else (ByteArray.empty, 2)
theorem hdsL_snoc (l : List S59) (k : Nat) (h : k < l.length) : hdsL (l.take (k + 1)) = hdsL (l.take k) ++ (hdT (l.getD k z59)).data.toList := by
  rw [List.take_succ_eq_append_getElem h, hdsL, List.flatMap_append]; simp [hdsL, h]
theorem all_snoc (l : List S59) (k : Nat) (h : k < l.length) : (l.take (k + 1)).all okHd = ((l.take k).all okHd && okHd (l.getD k z59)) := by
  rw [List.take_succ_eq_append_getElem h, List.all_append]; simp [h]
theorem hdsL_le : ∀ (l : List S59) (k : Nat), (hdsL (l.take k)).length ≤ (hdsL l).length
  | [], k => by simp
  | x :: r, 0 => by simp [hdsL]
  | x :: r, k + 1 => by have := hdsL_le r k; simp only [hdsL, List.take_succ_cons, List.flatMap_cons, List.length_append] at this ⊢; omega
theorem crlf_size : (⟨#[13, 10]⟩ : ByteArray).size = 2 := rfl
theorem hdT_size (h : S59) : (hdT h).data.toList.length = h.f0.size + h.f1.size + 4 := by
  have : (hdT h).size = h.f0.size + h.f1.size + 4 := by
    have e1 : (⟨#[58, 32]⟩ : ByteArray).size = 2 := rfl
    have e2 : (⟨#[13, 10]⟩ : ByteArray).size = 2 := rfl
    simp only [hdT, ByteArray.size_append, e1, e2]; omega
  simpa using this
theorem hdT_le (l : List S59) (k : Nat) (h : k < l.length) : (hdsL (l.take k)).length + ((l.getD k z59).f0.size + (l.getD k z59).f1.size + 4) ≤ (hdsL l).length := by
  have h1 := hdsL_le l (k + 1)
  rw [hdsL_snoc l k h, List.length_append, hdT_size] at h1
  exact h1
theorem bbd (a : List UInt8) (s : ByteArray) : (a ++ s.data.toList).length = a.length + s.size := by simp
set_option maxRecDepth 100000 in
set_option maxHeartbeats 4000000 in
theorem write_any (line : ByteArray) (A : Option Addr) (c : Nat) (l : List S59) (body : ByteArray) (w : World) (hr : Kd.C k59 w A l.length l) (hc : l.length ≤ c) (hn1 : line.size ≤ 1048576) (hn2 : (hdsL l).length ≤ 1048576) (hn3 : body.size ≤ 1048576) (hn4 : l.length ≤ 1048576) (HL : Laid0 w) :
    Calls Tryz.prog 51 #[.string line, .slice A l.length c, .string body] w fun e w' => e = .returned (.tuple #[.string (writeN line l body).1, .int .i64 (writeN line l body).2]) ∧ Below w.heap.size w w' := by
  have HR := Aside0.mk hr
  clear hr
  obtain ⟨W1, hW1⟩ : ∃ W1, W1 = w.alloc (.cells #[.pointer none, .slice none 0 0] 109) := ⟨_, rfl⟩
  have hbl : Bld (w.heap.size + 1) w.heap.size [] W1 := by rw [hW1]; exact bld_new w _
  have hbel : Below w.heap.size w W1 := by rw [hW1]; exact below_alloc (Below.refl _ _) _
  have hsz : W1.heap.size = w.heap.size + 1 := by rw [hW1]; simp
  have hws := wstr_any (w.heap.size + 1) w.heap.size [] (line ++ ⟨#[13, 10]⟩) W1 hbl (by rw [ByteArray.size_append, crlf_size, List.length_nil]; omega) zy4
  rw [hW1] at hws
  have HB1 := Aside0.mk hbel
  have HZ1 := Aside0.mk hsz
  clear hbl hbel hsz
  obtain ⟨n, hn⟩ : ∃ n, n = l.length := ⟨_, rfl⟩
  have HN := Aside0.mk hn
  have HSZ := Aside0.mk (show line.size ≤ 1048576 ∧ (hdsL l).length ≤ 1048576 ∧ body.size ≤ 1048576 from ⟨hn1, hn2, hn3⟩)
  rw [← hn] at hc hn4 ⊢
  have k1 : ¬ 9223372036854775807 < line.size + 2 := by omega
  obtain ⟨b0, hb0⟩ : ∃ b0, b0 = (decide (l.length < 64) && decide (body.size ≤ 65536)) := ⟨_, rfl⟩
  have HB0 := Aside0.mk hb0
  clear hb0 hn hn1 hn2 hn3
  subst hW1
  go_enter Tryz.func51, Tryz.ntmps51
  go_wp2_with (go_at_call 75; go_loud ((with_reducible refine hws.mono ?_); rintro e w2 ⟨rfl, h2⟩; have H2 := Aside0.mk h2; clear h2))
  all_goals
    have hW := WInv.mk (w := w) (pre := (line ++ ⟨#[13, 10]⟩).data.toList) (l := l) (k := 0) (W := w2) (by have := H2.out.bld; simpa [hdsL] using this) (HB1.out.trans (H2.out.kept.below zy4 (Nat.le_refl _) (by have := HZ1.out; omega))) (by have := H2.out.kept.size; have := HZ1.out; omega)
    have HW := Aside0.mk hW
    clear hW H2 HB1 HZ1 hws k1
    have hpl : (line ++ (⟨#[13, 10]⟩ : ByteArray)).data.toList.length = line.size + 2 := by
      have := ByteArray.size_append (a := line) (b := ⟨#[13, 10]⟩)
      rw [crlf_size] at this
      simp
    have HEAD := Aside0.mk (show headT line l body = (line ++ (⟨#[13, 10]⟩ : ByteArray)).data.toList ++ hdsL l ++ (lenT body).data.toList from rfl)
    generalize (line ++ (⟨#[13, 10]⟩ : ByteArray)).data.toList = pre at *
    have HPL := Aside0.mk hpl
    clear hpl
    go_loopg [9, 25] n (fun gg s9 s25 wr => ∃ kk : Nat, kk ≤ n ∧ n - kk ≤ gg ∧ s9 = .bool (b0 && (l.take kk).all okHd) ∧ s25 = .int .i64 kk ∧ Aside0 (WInv w pre l kk wr))
    case atStart => exact ⟨0, Nat.zero_le _, by omega, by rw [HB0.out, List.take_zero, List.all_nil, Bool.and_true]; congr 1; have h1 := HN.out; by_cases h2 : l.length < 64 <;> by_cases h3 : body.size ≤ 65536 <;> simp [h2, h3] <;> omega, rfl, HW⟩
    case round =>
      clear HW
      obtain ⟨kk, hkk, hgg, rfl, rfl, HW⟩ := hrel
      by_cases hlt : kk < n
      · have hltz : (kk : Int) < (n : Int) := by omega
        have hkl : kk < l.length := by have := HN.out; omega
        obtain ⟨ad, rfl, x0, x1⟩ := at_T59 (Kd.C_below HR.out HW.out.bel) (kk : Int) zy4 (by have := HN.out; omega)
        have hz : rd_T59 l kk = l.getD kk z59 := by simp [rd_T59]
        have hsn := hdsL_snoc l kk hkl
        have hal := all_snoc l kk hkl
        have hle := hdT_le l kk hkl
        rw [hz] at x0 x1
        simp only [Int.toNat_natCast] at x0 x1
        obtain ⟨nm, hnm⟩ : ∃ nm, nm = (l.getD kk z59).f0 := ⟨_, rfl⟩
        obtain ⟨vl, hvl⟩ : ∃ vl, vl = (l.getD kk z59).f1 := ⟨_, rfl⟩
        have hhd : l.getD kk z59 = ⟨nm, vl⟩ := by rw [hnm, hvl]
        rw [hhd] at hsn hal hle
        rw [← hnm] at x0
        rw [← hvl] at x1
        have hok : okHd ⟨nm, vl⟩ = (tokenB nm && (((bs (lowA nm.data.toList)).toList == nm.toList) && (!(nm.toList == ([99, 111, 110, 116, 101, 110, 116, 45, 108, 101, 110, 103, 116, 104] : List UInt8)) && (!(nm.toList == ([116, 114, 97, 110, 115, 102, 101, 114, 45, 101, 110, 99, 111, 100, 105, 110, 103] : List UInt8)) && valueB vl)))) := rfl
        rw [hok] at hal
        have HSN := Aside0.mk hsn
        have HAL := Aside0.mk hal
        have HLE := Aside0.mk (show (hdsL (l.take kk)).length + (nm.size + vl.size + 4) ≤ (hdsL l).length from hle)
        clear hz hsn hal hle hnm hvl hhd hok hkl
        have BK := Aside0.mk (blk_new wr (.cells #[.string nm, .string vl] 59))
        have HWU := Aside0.mk (HW.out.below (below_alloc (Below.refl _ wr) (.cells #[.string nm, .string vl] 59)))
        clear HW
        obtain ⟨ba, hba⟩ : ∃ ba, ba = (b0 && (l.take kk).all okHd) := ⟨_, rfl⟩
        have HBA := Aside0.mk hba
        rw [← hba]
        clear hba
        go_wp2
        generalize wr.alloc (.cells #[.string nm, .string vl] 59) = wu at HWU BK ⊢
        generalize wr.heap.size = gu at BK ⊢
        clear x0 x1 wr
        go_cut [9] (fun s9 wx => s9 = .bool (b0 && (l.take (kk + 1)).all okHd) ∧ Aside0 (Below wu.heap.size wu wx))
        case first =>
          have HB := Aside0.mk (Below.refl wu.heap.size wu)
          have hgu : gu < wu.heap.size := blk_lt BK.out
          have d0 : wu.cell? ⟨gu, 0, none⟩ = some (.string nm) := blk_cell BK.out 0
          have d1 : wu.cell? ⟨gu, 1, none⟩ = some (.string vl) := blk_cell BK.out 1
          have HSS := Aside0.mk (fun W (hb : Below wu.heap.size wu W) => show W.cell? ⟨gu, 0, none⟩ = some (.string nm) ∧ W.cell? ⟨gu, 1, none⟩ = some (.string vl) from ⟨(hb.cell (p := ⟨gu, 0, none⟩) hgu).trans d0, (hb.cell (p := ⟨gu, 1, none⟩) hgu).trans d1⟩)
          have HTK := Aside0.mk (fun W => token_any nm W)
          have HLOW0 := Aside0.mk (fun (h : tokenB nm = true) W => lower_any nm.data.toList (by have := HLE.out; have := HSZ.out.2.1; simp; omega) h W)
          have HVAL := Aside0.mk (fun W => value_any vl (by have := HLE.out; have := HSZ.out.2.1; omega) W)
          have HAL2 := Aside0.mk (show (b0 && (l.take (kk + 1)).all okHd) = (ba && (tokenB nm && (((bs (lowA nm.data.toList)).toList == nm.toList) && (!(nm.toList == ([99, 111, 110, 116, 101, 110, 116, 45, 108, 101, 110, 103, 116, 104] : List UInt8)) && (!(nm.toList == ([116, 114, 97, 110, 115, 102, 101, 114, 45, 101, 110, 99, 111, 100, 105, 110, 103] : List UInt8)) && valueB vl))))) by rw [HAL.out, HBA.out, Bool.and_assoc])
          clear hgu d0 d1 HAL
          rw [bs_of] at HLOW0
          generalize tokenB nm = tk at HTK HLOW0 HAL2
          generalize bs (lowA nm.data.toList) = lo at HLOW0 HAL2
          generalize valueB vl = vb at HVAL HAL2
          cases ba with
          | false =>
            refine start_ (n := 30) (S := fun W => W.cell? ⟨gu, 0, none⟩ = some (.string nm) ∧ W.cell? ⟨gu, 1, none⟩ = some (.string vl)) (ds := []) (lb 30 0) (by kernel_rfl) rfl rfl (HSS.out _ zy0) (fun hHeld => ?_)
            replace HB := Aside0.mk (below_drew1 HB.out)
            generalize wu.drew = wud at HB hHeld ⊢
            refine pure_ (i := 0) (N := some 29) (v := ?_) (a' := ?_) (lb 30 1) rfl rfl (by kernel_rfl) (fun _ _ _ h => h) (Or.inl ⟨by rfl, ?_⟩) ?_ ?_
            rotate_left
            · intro w'
              go_simp
              with_reducible rfl
            rotate_left
            · simp only [Act.put, zS, zT, zU, zV, zW]
              rfl
            refine pure_ (i := 1) (N := some 30) (v := ?_) (a' := ?_) (lb 30 3) rfl rfl (by kernel_rfl) (fun _ _ _ h => h) (Or.inl ⟨by rfl, ?_⟩) ?_ ?_
            rotate_left
            · intro w'
              go_simp
              with_reducible rfl
            rotate_left
            · simp only [Act.put, zS, zT, zU, zV, zW]
              rfl
            refine pure_ (i := 2) (N := some 31) (v := undef) (a' := ?_) (lb 30 7) rfl rfl (by kernel_rfl) (fun _ _ _ h => h) (Or.inr ⟨by rfl, rfl⟩) ?_ ?_
            rotate_left
            · simp only [Act.put, zS, zT, zU, zV, zW]
              rfl
            refine pure_ (i := 3) (N := some 32) (v := undef) (a' := ?_) (lb 30 15) rfl rfl (by kernel_rfl) (fun _ _ _ h => h) (Or.inr ⟨by rfl, rfl⟩) ?_ ?_
            rotate_left
            · simp only [Act.put, zS, zT, zU, zV, zW]
              rfl
            refine pure_ (i := 4) (N := some 33) (v := undef) (a' := ?_) (lb 30 31) rfl rfl (by kernel_rfl) (fun _ _ _ h => h) (Or.inr ⟨by rfl, rfl⟩) ?_ ?_
            rotate_left
            · simp only [Act.put, zS, zT, zU, zV, zW]
              rfl
            refine pure_ (i := 5) (N := some 34) (v := ?_) (a' := ?_) (lb 30 63) rfl rfl (by kernel_rfl) (fun _ _ _ h => h) (Or.inl ⟨by rfl, ?_⟩) ?_ ?_
            rotate_left
            · intro w'
              go_simp
              with_reducible rfl
            rotate_left
            · simp only [Act.put, zS, zT, zU, zV, zW]
              rfl
            refine pure_ (i := 6) (N := some 35) (v := ?_) (a' := ?_) (lb 30 127) rfl rfl (by kernel_rfl) (fun _ _ _ h => h) (Or.inl ⟨by rfl, ?_⟩) ?_ ?_
            rotate_left
            · intro w'
              go_simp
              with_reducible rfl
            rotate_left
            · simp only [Act.put, zS, zT, zU, zV, zW]
              rfl
            refine pure_ (i := 7) (N := some 36) (v := undef) (a' := ?_) (lb 30 255) rfl rfl (by kernel_rfl) (fun _ _ _ h => h) (Or.inr ⟨by rfl, rfl⟩) ?_ ?_
            rotate_left
            · simp only [Act.put, zS, zT, zU, zV, zW]
              rfl
            refine pure_ (i := 8) (N := some 37) (v := undef) (a' := ?_) (lb 30 511) rfl rfl (by kernel_rfl) (fun _ _ _ h => h) (Or.inr ⟨by rfl, rfl⟩) ?_ ?_
            rotate_left
            · simp only [Act.put, zS, zT, zU, zV, zW]
              rfl
            refine pure_ (i := 9) (N := some 38) (v := undef) (a' := ?_) (lb 30 1023) rfl rfl (by kernel_rfl) (fun _ _ _ h => h) (Or.inr ⟨by rfl, rfl⟩) ?_ ?_
            rotate_left
            · simp only [Act.put, zS, zT, zU, zV, zW]
              rfl
            refine pure_ (i := 10) (N := some 39) (v := undef) (a' := ?_) (lb 30 2047) rfl rfl (by kernel_rfl) (fun _ _ _ h => h) (Or.inr ⟨by rfl, rfl⟩) ?_ ?_
            rotate_left
            · simp only [Act.put, zS, zT, zU, zV, zW]
              rfl
            refine pure_ (i := 11) (N := some 40) (v := undef) (a' := ?_) (lb 30 4095) rfl rfl (by kernel_rfl) (fun _ _ _ h => h) (Or.inr ⟨by rfl, rfl⟩) ?_ ?_
            rotate_left
            · simp only [Act.put, zS, zT, zU, zV, zW]
              rfl
            refine pure_ (i := 12) (N := some 41) (v := undef) (a' := ?_) (lb 30 8191) rfl rfl (by kernel_rfl) (fun _ _ _ h => h) (Or.inr ⟨by rfl, rfl⟩) ?_ ?_
            rotate_left
            · simp only [Act.put, zS, zT, zU, zV, zW]
              rfl
            refine pure_ (i := 13) (N := some 42) (v := ?_) (a' := ?_) (lb 30 16383) rfl rfl (by kernel_rfl) (fun _ _ _ h => h) (Or.inl ⟨by rfl, ?_⟩) ?_ ?_
            rotate_left
            · intro w'
              go_simp
              with_reducible rfl
            rotate_left
            · simp only [Act.put, zS, zT, zU, zV, zW]
              rfl
            refine pure_ (i := 14) (N := some 43) (v := ?_) (a' := ?_) (lb 30 32767) rfl rfl (by kernel_rfl) (fun _ _ _ h => h) (Or.inl ⟨by rfl, ?_⟩) ?_ ?_
            rotate_left
            · intro w'
              go_simp
              with_reducible rfl
            rotate_left
            · simp only [Act.put, zS, zT, zU, zV, zW]
              rfl
            refine pure_ (i := 15) (N := some 44) (v := undef) (a' := ?_) (lb 30 65535) rfl rfl (by kernel_rfl) (fun _ _ _ h => h) (Or.inr ⟨by rfl, rfl⟩) ?_ ?_
            rotate_left
            · simp only [Act.put, zS, zT, zU, zV, zW]
              rfl
            refine pure_ (i := 16) (N := some 45) (v := undef) (a' := ?_) (lb 30 131071) rfl rfl (by kernel_rfl) (fun _ _ _ h => h) (Or.inr ⟨by rfl, rfl⟩) ?_ ?_
            rotate_left
            · simp only [Act.put, zS, zT, zU, zV, zW]
              rfl
            refine pure_ (i := 17) (N := some 46) (v := undef) (a' := ?_) (lb 30 262143) rfl rfl (by kernel_rfl) (fun _ _ _ h => h) (Or.inr ⟨by rfl, rfl⟩) ?_ ?_
            rotate_left
            · simp only [Act.put, zS, zT, zU, zV, zW]
              rfl
            refine pure_ (i := 18) (N := some 47) (v := ?_) (a' := ?_) (lb 30 524287) rfl rfl (by kernel_rfl) (fun _ _ _ h => h) (Or.inl ⟨by rfl, ?_⟩) ?_ ?_
            rotate_left
            · intro w'
              go_simp
              with_reducible rfl
            rotate_left
            · simp only [Act.put, zS, zT, zU, zV, zW]
              rfl
            refine pure_ (i := 19) (N := some 48) (v := ?_) (a' := ?_) (lb 30 1048575) rfl rfl (by kernel_rfl) (fun _ _ _ h => h) (Or.inl ⟨by rfl, ?_⟩) ?_ ?_
            rotate_left
            · intro w'
              go_simp
              with_reducible rfl
            rotate_left
            · simp only [Act.put, zS, zT, zU, zV, zW]
              rfl
            refine pure_ (i := 20) (N := some 49) (v := undef) (a' := ?_) (lb 30 2097151) rfl rfl (by kernel_rfl) (fun _ _ _ h => h) (Or.inr ⟨by rfl, rfl⟩) ?_ ?_
            rotate_left
            · simp only [Act.put, zS, zT, zU, zV, zW]
              rfl
            refine pure_ (i := 21) (N := some 50) (v := undef) (a' := ?_) (lb 30 4194303) rfl rfl (by kernel_rfl) (fun _ _ _ h => h) (Or.inr ⟨by rfl, rfl⟩) ?_ ?_
            rotate_left
            · simp only [Act.put, zS, zT, zU, zV, zW]
              rfl
            refine pure_ (i := 22) (N := some 51) (v := undef) (a' := ?_) (lb 30 8388607) rfl rfl (by kernel_rfl) (fun _ _ _ h => h) (Or.inr ⟨by rfl, rfl⟩) ?_ ?_
            rotate_left
            · simp only [Act.put, zS, zT, zU, zV, zW]
              rfl
            refine pure_ (i := 23) (N := some 52) (v := ?_) (a' := ?_) (lb 30 16777215) rfl rfl (by kernel_rfl) (fun _ _ _ h => h) (Or.inl ⟨by rfl, ?_⟩) ?_ ?_
            rotate_left
            · intro w'
              go_simp
              with_reducible rfl
            rotate_left
            · simp only [Act.put, zS, zT, zU, zV, zW]
              rfl
            refine pure_ (i := 24) (N := some 53) (v := ?_) (a' := ?_) (lb 30 33554431) rfl rfl (by kernel_rfl) (fun _ _ _ h => h) (Or.inl ⟨by rfl, ?_⟩) ?_ ?_
            rotate_left
            · intro w'
              go_simp
              with_reducible rfl
            rotate_left
            · simp only [Act.put, zS, zT, zU, zV, zW]
              rfl
            refine pure_ (i := 25) (N := some 54) (v := undef) (a' := ?_) (lb 30 67108863) rfl rfl (by kernel_rfl) (fun _ _ _ h => h) (Or.inr ⟨by rfl, rfl⟩) ?_ ?_
            rotate_left
            · simp only [Act.put, zS, zT, zU, zV, zW]
              rfl
            refine pure_ (i := 26) (N := some 55) (v := undef) (a' := ?_) (lb 30 134217727) rfl rfl (by kernel_rfl) (fun _ _ _ h => h) (Or.inr ⟨by rfl, rfl⟩) ?_ ?_
            rotate_left
            · simp only [Act.put, zS, zT, zU, zV, zW]
              rfl
            refine pure_ (i := 27) (N := some 56) (v := undef) (a' := ?_) (lb 30 268435455) rfl rfl (by kernel_rfl) (fun _ _ _ h => h) (Or.inr ⟨by rfl, rfl⟩) ?_ ?_
            rotate_left
            · simp only [Act.put, zS, zT, zU, zV, zW]
              rfl
            refine pure_ (i := 28) (N := some 57) (v := ?_) (a' := ?_) (lb 30 536870911) rfl rfl (by kernel_rfl) (fun _ _ _ h => h) (Or.inl ⟨by rfl, ?_⟩) ?_ ?_
            rotate_left
            · intro w'
              go_simp
              with_reducible rfl
            rotate_left
            · simp only [Act.put, zS, zT, zU, zV, zW]
              rfl
            refine pure_ (i := 29) (N := some 9) (v := ?_) (a' := ?_) (lb 30 1073741823) rfl rfl (by kernel_rfl) (fun _ _ _ h => h) (Or.inl ⟨by rfl, ?_⟩) ?_ ?_
            rotate_left
            · intro w'
              go_simp
              with_reducible rfl
            rotate_left
            · simp only [Act.put, zS, zT, zU, zV, zW]
              rfl
            refine done_ (by kernel_rfl) ?_
            go_wp2
            go_meet
            exact ⟨by rw [HAL2.out]; simp, Aside0.mk HB.out⟩
          | true =>
            cases tk with
            | false =>
              refine start_ (n := 30) (S := fun W => W.cell? ⟨gu, 0, none⟩ = some (.string nm) ∧ W.cell? ⟨gu, 1, none⟩ = some (.string vl)) (ds := []) (lb 30 0) (by kernel_rfl) rfl rfl (HSS.out _ zy0) (fun hHeld => ?_)
              replace HB := Aside0.mk (below_drew1 HB.out)
              generalize wu.drew = wud at HB hHeld ⊢
              refine pure_ (i := 0) (N := some 29) (v := ?_) (a' := ?_) (lb 30 1) rfl rfl (by kernel_rfl) (fun _ _ _ h => h) (Or.inl ⟨by rfl, ?_⟩) ?_ ?_
              rotate_left
              · intro w'
                go_simp
                with_reducible rfl
              rotate_left
              · simp only [Act.put, zS, zT, zU, zV, zW]
                rfl
              refine pure_ (i := 1) (N := some 30) (v := ?_) (a' := ?_) (lb 30 3) rfl rfl (by kernel_rfl) (fun _ _ _ h => h) (Or.inl ⟨by rfl, ?_⟩) ?_ ?_
              rotate_left
              · intro w'
                go_simp
                with_reducible rfl
              rotate_left
              · simp only [Act.put, zS, zT, zU, zV, zW]
                rfl
              refine pure_ (i := 2) (N := some 31) (v := ?_) (a' := ?_) (lb 30 7) rfl rfl (by kernel_rfl) (fun _ _ _ h => h) (Or.inl ⟨by rfl, ?_⟩) ?_ ?_
              rotate_left
              · intro w'
                go_simp
                with_reducible rfl
              rotate_left
              · simp only [Act.put, zS, zT, zU, zV, zW]
                rfl
              refine take_ (i := 3) (N := some 32) (v := ?_) (a' := ?_) (lb 30 15) rfl rfl (by kernel_rfl) (fun _ _ _ h => h) (Or.inl ⟨by rfl, ?_⟩) hHeld ?_ ?_
              rotate_left
              · intro w' hS_
                (try dsimp only at hS_)
                obtain ⟨s0, s1⟩ := hS_
                go_simp
                with_reducible rfl
              rotate_left
              · simp only [Act.put, zS, zT, zU, zV, zW]
                rfl
              refine one_ (i := 4) (N := some 33) (lb 30 31) rfl rfl (by kernel_rfl) zy6 (fun K hK => ?_)
              refine goes_ Tryz.func31 (by kernel_rfl) rfl #[.string nm] (by rfl) rfl rfl zy5 ?_
              refine (HTK.out _).mono ?_
              rintro e wv1 ⟨rfl, hb⟩
              refine ⟨_, rfl, ?_⟩
              replace HB := Aside0.mk (below_step HB.out hb)
              clear hb
              refine hK.out _ _ (HSS.out _ zy0) (fun hHeld => ?_)
              clear hK K
              refine norm_ (a' := ?_) ?_ ?_
              rotate_left
              · show Act.put _ (some 33) _ = _
                simp only [Act.put, zS, zT, zU, zV, zW]
                rfl
              refine pure_ (i := 5) (N := some 34) (v := ?_) (a' := ?_) (lb 30 63) rfl rfl (by kernel_rfl) (fun _ _ _ h => h) (Or.inl ⟨by rfl, ?_⟩) ?_ ?_
              rotate_left
              · intro w'
                go_simp
                with_reducible rfl
              rotate_left
              · simp only [Act.put, zS, zT, zU, zV, zW]
                rfl
              refine pure_ (i := 6) (N := some 35) (v := ?_) (a' := ?_) (lb 30 127) rfl rfl (by kernel_rfl) (fun _ _ _ h => h) (Or.inl ⟨by rfl, ?_⟩) ?_ ?_
              rotate_left
              · intro w'
                go_simp
                with_reducible rfl
              rotate_left
              · simp only [Act.put, zS, zT, zU, zV, zW]
                rfl
              refine pure_ (i := 7) (N := some 36) (v := undef) (a' := ?_) (lb 30 255) rfl rfl (by kernel_rfl) (fun _ _ _ h => h) (Or.inr ⟨by rfl, rfl⟩) ?_ ?_
              rotate_left
              · simp only [Act.put, zS, zT, zU, zV, zW]
                rfl
              refine pure_ (i := 8) (N := some 37) (v := undef) (a' := ?_) (lb 30 511) rfl rfl (by kernel_rfl) (fun _ _ _ h => h) (Or.inr ⟨by rfl, rfl⟩) ?_ ?_
              rotate_left
              · simp only [Act.put, zS, zT, zU, zV, zW]
                rfl
              refine pure_ (i := 9) (N := some 38) (v := undef) (a' := ?_) (lb 30 1023) rfl rfl (by kernel_rfl) (fun _ _ _ h => h) (Or.inr ⟨by rfl, rfl⟩) ?_ ?_
              rotate_left
              · simp only [Act.put, zS, zT, zU, zV, zW]
                rfl
              refine pure_ (i := 10) (N := some 39) (v := undef) (a' := ?_) (lb 30 2047) rfl rfl (by kernel_rfl) (fun _ _ _ h => h) (Or.inr ⟨by rfl, rfl⟩) ?_ ?_
              rotate_left
              · simp only [Act.put, zS, zT, zU, zV, zW]
                rfl
              refine pure_ (i := 11) (N := some 40) (v := undef) (a' := ?_) (lb 30 4095) rfl rfl (by kernel_rfl) (fun _ _ _ h => h) (Or.inr ⟨by rfl, rfl⟩) ?_ ?_
              rotate_left
              · simp only [Act.put, zS, zT, zU, zV, zW]
                rfl
              refine pure_ (i := 12) (N := some 41) (v := undef) (a' := ?_) (lb 30 8191) rfl rfl (by kernel_rfl) (fun _ _ _ h => h) (Or.inr ⟨by rfl, rfl⟩) ?_ ?_
              rotate_left
              · simp only [Act.put, zS, zT, zU, zV, zW]
                rfl
              refine pure_ (i := 13) (N := some 42) (v := ?_) (a' := ?_) (lb 30 16383) rfl rfl (by kernel_rfl) (fun _ _ _ h => h) (Or.inl ⟨by rfl, ?_⟩) ?_ ?_
              rotate_left
              · intro w'
                go_simp
                with_reducible rfl
              rotate_left
              · simp only [Act.put, zS, zT, zU, zV, zW]
                rfl
              refine pure_ (i := 14) (N := some 43) (v := ?_) (a' := ?_) (lb 30 32767) rfl rfl (by kernel_rfl) (fun _ _ _ h => h) (Or.inl ⟨by rfl, ?_⟩) ?_ ?_
              rotate_left
              · intro w'
                go_simp
                with_reducible rfl
              rotate_left
              · simp only [Act.put, zS, zT, zU, zV, zW]
                rfl
              refine pure_ (i := 15) (N := some 44) (v := undef) (a' := ?_) (lb 30 65535) rfl rfl (by kernel_rfl) (fun _ _ _ h => h) (Or.inr ⟨by rfl, rfl⟩) ?_ ?_
              rotate_left
              · simp only [Act.put, zS, zT, zU, zV, zW]
                rfl
              refine pure_ (i := 16) (N := some 45) (v := undef) (a' := ?_) (lb 30 131071) rfl rfl (by kernel_rfl) (fun _ _ _ h => h) (Or.inr ⟨by rfl, rfl⟩) ?_ ?_
              rotate_left
              · simp only [Act.put, zS, zT, zU, zV, zW]
                rfl
              refine pure_ (i := 17) (N := some 46) (v := undef) (a' := ?_) (lb 30 262143) rfl rfl (by kernel_rfl) (fun _ _ _ h => h) (Or.inr ⟨by rfl, rfl⟩) ?_ ?_
              rotate_left
              · simp only [Act.put, zS, zT, zU, zV, zW]
                rfl
              refine pure_ (i := 18) (N := some 47) (v := ?_) (a' := ?_) (lb 30 524287) rfl rfl (by kernel_rfl) (fun _ _ _ h => h) (Or.inl ⟨by rfl, ?_⟩) ?_ ?_
              rotate_left
              · intro w'
                go_simp
                with_reducible rfl
              rotate_left
              · simp only [Act.put, zS, zT, zU, zV, zW]
                rfl
              refine pure_ (i := 19) (N := some 48) (v := ?_) (a' := ?_) (lb 30 1048575) rfl rfl (by kernel_rfl) (fun _ _ _ h => h) (Or.inl ⟨by rfl, ?_⟩) ?_ ?_
              rotate_left
              · intro w'
                go_simp
                with_reducible rfl
              rotate_left
              · simp only [Act.put, zS, zT, zU, zV, zW]
                rfl
              refine pure_ (i := 20) (N := some 49) (v := undef) (a' := ?_) (lb 30 2097151) rfl rfl (by kernel_rfl) (fun _ _ _ h => h) (Or.inr ⟨by rfl, rfl⟩) ?_ ?_
              rotate_left
              · simp only [Act.put, zS, zT, zU, zV, zW]
                rfl
              refine pure_ (i := 21) (N := some 50) (v := undef) (a' := ?_) (lb 30 4194303) rfl rfl (by kernel_rfl) (fun _ _ _ h => h) (Or.inr ⟨by rfl, rfl⟩) ?_ ?_
              rotate_left
              · simp only [Act.put, zS, zT, zU, zV, zW]
                rfl
              refine pure_ (i := 22) (N := some 51) (v := undef) (a' := ?_) (lb 30 8388607) rfl rfl (by kernel_rfl) (fun _ _ _ h => h) (Or.inr ⟨by rfl, rfl⟩) ?_ ?_
              rotate_left
              · simp only [Act.put, zS, zT, zU, zV, zW]
                rfl
              refine pure_ (i := 23) (N := some 52) (v := ?_) (a' := ?_) (lb 30 16777215) rfl rfl (by kernel_rfl) (fun _ _ _ h => h) (Or.inl ⟨by rfl, ?_⟩) ?_ ?_
              rotate_left
              · intro w'
                go_simp
                with_reducible rfl
              rotate_left
              · simp only [Act.put, zS, zT, zU, zV, zW]
                rfl
              refine pure_ (i := 24) (N := some 53) (v := ?_) (a' := ?_) (lb 30 33554431) rfl rfl (by kernel_rfl) (fun _ _ _ h => h) (Or.inl ⟨by rfl, ?_⟩) ?_ ?_
              rotate_left
              · intro w'
                go_simp
                with_reducible rfl
              rotate_left
              · simp only [Act.put, zS, zT, zU, zV, zW]
                rfl
              refine pure_ (i := 25) (N := some 54) (v := undef) (a' := ?_) (lb 30 67108863) rfl rfl (by kernel_rfl) (fun _ _ _ h => h) (Or.inr ⟨by rfl, rfl⟩) ?_ ?_
              rotate_left
              · simp only [Act.put, zS, zT, zU, zV, zW]
                rfl
              refine pure_ (i := 26) (N := some 55) (v := undef) (a' := ?_) (lb 30 134217727) rfl rfl (by kernel_rfl) (fun _ _ _ h => h) (Or.inr ⟨by rfl, rfl⟩) ?_ ?_
              rotate_left
              · simp only [Act.put, zS, zT, zU, zV, zW]
                rfl
              refine pure_ (i := 27) (N := some 56) (v := undef) (a' := ?_) (lb 30 268435455) rfl rfl (by kernel_rfl) (fun _ _ _ h => h) (Or.inr ⟨by rfl, rfl⟩) ?_ ?_
              rotate_left
              · simp only [Act.put, zS, zT, zU, zV, zW]
                rfl
              refine pure_ (i := 28) (N := some 57) (v := ?_) (a' := ?_) (lb 30 536870911) rfl rfl (by kernel_rfl) (fun _ _ _ h => h) (Or.inl ⟨by rfl, ?_⟩) ?_ ?_
              rotate_left
              · intro w'
                go_simp
                with_reducible rfl
              rotate_left
              · simp only [Act.put, zS, zT, zU, zV, zW]
                rfl
              refine pure_ (i := 29) (N := some 9) (v := ?_) (a' := ?_) (lb 30 1073741823) rfl rfl (by kernel_rfl) (fun _ _ _ h => h) (Or.inl ⟨by rfl, ?_⟩) ?_ ?_
              rotate_left
              · intro w'
                go_simp
                with_reducible rfl
              rotate_left
              · simp only [Act.put, zS, zT, zU, zV, zW]
                rfl
              refine done_ (by kernel_rfl) ?_
              go_wp2
              go_meet
              exact ⟨by rw [HAL2.out]; simp, Aside0.mk HB.out⟩
            | true =>
              have HLOW := Aside0.mk (HLOW0.out rfl)
              clear HLOW0
              cases e1 : (lo.toList == nm.toList) with
              | false =>
                rw [e1] at HAL2
                refine start_ (n := 30) (S := fun W => W.cell? ⟨gu, 0, none⟩ = some (.string nm) ∧ W.cell? ⟨gu, 1, none⟩ = some (.string vl)) (ds := []) (lb 30 0) (by kernel_rfl) rfl rfl (HSS.out _ zy0) (fun hHeld => ?_)
                replace HB := Aside0.mk (below_drew1 HB.out)
                generalize wu.drew = wud at HB hHeld ⊢
                refine pure_ (i := 0) (N := some 29) (v := ?_) (a' := ?_) (lb 30 1) rfl rfl (by kernel_rfl) (fun _ _ _ h => h) (Or.inl ⟨by rfl, ?_⟩) ?_ ?_
                rotate_left
                · intro w'
                  go_simp
                  with_reducible rfl
                rotate_left
                · simp only [Act.put, zS, zT, zU, zV, zW]
                  rfl
                refine pure_ (i := 1) (N := some 30) (v := ?_) (a' := ?_) (lb 30 3) rfl rfl (by kernel_rfl) (fun _ _ _ h => h) (Or.inl ⟨by rfl, ?_⟩) ?_ ?_
                rotate_left
                · intro w'
                  go_simp
                  with_reducible rfl
                rotate_left
                · simp only [Act.put, zS, zT, zU, zV, zW]
                  rfl
                refine pure_ (i := 2) (N := some 31) (v := ?_) (a' := ?_) (lb 30 7) rfl rfl (by kernel_rfl) (fun _ _ _ h => h) (Or.inl ⟨by rfl, ?_⟩) ?_ ?_
                rotate_left
                · intro w'
                  go_simp
                  with_reducible rfl
                rotate_left
                · simp only [Act.put, zS, zT, zU, zV, zW]
                  rfl
                refine take_ (i := 3) (N := some 32) (v := ?_) (a' := ?_) (lb 30 15) rfl rfl (by kernel_rfl) (fun _ _ _ h => h) (Or.inl ⟨by rfl, ?_⟩) hHeld ?_ ?_
                rotate_left
                · intro w' hS_
                  (try dsimp only at hS_)
                  obtain ⟨s0, s1⟩ := hS_
                  go_simp
                  with_reducible rfl
                rotate_left
                · simp only [Act.put, zS, zT, zU, zV, zW]
                  rfl
                refine one_ (i := 4) (N := some 33) (lb 30 31) rfl rfl (by kernel_rfl) zy6 (fun K hK => ?_)
                refine goes_ Tryz.func31 (by kernel_rfl) rfl #[.string nm] (by rfl) rfl rfl zy5 ?_
                refine (HTK.out _).mono ?_
                rintro e wv1 ⟨rfl, hb⟩
                refine ⟨_, rfl, ?_⟩
                replace HB := Aside0.mk (below_step HB.out hb)
                clear hb
                refine hK.out _ _ (HSS.out _ zy0) (fun hHeld => ?_)
                clear hK K
                refine norm_ (a' := ?_) ?_ ?_
                rotate_left
                · show Act.put _ (some 33) _ = _
                  simp only [Act.put, zS, zT, zU, zV, zW]
                  rfl
                refine pure_ (i := 5) (N := some 34) (v := ?_) (a' := ?_) (lb 30 63) rfl rfl (by kernel_rfl) (fun _ _ _ h => h) (Or.inl ⟨by rfl, ?_⟩) ?_ ?_
                rotate_left
                · intro w'
                  go_simp
                  with_reducible rfl
                rotate_left
                · simp only [Act.put, zS, zT, zU, zV, zW]
                  rfl
                refine pure_ (i := 6) (N := some 35) (v := ?_) (a' := ?_) (lb 30 127) rfl rfl (by kernel_rfl) (fun _ _ _ h => h) (Or.inl ⟨by rfl, ?_⟩) ?_ ?_
                rotate_left
                · intro w'
                  go_simp
                  with_reducible rfl
                rotate_left
                · simp only [Act.put, zS, zT, zU, zV, zW]
                  rfl
                refine pure_ (i := 7) (N := some 36) (v := ?_) (a' := ?_) (lb 30 255) rfl rfl (by kernel_rfl) (fun _ _ _ h => h) (Or.inl ⟨by rfl, ?_⟩) ?_ ?_
                rotate_left
                · intro w'
                  go_simp
                  with_reducible rfl
                rotate_left
                · simp only [Act.put, zS, zT, zU, zV, zW]
                  rfl
                refine pure_ (i := 10) (N := some 39) (v := ?_) (a' := ?_) (lb 30 1279) rfl rfl (by kernel_rfl) (fun _ _ _ h => h) (Or.inl ⟨by rfl, ?_⟩) ?_ ?_
                rotate_left
                · intro w'
                  go_simp
                  with_reducible rfl
                rotate_left
                · simp only [Act.put, zS, zT, zU, zV, zW]
                  rfl
                refine take_ (i := 8) (N := some 37) (v := ?_) (a' := ?_) (lb 30 1535) rfl rfl (by kernel_rfl) (fun _ _ _ h => h) (Or.inl ⟨by rfl, ?_⟩) hHeld ?_ ?_
                rotate_left
                · intro w' hS_
                  (try dsimp only at hS_)
                  obtain ⟨s0, s1⟩ := hS_
                  go_simp
                  with_reducible rfl
                rotate_left
                · simp only [Act.put, zS, zT, zU, zV, zW]
                  rfl
                refine take_ (i := 11) (N := some 40) (v := ?_) (a' := ?_) (lb 30 3583) rfl rfl (by kernel_rfl) (fun _ _ _ h => h) (Or.inl ⟨by rfl, ?_⟩) hHeld ?_ ?_
                rotate_left
                · intro w' hS_
                  (try dsimp only at hS_)
                  obtain ⟨s0, s1⟩ := hS_
                  go_simp
                  with_reducible rfl
                rotate_left
                · simp only [Act.put, zS, zT, zU, zV, zW]
                  rfl
                refine one_ (i := 9) (N := some 38) (lb 30 4095) rfl rfl (by kernel_rfl) zy6 (fun K hK => ?_)
                refine goes_ Tryz.func59 (by kernel_rfl) rfl #[.string nm] (by rfl) rfl rfl zy5 ?_
                refine (HLOW.out _).mono ?_
                rintro e wv2 ⟨rfl, hb⟩
                refine ⟨_, rfl, ?_⟩
                replace HB := Aside0.mk (below_step HB.out hb)
                clear hb
                refine hK.out _ _ (HSS.out _ zy0) (fun hHeld => ?_)
                clear hK K
                refine norm_ (a' := ?_) ?_ ?_
                rotate_left
                · show Act.put _ (some 38) _ = _
                  simp only [Act.put, zS, zT, zU, zV, zW]
                  rfl
                refine pure_ (i := 12) (N := some 41) (v := ?_) (a' := ?_) (lb 30 8191) rfl rfl (by kernel_rfl) (fun _ _ _ h => h) (Or.inl ⟨by rfl, ?_⟩) ?_ ?_
                rotate_left
                · intro w'
                  go_simp
                  with_reducible rfl
                rotate_left
                · simp only [Act.put, zS, zT, zU, zV, zW]
                  rfl
                refine pure_ (i := 13) (N := some 42) (v := ?_) (a' := ?_) (lb 30 16383) rfl rfl (by kernel_rfl) (fun _ _ _ h => h) (Or.inl ⟨by rfl, ?_⟩) ?_ ?_
                rotate_left
                · intro w'
                  go_simp
                  with_reducible rfl
                rotate_left
                · simp only [Act.put, zS, zT, zU, zV, zW]
                  rfl
                refine pure_ (i := 14) (N := some 43) (v := ?_) (a' := ?_) (lb 30 32767) rfl rfl (by kernel_rfl) (fun _ _ _ h => h) (Or.inl ⟨by rfl, ?_⟩) ?_ ?_
                rotate_left
                · intro w'
                  go_simp
                  with_reducible rfl
                rotate_left
                · simp only [Act.put, zS, zT, zU, zV, zW]
                  rfl
                refine pure_ (i := 15) (N := some 44) (v := undef) (a' := ?_) (lb 30 65535) rfl rfl (by kernel_rfl) (fun _ _ _ h => h) (Or.inr ⟨by rfl, rfl⟩) ?_ ?_
                rotate_left
                · simp only [Act.put, zS, zT, zU, zV, zW]
                  rfl
                refine pure_ (i := 16) (N := some 45) (v := undef) (a' := ?_) (lb 30 131071) rfl rfl (by kernel_rfl) (fun _ _ _ h => h) (Or.inr ⟨by rfl, rfl⟩) ?_ ?_
                rotate_left
                · simp only [Act.put, zS, zT, zU, zV, zW]
                  rfl
                refine pure_ (i := 17) (N := some 46) (v := undef) (a' := ?_) (lb 30 262143) rfl rfl (by kernel_rfl) (fun _ _ _ h => h) (Or.inr ⟨by rfl, rfl⟩) ?_ ?_
                rotate_left
                · simp only [Act.put, zS, zT, zU, zV, zW]
                  rfl
                refine pure_ (i := 18) (N := some 47) (v := ?_) (a' := ?_) (lb 30 524287) rfl rfl (by kernel_rfl) (fun _ _ _ h => h) (Or.inl ⟨by rfl, ?_⟩) ?_ ?_
                rotate_left
                · intro w'
                  go_simp
                  with_reducible rfl
                rotate_left
                · simp only [Act.put, zS, zT, zU, zV, zW]
                  rfl
                refine pure_ (i := 19) (N := some 48) (v := ?_) (a' := ?_) (lb 30 1048575) rfl rfl (by kernel_rfl) (fun _ _ _ h => h) (Or.inl ⟨by rfl, ?_⟩) ?_ ?_
                rotate_left
                · intro w'
                  go_simp
                  with_reducible rfl
                rotate_left
                · simp only [Act.put, zS, zT, zU, zV, zW]
                  rfl
                refine pure_ (i := 20) (N := some 49) (v := undef) (a' := ?_) (lb 30 2097151) rfl rfl (by kernel_rfl) (fun _ _ _ h => h) (Or.inr ⟨by rfl, rfl⟩) ?_ ?_
                rotate_left
                · simp only [Act.put, zS, zT, zU, zV, zW]
                  rfl
                refine pure_ (i := 21) (N := some 50) (v := undef) (a' := ?_) (lb 30 4194303) rfl rfl (by kernel_rfl) (fun _ _ _ h => h) (Or.inr ⟨by rfl, rfl⟩) ?_ ?_
                rotate_left
                · simp only [Act.put, zS, zT, zU, zV, zW]
                  rfl
                refine pure_ (i := 22) (N := some 51) (v := undef) (a' := ?_) (lb 30 8388607) rfl rfl (by kernel_rfl) (fun _ _ _ h => h) (Or.inr ⟨by rfl, rfl⟩) ?_ ?_
                rotate_left
                · simp only [Act.put, zS, zT, zU, zV, zW]
                  rfl
                refine pure_ (i := 23) (N := some 52) (v := ?_) (a' := ?_) (lb 30 16777215) rfl rfl (by kernel_rfl) (fun _ _ _ h => h) (Or.inl ⟨by rfl, ?_⟩) ?_ ?_
                rotate_left
                · intro w'
                  go_simp
                  with_reducible rfl
                rotate_left
                · simp only [Act.put, zS, zT, zU, zV, zW]
                  rfl
                refine pure_ (i := 24) (N := some 53) (v := ?_) (a' := ?_) (lb 30 33554431) rfl rfl (by kernel_rfl) (fun _ _ _ h => h) (Or.inl ⟨by rfl, ?_⟩) ?_ ?_
                rotate_left
                · intro w'
                  go_simp
                  with_reducible rfl
                rotate_left
                · simp only [Act.put, zS, zT, zU, zV, zW]
                  rfl
                refine pure_ (i := 25) (N := some 54) (v := undef) (a' := ?_) (lb 30 67108863) rfl rfl (by kernel_rfl) (fun _ _ _ h => h) (Or.inr ⟨by rfl, rfl⟩) ?_ ?_
                rotate_left
                · simp only [Act.put, zS, zT, zU, zV, zW]
                  rfl
                refine pure_ (i := 26) (N := some 55) (v := undef) (a' := ?_) (lb 30 134217727) rfl rfl (by kernel_rfl) (fun _ _ _ h => h) (Or.inr ⟨by rfl, rfl⟩) ?_ ?_
                rotate_left
                · simp only [Act.put, zS, zT, zU, zV, zW]
                  rfl
                refine pure_ (i := 27) (N := some 56) (v := undef) (a' := ?_) (lb 30 268435455) rfl rfl (by kernel_rfl) (fun _ _ _ h => h) (Or.inr ⟨by rfl, rfl⟩) ?_ ?_
                rotate_left
                · simp only [Act.put, zS, zT, zU, zV, zW]
                  rfl
                refine pure_ (i := 28) (N := some 57) (v := ?_) (a' := ?_) (lb 30 536870911) rfl rfl (by kernel_rfl) (fun _ _ _ h => h) (Or.inl ⟨by rfl, ?_⟩) ?_ ?_
                rotate_left
                · intro w'
                  go_simp
                  with_reducible rfl
                rotate_left
                · simp only [Act.put, zS, zT, zU, zV, zW]
                  rfl
                refine pure_ (i := 29) (N := some 9) (v := ?_) (a' := ?_) (lb 30 1073741823) rfl rfl (by kernel_rfl) (fun _ _ _ h => h) (Or.inl ⟨by rfl, ?_⟩) ?_ ?_
                rotate_left
                · intro w'
                  go_simp
                  with_reducible rfl
                rotate_left
                · simp only [Act.put, zS, zT, zU, zV, zW]
                  rfl
                refine done_ (by kernel_rfl) ?_
                go_wp2
                go_meet
                exact ⟨by rw [HAL2.out]; simp, Aside0.mk HB.out⟩
              | true =>
                cases e2 : (nm.toList == ([99, 111, 110, 116, 101, 110, 116, 45, 108, 101, 110, 103, 116, 104] : List UInt8)) with
                | true =>
                  rw [e1, e2] at HAL2
                  refine start_ (n := 30) (S := fun W => W.cell? ⟨gu, 0, none⟩ = some (.string nm) ∧ W.cell? ⟨gu, 1, none⟩ = some (.string vl)) (ds := []) (lb 30 0) (by kernel_rfl) rfl rfl (HSS.out _ zy0) (fun hHeld => ?_)
                  replace HB := Aside0.mk (below_drew1 HB.out)
                  generalize wu.drew = wud at HB hHeld ⊢
                  refine pure_ (i := 0) (N := some 29) (v := ?_) (a' := ?_) (lb 30 1) rfl rfl (by kernel_rfl) (fun _ _ _ h => h) (Or.inl ⟨by rfl, ?_⟩) ?_ ?_
                  rotate_left
                  · intro w'
                    go_simp
                    with_reducible rfl
                  rotate_left
                  · simp only [Act.put, zS, zT, zU, zV, zW]
                    rfl
                  refine pure_ (i := 1) (N := some 30) (v := ?_) (a' := ?_) (lb 30 3) rfl rfl (by kernel_rfl) (fun _ _ _ h => h) (Or.inl ⟨by rfl, ?_⟩) ?_ ?_
                  rotate_left
                  · intro w'
                    go_simp
                    with_reducible rfl
                  rotate_left
                  · simp only [Act.put, zS, zT, zU, zV, zW]
                    rfl
                  refine pure_ (i := 2) (N := some 31) (v := ?_) (a' := ?_) (lb 30 7) rfl rfl (by kernel_rfl) (fun _ _ _ h => h) (Or.inl ⟨by rfl, ?_⟩) ?_ ?_
                  rotate_left
                  · intro w'
                    go_simp
                    with_reducible rfl
                  rotate_left
                  · simp only [Act.put, zS, zT, zU, zV, zW]
                    rfl
                  refine take_ (i := 3) (N := some 32) (v := ?_) (a' := ?_) (lb 30 15) rfl rfl (by kernel_rfl) (fun _ _ _ h => h) (Or.inl ⟨by rfl, ?_⟩) hHeld ?_ ?_
                  rotate_left
                  · intro w' hS_
                    (try dsimp only at hS_)
                    obtain ⟨s0, s1⟩ := hS_
                    go_simp
                    with_reducible rfl
                  rotate_left
                  · simp only [Act.put, zS, zT, zU, zV, zW]
                    rfl
                  refine one_ (i := 4) (N := some 33) (lb 30 31) rfl rfl (by kernel_rfl) zy6 (fun K hK => ?_)
                  refine goes_ Tryz.func31 (by kernel_rfl) rfl #[.string nm] (by rfl) rfl rfl zy5 ?_
                  refine (HTK.out _).mono ?_
                  rintro e wv1 ⟨rfl, hb⟩
                  refine ⟨_, rfl, ?_⟩
                  replace HB := Aside0.mk (below_step HB.out hb)
                  clear hb
                  refine hK.out _ _ (HSS.out _ zy0) (fun hHeld => ?_)
                  clear hK K
                  refine norm_ (a' := ?_) ?_ ?_
                  rotate_left
                  · show Act.put _ (some 33) _ = _
                    simp only [Act.put, zS, zT, zU, zV, zW]
                    rfl
                  refine pure_ (i := 5) (N := some 34) (v := ?_) (a' := ?_) (lb 30 63) rfl rfl (by kernel_rfl) (fun _ _ _ h => h) (Or.inl ⟨by rfl, ?_⟩) ?_ ?_
                  rotate_left
                  · intro w'
                    go_simp
                    with_reducible rfl
                  rotate_left
                  · simp only [Act.put, zS, zT, zU, zV, zW]
                    rfl
                  refine pure_ (i := 6) (N := some 35) (v := ?_) (a' := ?_) (lb 30 127) rfl rfl (by kernel_rfl) (fun _ _ _ h => h) (Or.inl ⟨by rfl, ?_⟩) ?_ ?_
                  rotate_left
                  · intro w'
                    go_simp
                    with_reducible rfl
                  rotate_left
                  · simp only [Act.put, zS, zT, zU, zV, zW]
                    rfl
                  refine pure_ (i := 7) (N := some 36) (v := ?_) (a' := ?_) (lb 30 255) rfl rfl (by kernel_rfl) (fun _ _ _ h => h) (Or.inl ⟨by rfl, ?_⟩) ?_ ?_
                  rotate_left
                  · intro w'
                    go_simp
                    with_reducible rfl
                  rotate_left
                  · simp only [Act.put, zS, zT, zU, zV, zW]
                    rfl
                  refine pure_ (i := 10) (N := some 39) (v := ?_) (a' := ?_) (lb 30 1279) rfl rfl (by kernel_rfl) (fun _ _ _ h => h) (Or.inl ⟨by rfl, ?_⟩) ?_ ?_
                  rotate_left
                  · intro w'
                    go_simp
                    with_reducible rfl
                  rotate_left
                  · simp only [Act.put, zS, zT, zU, zV, zW]
                    rfl
                  refine take_ (i := 8) (N := some 37) (v := ?_) (a' := ?_) (lb 30 1535) rfl rfl (by kernel_rfl) (fun _ _ _ h => h) (Or.inl ⟨by rfl, ?_⟩) hHeld ?_ ?_
                  rotate_left
                  · intro w' hS_
                    (try dsimp only at hS_)
                    obtain ⟨s0, s1⟩ := hS_
                    go_simp
                    with_reducible rfl
                  rotate_left
                  · simp only [Act.put, zS, zT, zU, zV, zW]
                    rfl
                  refine take_ (i := 11) (N := some 40) (v := ?_) (a' := ?_) (lb 30 3583) rfl rfl (by kernel_rfl) (fun _ _ _ h => h) (Or.inl ⟨by rfl, ?_⟩) hHeld ?_ ?_
                  rotate_left
                  · intro w' hS_
                    (try dsimp only at hS_)
                    obtain ⟨s0, s1⟩ := hS_
                    go_simp
                    with_reducible rfl
                  rotate_left
                  · simp only [Act.put, zS, zT, zU, zV, zW]
                    rfl
                  refine one_ (i := 9) (N := some 38) (lb 30 4095) rfl rfl (by kernel_rfl) zy6 (fun K hK => ?_)
                  refine goes_ Tryz.func59 (by kernel_rfl) rfl #[.string nm] (by rfl) rfl rfl zy5 ?_
                  refine (HLOW.out _).mono ?_
                  rintro e wv2 ⟨rfl, hb⟩
                  refine ⟨_, rfl, ?_⟩
                  replace HB := Aside0.mk (below_step HB.out hb)
                  clear hb
                  refine hK.out _ _ (HSS.out _ zy0) (fun hHeld => ?_)
                  clear hK K
                  refine norm_ (a' := ?_) ?_ ?_
                  rotate_left
                  · show Act.put _ (some 38) _ = _
                    simp only [Act.put, zS, zT, zU, zV, zW]
                    rfl
                  refine pure_ (i := 12) (N := some 41) (v := ?_) (a' := ?_) (lb 30 8191) rfl rfl (by kernel_rfl) (fun _ _ _ h => h) (Or.inl ⟨by rfl, ?_⟩) ?_ ?_
                  rotate_left
                  · intro w'
                    go_simp
                    with_reducible rfl
                  rotate_left
                  · simp only [Act.put, zS, zT, zU, zV, zW]
                    rfl
                  refine pure_ (i := 13) (N := some 42) (v := ?_) (a' := ?_) (lb 30 16383) rfl rfl (by kernel_rfl) (fun _ _ _ h => h) (Or.inl ⟨by rfl, ?_⟩) ?_ ?_
                  rotate_left
                  · intro w'
                    go_simp
                    with_reducible rfl
                  rotate_left
                  · simp only [Act.put, zS, zT, zU, zV, zW]
                    rfl
                  refine pure_ (i := 14) (N := some 43) (v := ?_) (a' := ?_) (lb 30 32767) rfl rfl (by kernel_rfl) (fun _ _ _ h => h) (Or.inl ⟨by rfl, ?_⟩) ?_ ?_
                  rotate_left
                  · intro w'
                    go_simp
                    with_reducible rfl
                  rotate_left
                  · simp only [Act.put, zS, zT, zU, zV, zW]
                    rfl
                  refine pure_ (i := 15) (N := some 44) (v := ?_) (a' := ?_) (lb 30 65535) rfl rfl (by kernel_rfl) (fun _ _ _ h => h) (Or.inl ⟨by rfl, ?_⟩) ?_ ?_
                  rotate_left
                  · intro w'
                    go_simp
                    with_reducible rfl
                  rotate_left
                  · simp only [Act.put, zS, zT, zU, zV, zW]
                    rfl
                  refine take_ (i := 16) (N := some 45) (v := ?_) (a' := ?_) (lb 30 131071) rfl rfl (by kernel_rfl) (fun _ _ _ h => h) (Or.inl ⟨by rfl, ?_⟩) hHeld ?_ ?_
                  rotate_left
                  · intro w' hS_
                    (try dsimp only at hS_)
                    obtain ⟨s0, s1⟩ := hS_
                    go_simp
                    with_reducible rfl
                  rotate_left
                  · simp only [Act.put, zS, zT, zU, zV, zW]
                    rfl
                  refine pure_ (i := 17) (N := some 46) (v := ?_) (a' := ?_) (lb 30 262143) rfl rfl (by kernel_rfl) (fun _ _ _ h => h) (Or.inl ⟨by rfl, ?_⟩) ?_ ?_
                  rotate_left
                  · intro w'
                    go_simp
                    with_reducible rfl
                  rotate_left
                  · simp only [Act.put, zS, zT, zU, zV, zW]
                    rfl
                  refine pure_ (i := 18) (N := some 47) (v := ?_) (a' := ?_) (lb 30 524287) rfl rfl (by kernel_rfl) (fun _ _ _ h => h) (Or.inl ⟨by rfl, ?_⟩) ?_ ?_
                  rotate_left
                  · intro w'
                    go_simp
                    with_reducible rfl
                  rotate_left
                  · simp only [Act.put, zS, zT, zU, zV, zW]
                    rfl
                  refine pure_ (i := 19) (N := some 48) (v := ?_) (a' := ?_) (lb 30 1048575) rfl rfl (by kernel_rfl) (fun _ _ _ h => h) (Or.inl ⟨by rfl, ?_⟩) ?_ ?_
                  rotate_left
                  · intro w'
                    go_simp
                    with_reducible rfl
                  rotate_left
                  · simp only [Act.put, zS, zT, zU, zV, zW]
                    rfl
                  refine pure_ (i := 20) (N := some 49) (v := undef) (a' := ?_) (lb 30 2097151) rfl rfl (by kernel_rfl) (fun _ _ _ h => h) (Or.inr ⟨by rfl, rfl⟩) ?_ ?_
                  rotate_left
                  · simp only [Act.put, zS, zT, zU, zV, zW]
                    rfl
                  refine pure_ (i := 21) (N := some 50) (v := undef) (a' := ?_) (lb 30 4194303) rfl rfl (by kernel_rfl) (fun _ _ _ h => h) (Or.inr ⟨by rfl, rfl⟩) ?_ ?_
                  rotate_left
                  · simp only [Act.put, zS, zT, zU, zV, zW]
                    rfl
                  refine pure_ (i := 22) (N := some 51) (v := undef) (a' := ?_) (lb 30 8388607) rfl rfl (by kernel_rfl) (fun _ _ _ h => h) (Or.inr ⟨by rfl, rfl⟩) ?_ ?_
                  rotate_left
                  · simp only [Act.put, zS, zT, zU, zV, zW]
                    rfl
                  refine pure_ (i := 23) (N := some 52) (v := ?_) (a' := ?_) (lb 30 16777215) rfl rfl (by kernel_rfl) (fun _ _ _ h => h) (Or.inl ⟨by rfl, ?_⟩) ?_ ?_
                  rotate_left
                  · intro w'
                    go_simp
                    with_reducible rfl
                  rotate_left
                  · simp only [Act.put, zS, zT, zU, zV, zW]
                    rfl
                  refine pure_ (i := 24) (N := some 53) (v := ?_) (a' := ?_) (lb 30 33554431) rfl rfl (by kernel_rfl) (fun _ _ _ h => h) (Or.inl ⟨by rfl, ?_⟩) ?_ ?_
                  rotate_left
                  · intro w'
                    go_simp
                    with_reducible rfl
                  rotate_left
                  · simp only [Act.put, zS, zT, zU, zV, zW]
                    rfl
                  refine pure_ (i := 25) (N := some 54) (v := undef) (a' := ?_) (lb 30 67108863) rfl rfl (by kernel_rfl) (fun _ _ _ h => h) (Or.inr ⟨by rfl, rfl⟩) ?_ ?_
                  rotate_left
                  · simp only [Act.put, zS, zT, zU, zV, zW]
                    rfl
                  refine pure_ (i := 26) (N := some 55) (v := undef) (a' := ?_) (lb 30 134217727) rfl rfl (by kernel_rfl) (fun _ _ _ h => h) (Or.inr ⟨by rfl, rfl⟩) ?_ ?_
                  rotate_left
                  · simp only [Act.put, zS, zT, zU, zV, zW]
                    rfl
                  refine pure_ (i := 27) (N := some 56) (v := undef) (a' := ?_) (lb 30 268435455) rfl rfl (by kernel_rfl) (fun _ _ _ h => h) (Or.inr ⟨by rfl, rfl⟩) ?_ ?_
                  rotate_left
                  · simp only [Act.put, zS, zT, zU, zV, zW]
                    rfl
                  refine pure_ (i := 28) (N := some 57) (v := ?_) (a' := ?_) (lb 30 536870911) rfl rfl (by kernel_rfl) (fun _ _ _ h => h) (Or.inl ⟨by rfl, ?_⟩) ?_ ?_
                  rotate_left
                  · intro w'
                    go_simp
                    with_reducible rfl
                  rotate_left
                  · simp only [Act.put, zS, zT, zU, zV, zW]
                    rfl
                  refine pure_ (i := 29) (N := some 9) (v := ?_) (a' := ?_) (lb 30 1073741823) rfl rfl (by kernel_rfl) (fun _ _ _ h => h) (Or.inl ⟨by rfl, ?_⟩) ?_ ?_
                  rotate_left
                  · intro w'
                    go_simp
                    with_reducible rfl
                  rotate_left
                  · simp only [Act.put, zS, zT, zU, zV, zW]
                    rfl
                  refine done_ (by kernel_rfl) ?_
                  go_wp2
                  go_meet
                  exact ⟨by rw [HAL2.out]; simp, Aside0.mk HB.out⟩
                | false =>
                  cases e3 : (nm.toList == ([116, 114, 97, 110, 115, 102, 101, 114, 45, 101, 110, 99, 111, 100, 105, 110, 103] : List UInt8)) with
                  | true =>
                    rw [e1, e2, e3] at HAL2
                    refine start_ (n := 30) (S := fun W => W.cell? ⟨gu, 0, none⟩ = some (.string nm) ∧ W.cell? ⟨gu, 1, none⟩ = some (.string vl)) (ds := []) (lb 30 0) (by kernel_rfl) rfl rfl (HSS.out _ zy0) (fun hHeld => ?_)
                    replace HB := Aside0.mk (below_drew1 HB.out)
                    generalize wu.drew = wud at HB hHeld ⊢
                    refine pure_ (i := 0) (N := some 29) (v := ?_) (a' := ?_) (lb 30 1) rfl rfl (by kernel_rfl) (fun _ _ _ h => h) (Or.inl ⟨by rfl, ?_⟩) ?_ ?_
                    rotate_left
                    · intro w'
                      go_simp
                      with_reducible rfl
                    rotate_left
                    · simp only [Act.put, zS, zT, zU, zV, zW]
                      rfl
                    refine pure_ (i := 1) (N := some 30) (v := ?_) (a' := ?_) (lb 30 3) rfl rfl (by kernel_rfl) (fun _ _ _ h => h) (Or.inl ⟨by rfl, ?_⟩) ?_ ?_
                    rotate_left
                    · intro w'
                      go_simp
                      with_reducible rfl
                    rotate_left
                    · simp only [Act.put, zS, zT, zU, zV, zW]
                      rfl
                    refine pure_ (i := 2) (N := some 31) (v := ?_) (a' := ?_) (lb 30 7) rfl rfl (by kernel_rfl) (fun _ _ _ h => h) (Or.inl ⟨by rfl, ?_⟩) ?_ ?_
                    rotate_left
                    · intro w'
                      go_simp
                      with_reducible rfl
                    rotate_left
                    · simp only [Act.put, zS, zT, zU, zV, zW]
                      rfl
                    refine take_ (i := 3) (N := some 32) (v := ?_) (a' := ?_) (lb 30 15) rfl rfl (by kernel_rfl) (fun _ _ _ h => h) (Or.inl ⟨by rfl, ?_⟩) hHeld ?_ ?_
                    rotate_left
                    · intro w' hS_
                      (try dsimp only at hS_)
                      obtain ⟨s0, s1⟩ := hS_
                      go_simp
                      with_reducible rfl
                    rotate_left
                    · simp only [Act.put, zS, zT, zU, zV, zW]
                      rfl
                    refine one_ (i := 4) (N := some 33) (lb 30 31) rfl rfl (by kernel_rfl) zy6 (fun K hK => ?_)
                    refine goes_ Tryz.func31 (by kernel_rfl) rfl #[.string nm] (by rfl) rfl rfl zy5 ?_
                    refine (HTK.out _).mono ?_
                    rintro e wv1 ⟨rfl, hb⟩
                    refine ⟨_, rfl, ?_⟩
                    replace HB := Aside0.mk (below_step HB.out hb)
                    clear hb
                    refine hK.out _ _ (HSS.out _ zy0) (fun hHeld => ?_)
                    clear hK K
                    refine norm_ (a' := ?_) ?_ ?_
                    rotate_left
                    · show Act.put _ (some 33) _ = _
                      simp only [Act.put, zS, zT, zU, zV, zW]
                      rfl
                    refine pure_ (i := 5) (N := some 34) (v := ?_) (a' := ?_) (lb 30 63) rfl rfl (by kernel_rfl) (fun _ _ _ h => h) (Or.inl ⟨by rfl, ?_⟩) ?_ ?_
                    rotate_left
                    · intro w'
                      go_simp
                      with_reducible rfl
                    rotate_left
                    · simp only [Act.put, zS, zT, zU, zV, zW]
                      rfl
                    refine pure_ (i := 6) (N := some 35) (v := ?_) (a' := ?_) (lb 30 127) rfl rfl (by kernel_rfl) (fun _ _ _ h => h) (Or.inl ⟨by rfl, ?_⟩) ?_ ?_
                    rotate_left
                    · intro w'
                      go_simp
                      with_reducible rfl
                    rotate_left
                    · simp only [Act.put, zS, zT, zU, zV, zW]
                      rfl
                    refine pure_ (i := 7) (N := some 36) (v := ?_) (a' := ?_) (lb 30 255) rfl rfl (by kernel_rfl) (fun _ _ _ h => h) (Or.inl ⟨by rfl, ?_⟩) ?_ ?_
                    rotate_left
                    · intro w'
                      go_simp
                      with_reducible rfl
                    rotate_left
                    · simp only [Act.put, zS, zT, zU, zV, zW]
                      rfl
                    refine pure_ (i := 10) (N := some 39) (v := ?_) (a' := ?_) (lb 30 1279) rfl rfl (by kernel_rfl) (fun _ _ _ h => h) (Or.inl ⟨by rfl, ?_⟩) ?_ ?_
                    rotate_left
                    · intro w'
                      go_simp
                      with_reducible rfl
                    rotate_left
                    · simp only [Act.put, zS, zT, zU, zV, zW]
                      rfl
                    refine take_ (i := 8) (N := some 37) (v := ?_) (a' := ?_) (lb 30 1535) rfl rfl (by kernel_rfl) (fun _ _ _ h => h) (Or.inl ⟨by rfl, ?_⟩) hHeld ?_ ?_
                    rotate_left
                    · intro w' hS_
                      (try dsimp only at hS_)
                      obtain ⟨s0, s1⟩ := hS_
                      go_simp
                      with_reducible rfl
                    rotate_left
                    · simp only [Act.put, zS, zT, zU, zV, zW]
                      rfl
                    refine take_ (i := 11) (N := some 40) (v := ?_) (a' := ?_) (lb 30 3583) rfl rfl (by kernel_rfl) (fun _ _ _ h => h) (Or.inl ⟨by rfl, ?_⟩) hHeld ?_ ?_
                    rotate_left
                    · intro w' hS_
                      (try dsimp only at hS_)
                      obtain ⟨s0, s1⟩ := hS_
                      go_simp
                      with_reducible rfl
                    rotate_left
                    · simp only [Act.put, zS, zT, zU, zV, zW]
                      rfl
                    refine one_ (i := 9) (N := some 38) (lb 30 4095) rfl rfl (by kernel_rfl) zy6 (fun K hK => ?_)
                    refine goes_ Tryz.func59 (by kernel_rfl) rfl #[.string nm] (by rfl) rfl rfl zy5 ?_
                    refine (HLOW.out _).mono ?_
                    rintro e wv2 ⟨rfl, hb⟩
                    refine ⟨_, rfl, ?_⟩
                    replace HB := Aside0.mk (below_step HB.out hb)
                    clear hb
                    refine hK.out _ _ (HSS.out _ zy0) (fun hHeld => ?_)
                    clear hK K
                    refine norm_ (a' := ?_) ?_ ?_
                    rotate_left
                    · show Act.put _ (some 38) _ = _
                      simp only [Act.put, zS, zT, zU, zV, zW]
                      rfl
                    refine pure_ (i := 12) (N := some 41) (v := ?_) (a' := ?_) (lb 30 8191) rfl rfl (by kernel_rfl) (fun _ _ _ h => h) (Or.inl ⟨by rfl, ?_⟩) ?_ ?_
                    rotate_left
                    · intro w'
                      go_simp
                      with_reducible rfl
                    rotate_left
                    · simp only [Act.put, zS, zT, zU, zV, zW]
                      rfl
                    refine pure_ (i := 13) (N := some 42) (v := ?_) (a' := ?_) (lb 30 16383) rfl rfl (by kernel_rfl) (fun _ _ _ h => h) (Or.inl ⟨by rfl, ?_⟩) ?_ ?_
                    rotate_left
                    · intro w'
                      go_simp
                      with_reducible rfl
                    rotate_left
                    · simp only [Act.put, zS, zT, zU, zV, zW]
                      rfl
                    refine pure_ (i := 14) (N := some 43) (v := ?_) (a' := ?_) (lb 30 32767) rfl rfl (by kernel_rfl) (fun _ _ _ h => h) (Or.inl ⟨by rfl, ?_⟩) ?_ ?_
                    rotate_left
                    · intro w'
                      go_simp
                      with_reducible rfl
                    rotate_left
                    · simp only [Act.put, zS, zT, zU, zV, zW]
                      rfl
                    refine pure_ (i := 15) (N := some 44) (v := ?_) (a' := ?_) (lb 30 65535) rfl rfl (by kernel_rfl) (fun _ _ _ h => h) (Or.inl ⟨by rfl, ?_⟩) ?_ ?_
                    rotate_left
                    · intro w'
                      go_simp
                      with_reducible rfl
                    rotate_left
                    · simp only [Act.put, zS, zT, zU, zV, zW]
                      rfl
                    refine take_ (i := 16) (N := some 45) (v := ?_) (a' := ?_) (lb 30 131071) rfl rfl (by kernel_rfl) (fun _ _ _ h => h) (Or.inl ⟨by rfl, ?_⟩) hHeld ?_ ?_
                    rotate_left
                    · intro w' hS_
                      (try dsimp only at hS_)
                      obtain ⟨s0, s1⟩ := hS_
                      go_simp
                      with_reducible rfl
                    rotate_left
                    · simp only [Act.put, zS, zT, zU, zV, zW]
                      rfl
                    refine pure_ (i := 17) (N := some 46) (v := ?_) (a' := ?_) (lb 30 262143) rfl rfl (by kernel_rfl) (fun _ _ _ h => h) (Or.inl ⟨by rfl, ?_⟩) ?_ ?_
                    rotate_left
                    · intro w'
                      go_simp
                      with_reducible rfl
                    rotate_left
                    · simp only [Act.put, zS, zT, zU, zV, zW]
                      rfl
                    refine pure_ (i := 18) (N := some 47) (v := ?_) (a' := ?_) (lb 30 524287) rfl rfl (by kernel_rfl) (fun _ _ _ h => h) (Or.inl ⟨by rfl, ?_⟩) ?_ ?_
                    rotate_left
                    · intro w'
                      go_simp
                      with_reducible rfl
                    rotate_left
                    · simp only [Act.put, zS, zT, zU, zV, zW]
                      rfl
                    refine pure_ (i := 19) (N := some 48) (v := ?_) (a' := ?_) (lb 30 1048575) rfl rfl (by kernel_rfl) (fun _ _ _ h => h) (Or.inl ⟨by rfl, ?_⟩) ?_ ?_
                    rotate_left
                    · intro w'
                      go_simp
                      with_reducible rfl
                    rotate_left
                    · simp only [Act.put, zS, zT, zU, zV, zW]
                      rfl
                    refine pure_ (i := 20) (N := some 49) (v := ?_) (a' := ?_) (lb 30 2097151) rfl rfl (by kernel_rfl) (fun _ _ _ h => h) (Or.inl ⟨by rfl, ?_⟩) ?_ ?_
                    rotate_left
                    · intro w'
                      go_simp
                      with_reducible rfl
                    rotate_left
                    · simp only [Act.put, zS, zT, zU, zV, zW]
                      rfl
                    refine take_ (i := 21) (N := some 50) (v := ?_) (a' := ?_) (lb 30 4194303) rfl rfl (by kernel_rfl) (fun _ _ _ h => h) (Or.inl ⟨by rfl, ?_⟩) hHeld ?_ ?_
                    rotate_left
                    · intro w' hS_
                      (try dsimp only at hS_)
                      obtain ⟨s0, s1⟩ := hS_
                      go_simp
                      with_reducible rfl
                    rotate_left
                    · simp only [Act.put, zS, zT, zU, zV, zW]
                      rfl
                    refine pure_ (i := 22) (N := some 51) (v := ?_) (a' := ?_) (lb 30 8388607) rfl rfl (by kernel_rfl) (fun _ _ _ h => h) (Or.inl ⟨by rfl, ?_⟩) ?_ ?_
                    rotate_left
                    · intro w'
                      go_simp
                      with_reducible rfl
                    rotate_left
                    · simp only [Act.put, zS, zT, zU, zV, zW]
                      rfl
                    refine pure_ (i := 23) (N := some 52) (v := ?_) (a' := ?_) (lb 30 16777215) rfl rfl (by kernel_rfl) (fun _ _ _ h => h) (Or.inl ⟨by rfl, ?_⟩) ?_ ?_
                    rotate_left
                    · intro w'
                      go_simp
                      with_reducible rfl
                    rotate_left
                    · simp only [Act.put, zS, zT, zU, zV, zW]
                      rfl
                    refine pure_ (i := 24) (N := some 53) (v := ?_) (a' := ?_) (lb 30 33554431) rfl rfl (by kernel_rfl) (fun _ _ _ h => h) (Or.inl ⟨by rfl, ?_⟩) ?_ ?_
                    rotate_left
                    · intro w'
                      go_simp
                      with_reducible rfl
                    rotate_left
                    · simp only [Act.put, zS, zT, zU, zV, zW]
                      rfl
                    refine pure_ (i := 25) (N := some 54) (v := undef) (a' := ?_) (lb 30 67108863) rfl rfl (by kernel_rfl) (fun _ _ _ h => h) (Or.inr ⟨by rfl, rfl⟩) ?_ ?_
                    rotate_left
                    · simp only [Act.put, zS, zT, zU, zV, zW]
                      rfl
                    refine pure_ (i := 26) (N := some 55) (v := undef) (a' := ?_) (lb 30 134217727) rfl rfl (by kernel_rfl) (fun _ _ _ h => h) (Or.inr ⟨by rfl, rfl⟩) ?_ ?_
                    rotate_left
                    · simp only [Act.put, zS, zT, zU, zV, zW]
                      rfl
                    refine pure_ (i := 27) (N := some 56) (v := undef) (a' := ?_) (lb 30 268435455) rfl rfl (by kernel_rfl) (fun _ _ _ h => h) (Or.inr ⟨by rfl, rfl⟩) ?_ ?_
                    rotate_left
                    · simp only [Act.put, zS, zT, zU, zV, zW]
                      rfl
                    refine pure_ (i := 28) (N := some 57) (v := ?_) (a' := ?_) (lb 30 536870911) rfl rfl (by kernel_rfl) (fun _ _ _ h => h) (Or.inl ⟨by rfl, ?_⟩) ?_ ?_
                    rotate_left
                    · intro w'
                      go_simp
                      with_reducible rfl
                    rotate_left
                    · simp only [Act.put, zS, zT, zU, zV, zW]
                      rfl
                    refine pure_ (i := 29) (N := some 9) (v := ?_) (a' := ?_) (lb 30 1073741823) rfl rfl (by kernel_rfl) (fun _ _ _ h => h) (Or.inl ⟨by rfl, ?_⟩) ?_ ?_
                    rotate_left
                    · intro w'
                      go_simp
                      with_reducible rfl
                    rotate_left
                    · simp only [Act.put, zS, zT, zU, zV, zW]
                      rfl
                    refine done_ (by kernel_rfl) ?_
                    go_wp2
                    go_meet
                    exact ⟨by rw [HAL2.out]; simp, Aside0.mk HB.out⟩
                  | false =>
                    rw [e1, e2, e3] at HAL2
                    refine start_ (n := 30) (S := fun W => W.cell? ⟨gu, 0, none⟩ = some (.string nm) ∧ W.cell? ⟨gu, 1, none⟩ = some (.string vl)) (ds := []) (lb 30 0) (by kernel_rfl) rfl rfl (HSS.out _ zy0) (fun hHeld => ?_)
                    replace HB := Aside0.mk (below_drew1 HB.out)
                    generalize wu.drew = wud at HB hHeld ⊢
                    refine pure_ (i := 0) (N := some 29) (v := ?_) (a' := ?_) (lb 30 1) rfl rfl (by kernel_rfl) (fun _ _ _ h => h) (Or.inl ⟨by rfl, ?_⟩) ?_ ?_
                    rotate_left
                    · intro w'
                      go_simp
                      with_reducible rfl
                    rotate_left
                    · simp only [Act.put, zS, zT, zU, zV, zW]
                      rfl
                    refine pure_ (i := 1) (N := some 30) (v := ?_) (a' := ?_) (lb 30 3) rfl rfl (by kernel_rfl) (fun _ _ _ h => h) (Or.inl ⟨by rfl, ?_⟩) ?_ ?_
                    rotate_left
                    · intro w'
                      go_simp
                      with_reducible rfl
                    rotate_left
                    · simp only [Act.put, zS, zT, zU, zV, zW]
                      rfl
                    refine pure_ (i := 2) (N := some 31) (v := ?_) (a' := ?_) (lb 30 7) rfl rfl (by kernel_rfl) (fun _ _ _ h => h) (Or.inl ⟨by rfl, ?_⟩) ?_ ?_
                    rotate_left
                    · intro w'
                      go_simp
                      with_reducible rfl
                    rotate_left
                    · simp only [Act.put, zS, zT, zU, zV, zW]
                      rfl
                    refine take_ (i := 3) (N := some 32) (v := ?_) (a' := ?_) (lb 30 15) rfl rfl (by kernel_rfl) (fun _ _ _ h => h) (Or.inl ⟨by rfl, ?_⟩) hHeld ?_ ?_
                    rotate_left
                    · intro w' hS_
                      (try dsimp only at hS_)
                      obtain ⟨s0, s1⟩ := hS_
                      go_simp
                      with_reducible rfl
                    rotate_left
                    · simp only [Act.put, zS, zT, zU, zV, zW]
                      rfl
                    refine one_ (i := 4) (N := some 33) (lb 30 31) rfl rfl (by kernel_rfl) zy6 (fun K hK => ?_)
                    refine goes_ Tryz.func31 (by kernel_rfl) rfl #[.string nm] (by rfl) rfl rfl zy5 ?_
                    refine (HTK.out _).mono ?_
                    rintro e wv1 ⟨rfl, hb⟩
                    refine ⟨_, rfl, ?_⟩
                    replace HB := Aside0.mk (below_step HB.out hb)
                    clear hb
                    refine hK.out _ _ (HSS.out _ zy0) (fun hHeld => ?_)
                    clear hK K
                    refine norm_ (a' := ?_) ?_ ?_
                    rotate_left
                    · show Act.put _ (some 33) _ = _
                      simp only [Act.put, zS, zT, zU, zV, zW]
                      rfl
                    refine pure_ (i := 5) (N := some 34) (v := ?_) (a' := ?_) (lb 30 63) rfl rfl (by kernel_rfl) (fun _ _ _ h => h) (Or.inl ⟨by rfl, ?_⟩) ?_ ?_
                    rotate_left
                    · intro w'
                      go_simp
                      with_reducible rfl
                    rotate_left
                    · simp only [Act.put, zS, zT, zU, zV, zW]
                      rfl
                    refine pure_ (i := 6) (N := some 35) (v := ?_) (a' := ?_) (lb 30 127) rfl rfl (by kernel_rfl) (fun _ _ _ h => h) (Or.inl ⟨by rfl, ?_⟩) ?_ ?_
                    rotate_left
                    · intro w'
                      go_simp
                      with_reducible rfl
                    rotate_left
                    · simp only [Act.put, zS, zT, zU, zV, zW]
                      rfl
                    refine pure_ (i := 7) (N := some 36) (v := ?_) (a' := ?_) (lb 30 255) rfl rfl (by kernel_rfl) (fun _ _ _ h => h) (Or.inl ⟨by rfl, ?_⟩) ?_ ?_
                    rotate_left
                    · intro w'
                      go_simp
                      with_reducible rfl
                    rotate_left
                    · simp only [Act.put, zS, zT, zU, zV, zW]
                      rfl
                    refine pure_ (i := 10) (N := some 39) (v := ?_) (a' := ?_) (lb 30 1279) rfl rfl (by kernel_rfl) (fun _ _ _ h => h) (Or.inl ⟨by rfl, ?_⟩) ?_ ?_
                    rotate_left
                    · intro w'
                      go_simp
                      with_reducible rfl
                    rotate_left
                    · simp only [Act.put, zS, zT, zU, zV, zW]
                      rfl
                    refine take_ (i := 8) (N := some 37) (v := ?_) (a' := ?_) (lb 30 1535) rfl rfl (by kernel_rfl) (fun _ _ _ h => h) (Or.inl ⟨by rfl, ?_⟩) hHeld ?_ ?_
                    rotate_left
                    · intro w' hS_
                      (try dsimp only at hS_)
                      obtain ⟨s0, s1⟩ := hS_
                      go_simp
                      with_reducible rfl
                    rotate_left
                    · simp only [Act.put, zS, zT, zU, zV, zW]
                      rfl
                    refine take_ (i := 11) (N := some 40) (v := ?_) (a' := ?_) (lb 30 3583) rfl rfl (by kernel_rfl) (fun _ _ _ h => h) (Or.inl ⟨by rfl, ?_⟩) hHeld ?_ ?_
                    rotate_left
                    · intro w' hS_
                      (try dsimp only at hS_)
                      obtain ⟨s0, s1⟩ := hS_
                      go_simp
                      with_reducible rfl
                    rotate_left
                    · simp only [Act.put, zS, zT, zU, zV, zW]
                      rfl
                    refine one_ (i := 9) (N := some 38) (lb 30 4095) rfl rfl (by kernel_rfl) zy6 (fun K hK => ?_)
                    refine goes_ Tryz.func59 (by kernel_rfl) rfl #[.string nm] (by rfl) rfl rfl zy5 ?_
                    refine (HLOW.out _).mono ?_
                    rintro e wv2 ⟨rfl, hb⟩
                    refine ⟨_, rfl, ?_⟩
                    replace HB := Aside0.mk (below_step HB.out hb)
                    clear hb
                    refine hK.out _ _ (HSS.out _ zy0) (fun hHeld => ?_)
                    clear hK K
                    refine norm_ (a' := ?_) ?_ ?_
                    rotate_left
                    · show Act.put _ (some 38) _ = _
                      simp only [Act.put, zS, zT, zU, zV, zW]
                      rfl
                    refine pure_ (i := 12) (N := some 41) (v := ?_) (a' := ?_) (lb 30 8191) rfl rfl (by kernel_rfl) (fun _ _ _ h => h) (Or.inl ⟨by rfl, ?_⟩) ?_ ?_
                    rotate_left
                    · intro w'
                      go_simp
                      with_reducible rfl
                    rotate_left
                    · simp only [Act.put, zS, zT, zU, zV, zW]
                      rfl
                    refine pure_ (i := 13) (N := some 42) (v := ?_) (a' := ?_) (lb 30 16383) rfl rfl (by kernel_rfl) (fun _ _ _ h => h) (Or.inl ⟨by rfl, ?_⟩) ?_ ?_
                    rotate_left
                    · intro w'
                      go_simp
                      with_reducible rfl
                    rotate_left
                    · simp only [Act.put, zS, zT, zU, zV, zW]
                      rfl
                    refine pure_ (i := 14) (N := some 43) (v := ?_) (a' := ?_) (lb 30 32767) rfl rfl (by kernel_rfl) (fun _ _ _ h => h) (Or.inl ⟨by rfl, ?_⟩) ?_ ?_
                    rotate_left
                    · intro w'
                      go_simp
                      with_reducible rfl
                    rotate_left
                    · simp only [Act.put, zS, zT, zU, zV, zW]
                      rfl
                    refine pure_ (i := 15) (N := some 44) (v := ?_) (a' := ?_) (lb 30 65535) rfl rfl (by kernel_rfl) (fun _ _ _ h => h) (Or.inl ⟨by rfl, ?_⟩) ?_ ?_
                    rotate_left
                    · intro w'
                      go_simp
                      with_reducible rfl
                    rotate_left
                    · simp only [Act.put, zS, zT, zU, zV, zW]
                      rfl
                    refine take_ (i := 16) (N := some 45) (v := ?_) (a' := ?_) (lb 30 131071) rfl rfl (by kernel_rfl) (fun _ _ _ h => h) (Or.inl ⟨by rfl, ?_⟩) hHeld ?_ ?_
                    rotate_left
                    · intro w' hS_
                      (try dsimp only at hS_)
                      obtain ⟨s0, s1⟩ := hS_
                      go_simp
                      with_reducible rfl
                    rotate_left
                    · simp only [Act.put, zS, zT, zU, zV, zW]
                      rfl
                    refine pure_ (i := 17) (N := some 46) (v := ?_) (a' := ?_) (lb 30 262143) rfl rfl (by kernel_rfl) (fun _ _ _ h => h) (Or.inl ⟨by rfl, ?_⟩) ?_ ?_
                    rotate_left
                    · intro w'
                      go_simp
                      with_reducible rfl
                    rotate_left
                    · simp only [Act.put, zS, zT, zU, zV, zW]
                      rfl
                    refine pure_ (i := 18) (N := some 47) (v := ?_) (a' := ?_) (lb 30 524287) rfl rfl (by kernel_rfl) (fun _ _ _ h => h) (Or.inl ⟨by rfl, ?_⟩) ?_ ?_
                    rotate_left
                    · intro w'
                      go_simp
                      with_reducible rfl
                    rotate_left
                    · simp only [Act.put, zS, zT, zU, zV, zW]
                      rfl
                    refine pure_ (i := 19) (N := some 48) (v := ?_) (a' := ?_) (lb 30 1048575) rfl rfl (by kernel_rfl) (fun _ _ _ h => h) (Or.inl ⟨by rfl, ?_⟩) ?_ ?_
                    rotate_left
                    · intro w'
                      go_simp
                      with_reducible rfl
                    rotate_left
                    · simp only [Act.put, zS, zT, zU, zV, zW]
                      rfl
                    refine pure_ (i := 20) (N := some 49) (v := ?_) (a' := ?_) (lb 30 2097151) rfl rfl (by kernel_rfl) (fun _ _ _ h => h) (Or.inl ⟨by rfl, ?_⟩) ?_ ?_
                    rotate_left
                    · intro w'
                      go_simp
                      with_reducible rfl
                    rotate_left
                    · simp only [Act.put, zS, zT, zU, zV, zW]
                      rfl
                    refine take_ (i := 21) (N := some 50) (v := ?_) (a' := ?_) (lb 30 4194303) rfl rfl (by kernel_rfl) (fun _ _ _ h => h) (Or.inl ⟨by rfl, ?_⟩) hHeld ?_ ?_
                    rotate_left
                    · intro w' hS_
                      (try dsimp only at hS_)
                      obtain ⟨s0, s1⟩ := hS_
                      go_simp
                      with_reducible rfl
                    rotate_left
                    · simp only [Act.put, zS, zT, zU, zV, zW]
                      rfl
                    refine pure_ (i := 22) (N := some 51) (v := ?_) (a' := ?_) (lb 30 8388607) rfl rfl (by kernel_rfl) (fun _ _ _ h => h) (Or.inl ⟨by rfl, ?_⟩) ?_ ?_
                    rotate_left
                    · intro w'
                      go_simp
                      with_reducible rfl
                    rotate_left
                    · simp only [Act.put, zS, zT, zU, zV, zW]
                      rfl
                    refine pure_ (i := 23) (N := some 52) (v := ?_) (a' := ?_) (lb 30 16777215) rfl rfl (by kernel_rfl) (fun _ _ _ h => h) (Or.inl ⟨by rfl, ?_⟩) ?_ ?_
                    rotate_left
                    · intro w'
                      go_simp
                      with_reducible rfl
                    rotate_left
                    · simp only [Act.put, zS, zT, zU, zV, zW]
                      rfl
                    refine pure_ (i := 24) (N := some 53) (v := ?_) (a' := ?_) (lb 30 33554431) rfl rfl (by kernel_rfl) (fun _ _ _ h => h) (Or.inl ⟨by rfl, ?_⟩) ?_ ?_
                    rotate_left
                    · intro w'
                      go_simp
                      with_reducible rfl
                    rotate_left
                    · simp only [Act.put, zS, zT, zU, zV, zW]
                      rfl
                    refine pure_ (i := 25) (N := some 54) (v := ?_) (a' := ?_) (lb 30 67108863) rfl rfl (by kernel_rfl) (fun _ _ _ h => h) (Or.inl ⟨by rfl, ?_⟩) ?_ ?_
                    rotate_left
                    · intro w'
                      go_simp
                      with_reducible rfl
                    rotate_left
                    · simp only [Act.put, zS, zT, zU, zV, zW]
                      rfl
                    refine take_ (i := 26) (N := some 55) (v := ?_) (a' := ?_) (lb 30 134217727) rfl rfl (by kernel_rfl) (fun _ _ _ h => h) (Or.inl ⟨by rfl, ?_⟩) hHeld ?_ ?_
                    rotate_left
                    · intro w' hS_
                      (try dsimp only at hS_)
                      obtain ⟨s0, s1⟩ := hS_
                      go_simp
                      with_reducible rfl
                    rotate_left
                    · simp only [Act.put, zS, zT, zU, zV, zW]
                      rfl
                    refine one_ (i := 27) (N := some 56) (lb 30 268435455) rfl rfl (by kernel_rfl) zy6 (fun K hK => ?_)
                    refine goes_ Tryz.func41 (by kernel_rfl) rfl #[.string vl] (by rfl) rfl rfl zy5 ?_
                    refine (HVAL.out _).mono ?_
                    rintro e wv3 ⟨rfl, hb⟩
                    refine ⟨_, rfl, ?_⟩
                    replace HB := Aside0.mk (below_step HB.out hb)
                    clear hb
                    refine hK.out _ _ (HSS.out _ zy0) (fun hHeld => ?_)
                    clear hK K
                    refine norm_ (a' := ?_) ?_ ?_
                    rotate_left
                    · show Act.put _ (some 56) _ = _
                      simp only [Act.put, zS, zT, zU, zV, zW]
                      rfl
                    refine pure_ (i := 28) (N := some 57) (v := ?_) (a' := ?_) (lb 30 536870911) rfl rfl (by kernel_rfl) (fun _ _ _ h => h) (Or.inl ⟨by rfl, ?_⟩) ?_ ?_
                    rotate_left
                    · intro w'
                      go_simp
                      with_reducible rfl
                    rotate_left
                    · simp only [Act.put, zS, zT, zU, zV, zW]
                      rfl
                    refine pure_ (i := 29) (N := some 9) (v := ?_) (a' := ?_) (lb 30 1073741823) rfl rfl (by kernel_rfl) (fun _ _ _ h => h) (Or.inl ⟨by rfl, ?_⟩) ?_ ?_
                    rotate_left
                    · intro w'
                      go_simp
                      with_reducible rfl
                    rotate_left
                    · simp only [Act.put, zS, zT, zU, zV, zW]
                      rfl
                    refine done_ (by kernel_rfl) ?_
                    go_wp2
                    go_meet
                    exact ⟨by rw [HAL2.out]; simp, Aside0.mk HB.out⟩
        case rest =>
          obtain ⟨rfl, HX⟩ := hcut
          have hsz : (hdT ⟨nm, vl⟩).size = nm.size + vl.size + 4 := by have := hdT_size ⟨nm, vl⟩; simpa using this
          have hw2 := wstr_any (w.heap.size + 1) w.heap.size (pre ++ hdsL (l.take kk)) (hdT ⟨nm, vl⟩) wc (HWU.out.below HX.out).bld (by have := HLE.out; have := HSZ.out; have := HPL.out; rw [List.length_append]; omega) (HWU.out.below HX.out).big
          have e5 : hdT ⟨nm, vl⟩ = nm ++ ⟨#[58, 32]⟩ ++ vl ++ ⟨#[13, 10]⟩ := rfl
          rw [e5] at hw2
          have k1 : ¬ 9223372036854775807 < nm.size + 2 := by have := HLE.out; have := HSZ.out; omega
          have k2 : ¬ 9223372036854775807 < nm.size + 2 + vl.size := by have := HLE.out; have := HSZ.out; omega
          have k3 : ¬ 9223372036854775807 < nm.size + 2 + vl.size + 2 := by have := HLE.out; have := HSZ.out; omega
          have y0 : wc.cell? ⟨gu, 0, none⟩ = some (.string nm) := (HX.out.cell (p := ⟨gu, 0, none⟩) (blk_lt BK.out)).trans (blk_cell BK.out 0)
          have y1 : wc.cell? ⟨gu, 1, none⟩ = some (.string vl) := (HX.out.cell (p := ⟨gu, 1, none⟩) (blk_lt BK.out)).trans (blk_cell BK.out 1)
          clear e5 hsz
          go_wp2_with (go_at_call 75; go_loud ((with_reducible refine hw2.mono ?_); rintro e w3 ⟨rfl, h3⟩; have H3 := Aside0.mk h3; clear h3))
          go_roundg (n - (kk + 1))
          case measure => omega
          case rel =>
            have hi := HWU.out.below HX.out
            refine ⟨kk + 1, by omega, by omega, rfl, by go_num, Aside0.mk ⟨?_, hi.bel.trans (H3.out.kept.below zy4 (Nat.le_refl _) (by have := hi.big; omega)), Nat.le_trans hi.big H3.out.kept.size⟩⟩
            rw [HSN.out, ← List.append_assoc]
            exact H3.out.bld
      · have : kk = n := by omega
        subst this
        have hltz : ¬ (kk : Int) < (kk : Int) := by omega
        have hit := fun W (hb : Below w.heap.size w W) => itoa_any (body.size : Int) zy4 (by have := HSZ.out.2.2; omega) W (HL.later hb)
        have hil := Lib.itoa_length_le (body.size : Int) zy4 (by have := HSZ.out.2.2; omega)
        have hils : (itoaN (body.size : Int)).size = (Lib.itoa (body.size : Int)).length := rfl
        rw [← hils] at hil
        have e7 : lenT body = ⟨#[99, 111, 110, 116, 101, 110, 116, 45, 108, 101, 110, 103, 116, 104, 58, 32]⟩ ++ itoaN body.size ++ ⟨#[13, 10, 13, 10]⟩ := rfl
        have hls : (lenT body).size = (itoaN (body.size : Int)).size + 20 := by
          have e1 : (⟨#[99, 111, 110, 116, 101, 110, 116, 45, 108, 101, 110, 103, 116, 104, 58, 32]⟩ : ByteArray).size = 16 := rfl
          have e2 : (⟨#[13, 10, 13, 10]⟩ : ByteArray).size = 4 := rfl
          rw [e7, ByteArray.size_append, ByteArray.size_append, e1, e2]; omega
        have htk : l.take kk = l := List.take_of_length_le (by have := HN.out; omega)
        have hbd := HW.out.bld
        rw [htk] at hbd
        have hHW := HW.out
        have hws := fun W (hb : Below wr.heap.size wr W) => wstr_any (w.heap.size + 1) w.heap.size (pre ++ hdsL l) (lenT body) W (hbd.later hb) (by have := HSZ.out; have := HPL.out; rw [List.length_append]; omega) (Nat.le_trans hHW.big hb.size)
        rw [← HEAD.out, e7] at hws
        obtain ⟨is, his⟩ : ∃ is, is = (b0 && l.all okHd) := ⟨_, rfl⟩
        rw [htk, ← his]
        have hwn : writeN line l body = if (is && decide ((headT line l body).length ≤ 8192)) = true then (⟨(headT line l body).toArray⟩ ++ body, 0) else (ByteArray.empty, 2) := by
          unfold writeN
          rw [his, HB0.out]
        have HWN := Aside0.mk hwn
        have k1 : ¬ 9223372036854775807 < 16 + (itoaN (body.size : Int)).size := by omega
        have k2 : ¬ 9223372036854775807 < 16 + (itoaN (body.size : Int)).size + 4 := by omega
        have HE7 := Aside0.mk e7
        have HLS := Aside0.mk hls
        have hit2 := hit wr HW.out.bel
        clear hwn his htk hbd hil hils hls e7 hHW hit HEAD
        generalize headT line l body = hd at *
        cases is with
        | false =>
          go_wp2_with (first | (go_at_call 54; ((with_reducible refine hit2.mono ?_)); rintro e w5 ⟨rfl, hb5⟩; have H5 := Aside0.mk hb5; clear hb5) | (go_at_call 75; go_loud ((with_reducible refine (hws _ H5.out).mono ?_); rintro e w6 ⟨rfl, h6⟩; have H6 := Aside0.mk h6; clear h6)))
          go_ret2
          rw [HWN.out]
          exact ⟨rfl, (HW.out.bel.trans (H5.out.mono HW.out.bel.size)).trans (H6.out.kept.below zy4 (Nat.le_refl _) (by have := HW.out.bel.size; have := H5.out.size; omega))⟩
        | true =>
          have hlen := fun W (hb : Bld (w.heap.size + 1) w.heap.size hd W) => blen_any (w.heap.size + 1) w.heap.size hd W hb
          have hstr := fun W (hb : Bld (w.heap.size + 1) w.heap.size hd W) (hB : w.heap.size ≤ W.heap.size) => bstring_any (w.heap.size + 1) w.heap.size w.heap.size hd W hb zy4 (Nat.le_refl _) hB
          by_cases hbig : 8192 < hd.length
          · have hbz : (8192 : Int) < (hd.length : Int) := by omega
            go_wp2_with (first | (go_at_call 54; ((with_reducible refine hit2.mono ?_)); rintro e w5 ⟨rfl, hb5⟩; have H5 := Aside0.mk hb5; clear hb5) | (go_at_call 75; ((with_reducible refine (hws _ H5.out).mono ?_)); rintro e w6 ⟨rfl, h6⟩; have H6 := Aside0.mk h6; clear h6) | (go_at_call 78; go_loud ((with_reducible refine (hlen _ H6.out.bld).mono ?_); rintro e w7 ⟨rfl, rfl⟩)))
            go_ret2
            rw [HWN.out, decide_eq_false (by omega : ¬ hd.length ≤ 8192)]
            exact ⟨rfl, (HW.out.bel.trans (H5.out.mono HW.out.bel.size)).trans (H6.out.kept.below zy4 (Nat.le_refl _) (by have := HW.out.bel.size; have := H5.out.size; omega))⟩
          · have hbz : ¬ (8192 : Int) < (hd.length : Int) := by omega
            have k3 : ¬ 9223372036854775807 < hd.length + body.size := by have := HSZ.out.2.2; omega
            go_wp2_with (first | (go_at_call 54; ((with_reducible refine hit2.mono ?_)); rintro e w5 ⟨rfl, hb5⟩; have H5 := Aside0.mk hb5; clear hb5) | (go_at_call 75; ((with_reducible refine (hws _ H5.out).mono ?_)); rintro e w6 ⟨rfl, h6⟩; have H6 := Aside0.mk h6; clear h6) | (go_at_call 78; go_loud ((with_reducible refine (hlen _ H6.out.bld).mono ?_); rintro e w7 ⟨rfl, rfl⟩)) | (go_at_call 76; ((with_reducible refine (hstr _ H6.out.bld (by have := HW.out.bel.size; have := H5.out.size; have := H6.out.kept.size; omega)).mono ?_)); rintro e w8 ⟨rfl, hb8, hk8⟩; have H8 := Aside0.mk hb8; clear hb8 hk8))
            go_ret2
            rw [HWN.out, decide_eq_true (by omega : hd.length ≤ 8192)]
            exact ⟨rfl, ((HW.out.bel.trans (H5.out.mono HW.out.bel.size)).trans (H6.out.kept.below zy4 (Nat.le_refl _) (by have := HW.out.bel.size; have := H5.out.size; omega))).trans H8.out⟩
end Go.Proofs.YtddjhmelniphgaaGreatDoor.Print
