/- Contract of sha.Bytes. -/
import Derived.Test.YtkcjekboakoejaaHSHex
import Derived.Laws.OwnMore
import Derived.Deep.AppendLies
import Derived.Laws.IdiomStrings
namespace Go.Proofs.Ytkcjekboakoejaa.Print
open Go Go.RowKit Go.Proofs.YtkcjekboakoejaaW.PrintWords
set_option linter.unusedVariables false
set_option linter.unusedSimpArgs false

/-- What a small digit of sixteen stands for; 16: it is none. -/
def nibN (c : UInt8) : Nat := if 48 ≤ c.toNat ∧ c.toNat ≤ 57 then c.toNat - 48 else if 97 ≤ c.toNat ∧ c.toNat ≤ 102 then c.toNat - 87 else 16
def unhexN : List UInt8 → List UInt8
  | [] => []
  | [c] => [UInt8.ofNat (nibN c)]
  | c :: e :: r => UInt8.ofNat (nibN c * 16 + nibN e) :: unhexN r
theorem unhex_len : ∀ l, (unhexN l).length = (l.length + 1) / 2
  | [] => rfl
  | [c] => by simp [unhexN]
  | c :: e :: r => by simp only [unhexN, List.length_cons, unhex_len r]; omega
theorem unhex_even (x : UInt8) : ∀ (l : List UInt8) (j : Nat), l.length = 2 * j → unhexN (l ++ [x]) = unhexN l ++ [UInt8.ofNat (nibN x)]
  | [], _, _ => rfl
  | [c], j, h => by simp at h; omega
  | c :: e :: r, j, h => by
    simp only [List.cons_append, unhexN]
    rw [unhex_even x r (j - 1) (by simp at h; omega)]
theorem unhex_odd (x : UInt8) : ∀ (l : List UInt8) (j : Nat), l.length = 2 * j + 1 → (∀ c ∈ l, nibN c < 16) → ((unhexN l).getD j 0).toNat < 16 ∧ unhexN (l ++ [x]) = (unhexN l).set j (UInt8.ofNat (((unhexN l).getD j 0).toNat * 16 + nibN x))
  | [], j, h, _ => by simp at h
  | [c], j, h, hv => by
    have hj : j = 0 := by simp at h; omega
    subst hj
    have hc := hv c (by simp)
    have e : (UInt8.ofNat (nibN c)).toNat = nibN c := by simp; omega
    show (UInt8.ofNat (nibN c)).toNat < 16 ∧ _
    refine ⟨by rw [e]; exact hc, ?_⟩
    show [UInt8.ofNat (nibN c * 16 + nibN x)] = [UInt8.ofNat ((UInt8.ofNat (nibN c)).toNat * 16 + nibN x)]
    rw [e]
  | c :: e :: r, j, h, hv => by
    obtain ⟨j, rfl⟩ : ∃ i, j = i + 1 := ⟨j - 1, by simp at h; omega⟩
    obtain ⟨h1, h2⟩ := unhex_odd x r j (by simp at h; omega) (fun y hy => hv y (by simp [hy]))
    exact ⟨h1, by show _ :: unhexN (r ++ [x]) = _; rw [h2]; rfl⟩
theorem or_nib : ∀ (a b : Fin 16), bits .or .u8 ((a.val : Int) * 16) (b.val : Int) = ((a.val * 16 + b.val : Nat) : Int) := by decide +kernel
def digs : List UInt8 := [48, 49, 50, 51, 52, 53, 54, 55, 56, 57, 97, 98, 99, 100, 101, 102]
theorem find_dig : ∀ c : Fin 256, Lib.indexByte digs (UInt8.ofNat c.val) = if nibN (UInt8.ofNat c.val) < 16 then (nibN (UInt8.ofNat c.val) : Int) else -1 := by decide +kernel
theorem find_any (c : UInt8) (w : World) : Calls Try.prog 54 #[.string ⟨#[48, 49, 50, 51, 52, 53, 54, 55, 56, 57, 97, 98, 99, 100, 101, 102]⟩, .int .u8 c.toNat] w fun e w' => e = .returned (.int .i64 (if nibN c < 16 then (nibN c : Int) else -1)) ∧ w = w' := by
  have h := Try.strings_IndexByte ⟨#[48, 49, 50, 51, 52, 53, 54, 55, 56, 57, 97, 98, 99, 100, 101, 102]⟩ c.toNat w
  have hc := find_dig ⟨c.toNat, c.toNat_lt⟩
  have e1 : ((c.toNat : Int)).toNat.toUInt8 = c := by simp
  have e2 : UInt8.ofNat c.toNat = c := by simp
  rw [e1] at h
  simp only [e2] at hc
  rw [← hc]
  exact h.mono fun _ _ ⟨h1, h2⟩ => ⟨h1, h2.symm⟩
/-- sha.Bytes. -/
def unhexV (l : List UInt8) : Value := if l.all (fun c => decide (nibN c < 16)) && l.length % 2 == 0 then .tuple #[.string ⟨(unhexN l).toArray⟩, .bool true] else .tuple #[.string ⟨#[]⟩, .bool false]
def encU (l : List UInt8) : List Value := l.map (fun x : UInt8 => Value.int .u8 x.toNat)
set_option maxRecDepth 100000 in
set_option maxHeartbeats 4000000 in
theorem unhex_any (s : ByteArray) (hs : s.size ≤ 8192) (w : World) : Calls Try.prog 36 #[.string s] w fun e w' => e = .returned (unhexV s.data.toList) ∧ Below w.heap.size w w' := by
  obtain ⟨i0, hi, hz0, hz1, hz2⟩ := info_parts bld_info
  have hcv := Lib.run_convert_string_bytes (P := Try.prog) w 9 59 5 s (u := .string) Try.underlying9 Try.underlying59 Try.underlying5
  obtain ⟨W2, hW2⟩ : ∃ W2, W2 = Lib.bytesWorld w 5 s := ⟨_, rfl⟩
  rw [← hW2] at hcv
  have hbel2 : Below w.heap.size w W2 := by rw [hW2]; exact Lib.bytesWorld_below _ _ _
  have hz2' : W2.heap.size = w.heap.size + 1 := by rw [hW2]; simp [Lib.bytesWorld, World.freeze]
  have hB : ∀ j, j < s.size → W2.cell? ⟨w.heap.size, j, none⟩ = some (.int .u8 (s.data.toList.getD j 0).toNat) := fun j hj => by
    rw [hW2]; exact Lib.bytesWorld_cell w 5 s j hj
  have HB := Aside0.mk (show (∀ j, j < s.size → W2.cell? ⟨w.heap.size, j, none⟩ = some (.int .u8 (s.data.toList.getD j 0).toNat)) ∧ Below w.heap.size w W2 ∧ w.heap.size + 1 = W2.heap.size from ⟨hB, hbel2, hz2'.symm⟩)
  clear hbel2 hB hz2' hW2
  generalize hcap : grownCap _ s.size 0 _ = cap at hcv
  clear hcap
  have HS := Aside0.mk hs
  clear hs
  go_enter Try.func36, Try.ntmps36
  go_wp2
  go_loopw [4, 11] (fun v i W => ∃ k : Nat, k ≤ s.size ∧ i = .int .i64 k ∧ Aside0 (W.ownsRow (w.heap.size + 1) 5 1 v ((k + 1) / 2) (encU (unhexN (s.data.toList.take k))) ∧ Below (w.heap.size + 1) W2 W ∧ ∀ c ∈ s.data.toList.take k, nibN c < 16)) (fun _ i _ => s.size - (intOf i).toNat)
  case atStart => exact ⟨0, Nat.zero_le _, rfl, Aside0.mk ⟨World.ownsRow_nil _ _ _ _, Below.refl _ _, by simp⟩⟩
  case round =>
    obtain ⟨k, hk, rfl, HR⟩ := hrel
    by_cases hks : k < s.size
    · have hc : wr.cell? ⟨w.heap.size, k, none⟩ = some (.int .u8 (s.data.toList.getD k 0).toNat) := by
        rw [World.cell?_of_block (a := ⟨w.heap.size, k, none⟩) (HR.out.2.1.block w.heap.size (by omega))]
        exact HB.out.1 k hks
      have hlk : (s.data.toList.take k).length = k := by simp; omega
      have hts := take_snoc' s.data.toList k (by simpa using hks)
      have hmem : s.data.toList.getD k 0 ∈ s.data.toList := by
        rw [List.getD_eq_getElem?_getD, List.getElem?_eq_getElem (by simpa using hks)]; simp
      have hev := unhex_even (s.data.toList.getD k 0) (s.data.toList.take k)
      have hod := unhex_odd (s.data.toList.getD k 0) (s.data.toList.take k)
      have hul := unhex_len (s.data.toList.take k)
      rw [← hts] at hev hod
      have hkb : (k : Int) < 8192 := by have := HS.out; omega
      have hfd := fun W => find_any (s.data.toList.getD k 0) W
      by_cases hn : nibN (s.data.toList.getD k 0) < 16
      · have hval : ∀ c ∈ s.data.toList.take (k + 1), nibN c < 16 := by
          intro c hc'
          rw [hts] at hc'
          rcases List.mem_append.1 hc' with h | h
          · exact HR.out.2.2 c h
          · simp only [List.mem_singleton] at h; rw [h]; exact hn
        simp only [if_pos hn] at hfd
        have HVAL := Aside0.mk hval
        clear hts hval
        have hn0 : (nibN (s.data.toList.getD k 0) : Int) < 16 := by omega
        have hn1 : (0 : Int) ≤ (nibN (s.data.toList.getD k 0) : Int) := by omega
        generalize s.data.toList.getD k 0 = c at *
        generalize nibN c = d at *
        have hul' : (unhexN (s.data.toList.take k)).length = (k + 1) / 2 := by rw [hul, hlk]
        have hown := HR.out.1
        have HBL := Aside0.mk HR.out.2.1
        have HV0 := Aside0.mk HR.out.2.2
        clear HR hul
        by_cases hp : k % 2 = 0
        · have hst := hev (k / 2) (by omega)
          have hmod : ((k : Int) % 2 == 0) = true := by simp; omega
          have HKN := Aside0.mk (show (k + 1) / 2 + 1 = (k + 1 + 1) / 2 ∧ (k + 1) / 2 ≤ k from ⟨by omega, by omega⟩)
          clear hev hod hlk hp
          generalize unhexN (s.data.toList.take k) = m0 at *
          have HST := Aside0.mk hst
          clear hst
          have HM := Aside0.mk hul'
          clear hul'
          generalize (k + 1) / 2 = n at *
          have hwr : w.heap.size + 1 ≤ wr.heap.size := by have := HB.out.2.2; have := HBL.out.size; omega
          go_wp2_with (first | (go_at_call 54; refine (hfd _).mono ?_; rintro e w' ⟨rfl, rfl⟩) | (at_builtin; refine wpList_append_own _ rfl _ _ 59 rfl (w.heap.size + 1) 5 i0 (.int .u8 0) 1 1 Try.underlying59 hi hz0 hz1 hz2 rfl (by decide) _ _ _ rfl (hown.alloc _) ⟨wr.heap.size, 0, none⟩ 1 1 [.int .u8 d] rfl rfl ?c1 ?c2 ?c3 ?c4 ?c5 ?_))
          case c1 =>
            intro j u hj
            match j, hj with
            | 0, hj => simp at hj; subst hj; simp [Addr.add]
          case c2 => intro u hu; simp at hu; subst hu; rfl
          case c3 => unfold maxLen; have := HKN.out.2; omega
          case c4 => have := HKN.out.2; omega
          case c5 => simp; omega
          intro v' w2 hown' hgrow _
          have hlw : ∀ k, u4.ownBlock = some k → w.heap.size + 1 ≤ k := fun k hk => (hown.lt k hk).1
          have HLW := Aside0.mk hlw
          have HO := Aside0.mk hown'
          have HG := Aside0.mk hgrow
          clear hown hown' hgrow hlw
          go_wp2
          go_roundw
          case rel =>
            refine ⟨k + 1, by omega, by go_num, Aside0.mk ⟨?_, (HBL.out.alloc hwr _).grown HG.out (by simp; omega) HLW.out, HVAL.out⟩⟩
            rw [← HKN.out.1, HST.out]
            have em : encU (m0 ++ [UInt8.ofNat d]) = encU m0 ++ [.int .u8 (d : Int)] := by
              unfold encU
              rw [List.map_append]
              have : (UInt8.ofNat d).toNat = d := by simp; omega
              simp [this]
            rw [em]
            exact HO.out
          case measure => simp [intOf]; omega
        · obtain ⟨j, hj⟩ : ∃ j, k = 2 * j + 1 := ⟨k / 2, by omega⟩
          obtain ⟨hy, hst⟩ := hod j (by omega) HV0.out
          have hmod : ((k : Int) % 2 == 0) = false := by simp; omega
          have hdiv : (k : Int) / 2 = (j : Int) := by omega
          have hkn : (k + 1) / 2 = j + 1 := by omega
          have hkn2 : (k + 1 + 1) / 2 = j + 1 := by omega
          rw [hkn] at hul' hown
          have HJ := Aside0.mk hj
          have HKN := Aside0.mk hkn2
          clear hev hod hlk hp hj hkn hkn2
          generalize unhexN (s.data.toList.take k) = m0 at *
          obtain ⟨g, cap, hv, _⟩ := hown.form (by omega)
          subst hv
          have hcj := hown.cellAt j (by omega)
          have hfj := hown.frozenAt j
          have hsto := fun u => hown.stored j u
          have hcj' : wr.cell? ⟨g, j, none⟩ = some (.int .u8 ((m0.getD j 0).toNat : Int)) := by
            rw [hcj]; unfold encU; rw [List.getElem?_map, List.getElem?_eq_getElem (by omega)]; simp [List.getD, List.getElem?_eq_getElem (show j < m0.length by omega)]
          clear hcj
          generalize m0.getD j 0 = y at *
          have HST := Aside0.mk hst
          have HSTO := Lib.hid hsto
          have HM := Aside0.mk hul'
          have hgl := Aside0.mk (hown.lt g rfl)
          clear hst hsto hul' hown
          have hy0 : (y.toNat : Int) < 16 := by omega
          go_wp2_with (go_at_call 54; refine (hfd _).mono ?_; rintro e w' ⟨rfl, rfl⟩)
          refine ⟨⟨k + 1, by omega, by go_num, Aside0.mk ⟨?_, HBL.out.setCell (p := ⟨g, j, none⟩) hgl.out.1 _, HVAL.out⟩⟩, by simp [intOf]; omega⟩
          rw [HKN.out, HST.out]
          have em : encU (m0.set j (UInt8.ofNat (y.toNat * 16 + d))) = (encU m0).set j (.int .u8 (bits .or .u8 ((y.toNat : Int) * 16) (d : Int))) := by
            unfold encU
            rw [List.map_set]
            have h1 : (UInt8.ofNat (y.toNat * 16 + d)).toNat = y.toNat * 16 + d := by simp; omega
            have h2 := or_nib ⟨y.toNat, hy⟩ ⟨d, hn⟩
            simp only at h2
            rw [h2, h1]
          rw [em]
          exact (HSTO.out _).1
      · simp only [if_neg hn] at hfd
        have hout : unhexV s.data.toList = .tuple #[.string ⟨#[]⟩, .bool false] := by
          unfold unhexV
          rw [if_neg]
          simp only [Bool.and_eq_true, List.all_eq_true, decide_eq_true_eq, not_and]
          exact fun h => absurd (h _ hmem) hn
        have HOUT := Aside0.mk hout
        clear hout hmem hev hod hul hts hlk
        generalize s.data.toList.getD k 0 = c at *
        clear hn
        have hbel : Below w.heap.size w wr := HB.out.2.1.trans (HR.out.2.1.mono (by omega))
        go_wp2_with (go_at_call 54; refine (hfd _).mono ?_; rintro e w' ⟨rfl, rfl⟩)
        go_ret2
        exact ⟨by rw [HOUT.out]; rfl, hbel⟩
    · obtain rfl : k = s.size := by omega
      have htk : s.data.toList.take s.size = s.data.toList := List.take_of_length_le (by simp)
      rw [htk] at HR
      have hbel : Below w.heap.size w wr := HB.out.2.1.trans (HR.out.2.1.mono (by omega))
      have hall : s.data.toList.all (fun c => decide (nibN c < 16)) = true := by simp only [List.all_eq_true, decide_eq_true_eq]; exact HR.out.2.2
      have hlen : s.data.toList.length = s.size := by simp
      have hkb : (s.size : Int) < 8193 := by have := HS.out; omega
      have hown := HR.out.1
      have hul := unhex_len s.data.toList
      clear HR htk hk hks
      by_cases hp : s.size % 2 = 0
      · have hout : unhexV s.data.toList = .tuple #[.string ⟨(unhexN s.data.toList).toArray⟩, .bool true] := by
          unfold unhexV; rw [if_pos (by rw [hall, hlen, hp]; rfl)]
        rw [hlen] at hul
        rw [← hul] at hown
        have hcvt : ∃ W, (convert 59 9 u4).run Try.prog wr = .ok (.string ⟨(unhexN s.data.toList).toArray⟩) W ∧ W = wr := by
          refine ⟨wr, ?_, rfl⟩
          rcases hown.2 with ⟨rfl, hn⟩ | ⟨g, cap, cur, rfl, _⟩
          · rw [List.eq_nil_of_length_eq_zero hn]
            rfl
          · refine run_convert_bytes_back wr 59 9 5 ⟨g, 0, none⟩ cap (unhexN s.data.toList) Try.underlying59 Try.underlying5 Try.underlying9 (fun j hj => ?_)
            exact hown.cells (g := g) rfl j (.int .u8 ((unhexN s.data.toList)[j].toNat : Int)) (by unfold encU; simp [hj])
        obtain ⟨_, hcvt, rfl⟩ := hcvt
        have HOUT := Aside0.mk hout
        have HUM := Aside0.mk hul
        have hmod : ((s.size : Int) % 2 == 1) = false := by simp; omega
        clear hall hout hlen hown hul hp
        generalize unhexN s.data.toList = m0 at *
        go_wp2
        go_ret2
        exact ⟨by rw [HOUT.out]; rfl, hbel⟩
      · have hout : unhexV s.data.toList = .tuple #[.string ⟨#[]⟩, .bool false] := by
          unfold unhexV; rw [if_neg (by rw [hall, hlen]; simp [hp])]
        have HOUT := Aside0.mk hout
        have hmod : ((s.size : Int) % 2 == 1) = true := by simp; omega
        clear hall hout hlen hown hul hp
        go_wp2
        go_ret2
        exact ⟨by rw [HOUT.out]; rfl, hbel⟩
end Go.Proofs.Ytkcjekboakoejaa.Print
