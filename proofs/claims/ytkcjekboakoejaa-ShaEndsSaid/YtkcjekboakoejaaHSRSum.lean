/- Contract of the reference's Sum. -/
import Derived.Test.YtkcjekboakoejaaHRowB
import Derived.Test.YtkcjekboakoejaaHSSum
import Derived.Test.YtkcjekboakoejaaPrint1
import Derived.Test.YtkcjekboakoejaaPrint2
import Derived.Deep.RegionHeld3
import Derived.Deep.AppendLies
import Derived.Test.YtkcjekboakoejaaQBlock
namespace Go.Proofs.Ytkcjekboakoejaa.Print
open Go Go.RowKit Go.Proofs.YtkcjekboakoejaaW.PrintWords Go.Proofs.YtkcjekboakoejaaW.PrintLast
set_option linter.unusedVariables false
set_option linter.unusedSimpArgs false

theorem nums_any (n : Int) (m : Int) (k : Nat) (l : List Int) (h : codicilref03_Numbers.f k n m = some l) (w : World) : Calls Try.prog 52 #[.int .i64 n, .int .i64 m] w fun e w' =>
    ∃ A c, e = .returned (.slice A l.length c) ∧ l.length ≤ c ∧ Kd.C (Kd.int .u32) w' A l.length l ∧ Below w.heap.size w w' := by
  refine (codicilref03_Numbers.calls k n m l w h).mono ?_
  rintro e w' ⟨v, rfl, hR, hb⟩
  obtain ⟨A, c, rfl, hl, hC⟩ := Kd.R_reads hR
  exact ⟨A, c, rfl, hl, hC, hb⟩
theorem blockr_any (k : Nat) (l0 l1 : List Int) (s : ByteArray) (r : List Int) (h : codicilref03_block.f k l0 l1 s = some r) (A0 A1 : Option Addr) (c0 c1 : Nat) (w : World)
    (h0 : Kd.C (Kd.int .u32) w A0 l0.length l0) (hc0 : l0.length ≤ c0) (h1 : Kd.C (Kd.int .u32) w A1 l1.length l1) (hc1 : l1.length ≤ c1) :
    Calls Try.prog 53 #[.slice A0 l0.length c0, .slice A1 l1.length c1, .string s] w fun e w' =>
      ∃ A c, e = .returned (.slice A r.length c) ∧ r.length ≤ c ∧ Kd.C (Kd.int .u32) w' A r.length r ∧ Below w.heap.size w w' := by
  refine (codicilref03_block.calls k A0 c0 l0 A1 c1 l1 s r w h0 hc0 h1 hc1 h).mono ?_
  rintro e w' ⟨v, rfl, hR, hb⟩
  obtain ⟨A, c, rfl, hl, hC⟩ := Kd.R_reads hR
  exact ⟨A, c, rfl, hl, hC, hb⟩
def ksI : List Int := natI ksN
theorem ksI_len : ksI.length = 64 := by unfold ksI; rw [natI_len]; exact ks_len
theorem pad_cong (n k : Nat) (h : k ≤ (119 - n % 64) % 64) : (k < (119 - n % 64) % 64 → (n + 1 + k) % 64 ≠ 56) ∧ (k = (119 - n % 64) % 64 → (n + 1 + k) % 64 = 56) := by omega
/-- The text, a byte 128, k zeros. -/
def pz (l : List UInt8) (k : Nat) : List UInt8 := l ++ 128 :: List.replicate k 0
theorem pz_len (l : List UInt8) (k : Nat) : (pz l k).length = l.length + 1 + k := by simp [pz]; omega
theorem pz_snoc (l : List UInt8) (k : Nat) : pz l k ++ [0] = pz l (k + 1) := by simp [pz, List.replicate_succ']
theorem repL0 : ∀ k, Lib.repeatL [0] k = List.replicate k (0 : UInt8)
  | 0 => rfl
  | k + 1 => by simp [Lib.repeatL, repL0 k, List.replicate_succ]
theorem pz_padK (a : ByteArray) : pz a.data.toList ((119 - a.size % 64) % 64) = (padK a 0).data.toList := by
  have : (padK a 0).data.toList = a.data.toList ++ [128] ++ (padR a.size).data.toList := by
    show (a ++ ⟨#[128]⟩ ++ padR a.size).data.toList = _
    simp [ByteArray.data_append]
  rw [this]
  unfold padR pz
  rw [repL0]
  simp
def lenV : Value → Nat
  | .slice _ n _ => n
  | _ => 0
/-- What holds all the while: the text's row, the two tables. -/
def SumR (w W0 W : World) (A3 A4 : Option Addr) (v : Value) (xs : List UInt8) (st : St) : Prop :=
  RowB W W0.heap.size v xs ∧ Kd.C (Kd.int .u32) W A3 64 ksI ∧ Kd.C (Kd.int .u32) W A4 8 st.ints ∧ Below w.heap.size w W ∧ w.heap.size ≤ W0.heap.size ∧ Below W0.heap.size W0 W
theorem SumR.later {w W0 W W' : World} {A3 A4 : Option Addr} {v : Value} {xs : List UInt8} {st : St} (h : SumR w W0 W A3 A4 v xs st) (hb : Below W.heap.size W W') : SumR w W0 W' A3 A4 v xs st :=
  ⟨h.1.later hb, Kd.C_below h.2.1 hb, Kd.C_below h.2.2.1 hb, h.2.2.2.1.trans (hb.mono (Nat.le_trans h.2.2.2.2.1 h.2.2.2.2.2.size)), h.2.2.2.2.1, h.2.2.2.2.2.trans (hb.mono h.2.2.2.2.2.size)⟩
theorem sumR_append {w W0 W : World} {A3 A4 : Option Addr} {v : Value} {xs : List UInt8} {st : St} (h : SumR w W0 W A3 A4 v xs st) (hC3 : Kd.C (Kd.int .u32) W0 A3 64 ksI) (hC4 : Kd.C (Kd.int .u32) W0 A4 8 st.ints) (n : Int) (b : UInt8) (hn : n = (b.toNat : Int)) (hl : xs.length ≤ 1048576)
    {ops : Array Oper} {rest : List Oper} {o : Oper} {a : Act} {Q : Exit → Act → World → Prop} (hgd : o.guard = none) (s x : Operand)
    (hop : o.op = Op.call { callee := Callee.builtin Builtin.append, args := #[s, x], argTypes := #[59, 59] }) (hs : a.eval s = v) (hx : a.eval x = .slice (some ⟨W.heap.size, 0, none⟩) 1 1)
    (k : ∀ v' W', SumR w W0 W' A3 A4 v' (xs ++ [b]) st → wpList Try.prog ops Q rest (a.put o.dst v') W') :
    wpList Try.prog ops Q (o :: rest) a (W.alloc (.cells #[.int .u8 n] 5)) := by
  subst hn
  have ha := h.later ((Below.refl _ W).alloc (Nat.le_refl _) (.cells #[.int .u8 (b.toNat : Int)] 5))
  refine rowB_append hgd s x hop hs ha.1 ⟨W.heap.size, 0, none⟩ 1 hx b (by simp) hl ha.2.2.2.2.2.size (fun v' W' h1 h2 => ?_)
  have h3 : Below W0.heap.size W0 W' := ha.2.2.2.2.2.trans h2
  exact k v' W' ⟨h1, Kd.C_below hC3 h3, Kd.C_below hC4 h3, ha.2.2.2.1.trans (h2.mono ha.2.2.2.2.1), ha.2.2.2.2.1, h3⟩
theorem ext_take64 (p : ByteArray) : (p.extract 0 64).data.toList = p.data.toList.take 64 := by
  rw [ByteArray.data_extract, Array.toList_extract, List.extract_eq_take_drop]
  simp
theorem ext_drop64 (p : ByteArray) : (p.extract 64 p.size).data.toList = p.data.toList.drop 64 := by
  rw [ByteArray.data_extract, Array.toList_extract, List.extract_eq_take_drop, List.take_of_length_le (by simp)]
theorem ofNat_int (n : Nat) : ((UInt8.ofNat n).toNat : Int) = ((n % 256 : Nat) : Int) := by simp
set_option maxRecDepth 1000000 in
set_option maxHeartbeats 8000000 in
theorem rsum_any (kN : Nat) (h3 : codicilref03_Numbers.f kN 64 3 = some ksI) (h2 : codicilref03_Numbers.f kN 8 2 = some st0.ints)
    (a : ByteArray) (ha : a.size ≤ 8192) (w : World) : Calls Try.prog 35 #[.string a] w fun e w' => e = .returned (.string (sumN a)) ∧ Below w.heap.size w w' := by
  obtain ⟨i0, hi, hz0, hz1, hz2⟩ := info_parts bld_info
  have hN3 := fun W => nums_any 64 3 kN ksI h3 W
  have hN2 := fun W => nums_any 8 2 kN st0.ints h2 W
  have hl8 : st0.ints.length = 8 := rfl
  rw [ksI_len] at hN3
  rw [hl8] at hN2
  have HA := Aside0.mk ha
  have hA8 : (a.size : Int) ≤ 8192 := by omega
  have hN3 := Lib.hid hN3
  have hN2 := Lib.hid hN2
  clear h3 h2 ha hl8
  go_enter Try.func35, Try.ntmps35
  go_wp2_with (fail)
  refine (hN3.out _).mono ?_
  rintro e w1 ⟨A3, c3, rfl, hc3, hC3, hb1⟩
  have HC3 := Aside0.mk hC3
  have HB1 := Aside0.mk hb1
  have Hc3 := Aside0.mk hc3
  clear hC3 hb1 hc3
  go_wp2_with (fail)
  refine (hN2.out _).mono ?_
  rintro e w2 ⟨A4, c4, rfl, hc4, hC4, hb2⟩
  have HC4 := Aside0.mk hC4
  have HB2 := Aside0.mk hb2
  have Hc4 := Aside0.mk hc4
  clear hC4 hb2 hc4 hN3 hN2
  have hcv := Lib.run_convert_string_bytes (P := Try.prog) w2 9 59 5 a (u := .string) Try.underlying9 Try.underlying59 Try.underlying5
  have hrow := rowB_conv w2 a
  have hbc := Lib.bytesWorld_below w2 5 a
  obtain ⟨W3, hW3⟩ : ∃ W3, W3 = Lib.bytesWorld w2 5 a := ⟨_, rfl⟩
  rw [← hW3] at hcv hrow hbc
  generalize hcap : grownCap w2 a.size 0 5 = cap at hcv hrow
  clear hcap hW3
  have HROW := Aside0.mk hrow
  have HBC := Aside0.mk hbc
  clear hrow hbc
  have hsz3 : w2.heap.size ≤ W3.heap.size := HBC.out.size
  have hl : a.data.toList.length = a.size := by simp
  have hC34 := Aside0.mk (show Kd.C (Kd.int .u32) w2 A3 64 ksI ∧ Kd.C (Kd.int .u32) w2 A4 8 st0.ints from ⟨Kd.C_below HC3.out HB2.out, HC4.out⟩)
  have HS0 := Aside0.mk (show SumR w w2 W3 A3 A4 (.slice (some ⟨w2.heap.size, 0, none⟩) a.size cap) a.data.toList st0 from
    ⟨HROW.out, Kd.C_below hC34.out.1 HBC.out, Kd.C_below hC34.out.2 HBC.out, (HB1.out.trans (HB2.out.mono HB1.out.size)).trans (HBC.out.mono (Nat.le_trans HB1.out.size HB2.out.size)), Nat.le_trans HB1.out.size HB2.out.size, HBC.out⟩)
  have HL := Aside0.mk (show a.data.toList.length ≤ 1048576 by rw [hl]; have := HA.out; omega)
  have p0 : pz a.data.toList 0 = a.data.toList ++ [128] := rfl
  have HP0 := Aside0.mk p0
  clear hl p0 HBC HROW HB1 HB2 HC3 HC4
  go_wp2_with (at_builtin; refine sumR_append HS0.out hC34.out.1 hC34.out.2 128 128 rfl HL.out rfl _ _ rfl rfl rfl ?_)
  intro v' W' hS
  have HS := Aside0.mk hS
  clear hS HS0
  rw [← HP0.out] at HS
  clear HP0 HL hcv hA8
  go_wp2
  go_loopw [6] (fun v W => ∃ (k L g cap : Nat), v = .slice (some ⟨g, 0, none⟩) L cap ∧ Aside0 (L = a.size + 1 + k ∧ k ≤ (119 - a.size % 64) % 64 ∧ SumR w w2 W A3 A4 v (pz a.data.toList k) st0)) (fun v _ => a.size + 65 - lenV v)
  case atStart =>
    obtain ⟨g, cap', hv, _⟩ := HS.out.1
    exact ⟨0, _, g, cap', hv, Aside0.mk ⟨by rw [pz_len]; simp, Nat.zero_le _, HS.out⟩⟩
  case round =>
    obtain ⟨k, L, g, cap', rfl, HR⟩ := hrel
    clear HS
    by_cases hk : k < (119 - a.size % 64) % 64
    · have ht : ((L : Int) % 64 != 56) = true := by
        have h1 := (pad_cong a.size k HR.out.2.1).1 hk
        have h2 := HR.out.1
        simp only [bne_iff_ne, ne_eq]
        omega
      have HPZ := Aside0.mk (show pz a.data.toList k ++ [0] = pz a.data.toList (k + 1) from pz_snoc _ _)
      have HLL := Aside0.mk (show (pz a.data.toList k).length ≤ 1048576 by rw [pz_len]; have := HA.out; have := HR.out.2.1; simp; omega)
      have HK := Aside0.mk hk
      clear hk
      go_wp2_with (at_builtin; refine sumR_append HR.out.2.2 hC34.out.1 hC34.out.2 0 0 rfl HLL.out rfl _ _ rfl rfl rfl ?_)
      intro v' W' hS
      have HS := Aside0.mk hS
      clear hS
      rw [HPZ.out] at HS
      go_wp2
      go_roundw
      case rel =>
        obtain ⟨g', cap'', hv, _⟩ := HS.out.1
        exact ⟨k + 1, _, g', cap'', hv, Aside0.mk ⟨by rw [pz_len]; simp [Nat.add_assoc], HK.out, HS.out⟩⟩
      case measure =>
        obtain ⟨g', cap'', hv, _⟩ := HS.out.1
        have h1 := HR.out.1
        have h2 := HK.out
        rw [hv]
        simp only [lenV, pz_len]
        simp
        omega
    · obtain rfl : k = (119 - a.size % 64) % 64 := by have := HR.out.2.1; omega
      have ht : ((L : Int) % 64 != 56) = false := by
        have h1 := (pad_cong a.size _ HR.out.2.1).2 rfl
        have h2 := HR.out.1
        simp only [bne_eq_false_iff_eq]
        omega
      have hS := HR.out.2.2
      rw [pz_padK] at hS
      have HS := Aside0.mk hS
      have HL1 := Aside0.mk (show L = (padK a 0).data.toList.length by rw [← pz_padK, pz_len, HR.out.1]; simp)
      clear hS HR hk
      obtain ⟨wo, rfl⟩ : ∃ wo : World, wo = wr := ⟨_, rfl⟩
      go_wp2
      clear ht
      go_loopw [6, 7] (fun v i W => ∃ (k L g cap : Nat), k ≤ 8 ∧ v = .slice (some ⟨g, 0, none⟩) L cap ∧ i = .int .i64 (7 - (k : Int)) ∧ Aside0 (L = (padK a k).data.toList.length ∧ SumR w w2 W A3 A4 v (padK a k).data.toList st0)) (fun _ i _ => (intOf i + 1).toNat)
      case atStart => exact ⟨0, L, g, cap', Nat.zero_le _, rfl, rfl, Aside0.mk ⟨HL1.out, HS.out⟩⟩
      case round =>
        clear HS HL1
        obtain ⟨k, L, g, cap', hk, rfl, rfl, HR⟩ := hrel
        by_cases hk8 : k < 8
        · have HLL := Aside0.mk (show (padK a k).data.toList.length ≤ 1048576 by
            have h1 := padK_size a k
            have h2 := padR_size a.size
            have h3 := HA.out
            have : (padK a k).data.toList.length = (padK a k).size := by simp
            omega)
          have HPK := Aside0.mk (show (padK a k).data.toList ++ [UInt8.ofNat (a.size * 8 / 2 ^ (56 - 8 * k))] = (padK a (k + 1)).data.toList by
            have : padK a (k + 1) = padK a k ++ ⟨#[UInt8.ofNat (a.size * 8 / 2 ^ (56 - 8 * k))]⟩ := rfl
            rw [this]; simp [ByteArray.data_append])
          obtain ⟨k', hkk⟩ : ∃ k', k' = k := ⟨_, rfl⟩
          have HKK := Aside0.mk hkk
          clear hkk
          rcases (by omega : k = 0 ∨ k = 1 ∨ k = 2 ∨ k = 3 ∨ k = 4 ∨ k = 5 ∨ k = 6 ∨ k = 7) with rfl | rfl | rfl | rfl | rfl | rfl | rfl | rfl
          all_goals
            go_wp2_with (at_builtin; refine sumR_append HR.out.2 hC34.out.1 hC34.out.2 _ (UInt8.ofNat (a.size * 8 / 2 ^ (56 - 8 * k'))) (by rw [HKK.out]; first | exact (ofNat_int _).symm | (rw [ofNat_int]; simp)) HLL.out rfl _ _ rfl rfl rfl ?_)
            intro v' W' hS
            rw [HKK.out, HPK.out] at hS
            have HS := Aside0.mk hS
            clear hS
            go_wp2
            go_roundw
            case rel =>
              obtain ⟨g', cap'', hv, _⟩ := HS.out.1
              exact ⟨k' + 1, _, g', cap'', by have := HKK.out; omega, hv, by rw [HKK.out]; rfl, Aside0.mk ⟨by rw [HKK.out], by rw [HKK.out]; exact HS.out⟩⟩
            case measure => simp [intOf]
        · obtain rfl : k = 8 := by omega
          rw [show (7 - ((8 : Nat) : Int)) = -1 from rfl]
          have hsz := padK_size a 8
          have hpe := padR_eq a.size
          obtain ⟨m, hm⟩ : ∃ m, (padK a 8).size = 64 * m := ⟨(padK a 8).size / 64, by omega⟩
          have hm2 : m ≤ 1000 := by have := HA.out; have := padR_size a.size; omega
          have HSUM := Aside0.mk (show sumN a = ⟨(outL (runN ksN m st0 (padK a 8)) 8).toArray⟩ by unfold sumN; rw [hm, Nat.mul_div_cancel_left _ (by decide)])
          have hll : (padK a 8).data.toList.length = (padK a 8).size := by simp
          generalize padK a 8 = p0 at *
          clear hsz hpe
          obtain ⟨FIN, hF⟩ : ∃ FIN, FIN = runN ksN m st0 p0 := ⟨_, rfl⟩
          rw [← hF] at HSUM
          have HF := Aside0.mk hF
          obtain rfl : L = 64 * m := by rw [HR.out.1, hll, hm]
          have HR0 := Aside0.mk HR.out.2
          have HM := Aside0.mk (And.intro hm hm2)
          have HM1 := Aside0.mk hll
          clear hF HR hm hm2 hll hk hk8
          obtain ⟨wo, rfl⟩ : ∃ wo : World, wo = wr := ⟨_, rfl⟩
          obtain ⟨L, hL⟩ : ∃ L, L = 64 * m := ⟨_, rfl⟩
          have HL := Aside0.mk hL
          rw [← hL] at HR0 ⊢
          clear hL
          go_wp2
          go_loopw [4, 8] (fun h i W => ∃ (q r : Nat) (s : St) (p : ByteArray) (A : Option Addr) (c : Nat), h = .slice A 8 c ∧ i = .int .i64 (q : Int) ∧ Aside0 (q + 64 * r = L ∧ 8 ≤ c ∧ s.ok ∧ p.size = 64 * r ∧ p.data.toList = p0.data.toList.drop q ∧ runN ksN r s p = FIN ∧ SumR w w2 W A3 A (.slice (some ⟨g, 0, none⟩) L cap') p0.data.toList s)) (fun _ i _ => L - (intOf i).toNat)
          case atStart => exact ⟨0, m, st0, p0, A4, c4, rfl, rfl, Aside0.mk ⟨by rw [HL.out]; omega, Hc4.out, st0_ok, HM.out.1, rfl, HF.out.symm, HR0.out⟩⟩
          case round =>
            clear HR0
            obtain ⟨q, r, s, p, A, c, rfl, rfl, HR⟩ := hrel
            have hLm : (L : Int) ≤ 64000 := by have := HL.out; have := HM.out.2; omega
            have hrow := HR.out.2.2.2.2.2.2.1
            obtain ⟨g1, cap1, hv1, _, hlt1, hcap1, hcells, _⟩ := hrow
            simp only [Value.slice.injEq, Option.some.injEq, Addr.mk.injEq] at hv1
            obtain ⟨⟨rfl, _⟩, hln, rfl⟩ := hv1
            have hcL : L ≤ cap' := by rw [hln]; exact hcap1
            have HLN := Aside0.mk hln
            have HCE := Lib.hid hcells
            clear hln hcells hcap1
            cases r with
            | zero =>
              obtain rfl : q = L := by have := HR.out.1; omega
              obtain rfl : s = FIN := HR.out.2.2.2.2.2.1
              have hC := HR.out.2.2.2.2.2.2.2.2.1
              have hok := HR.out.2.2.1
              have HBL := Aside0.mk HR.out.2.2.2.2.2.2.2.2.2.1
              have hwl := HBL.out.size
              obtain ⟨ad, rfl, hcell⟩ := hC.2.2 (by decide)
              have HC := Aside0.mk hC
              have HCELL := Lib.hid hcell
              clear hC hcell HR hlt1 hcL
              obtain ⟨wz, rfl⟩ : ∃ wz : World, wz = wr := ⟨_, rfl⟩
              go_wp2
              go_loopw [9, 10] (fun v i W => ∃ j : Nat, j ≤ 8 ∧ i = .int .i64 j ∧ Aside0 (W.ownsRow wz.heap.size 5 1 v (4 * j) ((outL s j).map (fun x : UInt8 => Value.int .u8 x.toNat)) ∧ Below wz.heap.size wz W)) (fun _ i _ => 8 - (intOf i).toNat)
              case atStart => exact ⟨0, Nat.zero_le _, rfl, Aside0.mk ⟨World.ownsRow_nil _ _ _ _, Below.refl _ _⟩⟩
              case round =>
                obtain ⟨j, hj, rfl, HR⟩ := hrel
                by_cases hj8 : j < 8
                · have hown := HR.out.1
                  have hwr : wz.heap.size ≤ wr.heap.size := HR.out.2.size
                  have hst : outL s (j + 1) = outL s j ++ [UInt8.ofNat (wordAt s j / 16777216), UInt8.ofNat (wordAt s j / 65536), UInt8.ofNat (wordAt s j / 256), UInt8.ofNat (wordAt s j)] := rfl
                  have HST := Aside0.mk hst
                  have hwz : wz.cell? (ad.add j) = some (.int .u32 (wordAt s j : Nat)) := by
                    obtain ⟨c, hc1, hc2, hc3⟩ := HCELL.out j (wordAt s j : Nat) (by
                      rcases (by omega : j = 0 ∨ j = 1 ∨ j = 2 ∨ j = 3 ∨ j = 4 ∨ j = 5 ∨ j = 6 ∨ j = 7) with rfl | rfl | rfl | rfl | rfl | rfl | rfl | rfl <;> rfl)
                    have := hc3 0 (.int .u32 (wordAt s j : Nat)) (by rw [hc2]; rfl)
                    simpa [Kd.int, Kd.scalar] using this
                  have hlz := World.block_lt_of_cell? wz _ hwz
                  have hx : wr.cell? (ad.add j) = some (.int .u32 (wordAt s j : Nat)) := by rw [HR.out.2.cell (p := ad.add j) hlz]; exact hwz
                  clear hwz
                  have hxl : wordAt s j < 4294967296 := by
                    obtain ⟨h0, h1, h2, h3, h4, h5, h6, h7⟩ := hok
                    rcases (by omega : j = 0 ∨ j = 1 ∨ j = 2 ∨ j = 3 ∨ j = 4 ∨ j = 5 ∨ j = 6 ∨ j = 7) with rfl | rfl | rfl | rfl | rfl | rfl | rfl | rfl <;> assumption
                  generalize wordAt s j = x at *
                  generalize outL s j = ol at *
                  have HXL := Aside0.mk hxl
                  have i1 : (j : Int) < 8 := by omega
                  have ij : (0 : Int) ≤ (j : Int) := by omega
                  clear hst hxl hok
                  go_wp2
                  have hlw : (ad.add j).block < wr.heap.size := by omega
                  have hln : ∀ k, u9.ownBlock = some k → wz.heap.size ≤ k := fun k hk => (hown.lt k hk).1
                  have hne : some (ad.add j).block ≠ u9.ownBlock := fun e => by have := hln _ e.symm; omega
                  have HOWN := Aside0.mk hown
                  clear hown
                  generalize hq : ad.add j = ax at *
                  go_region_held3 (fun w' => w'.cell? ax = some (.int .u32 (x : Int)))
                    (first
                      | go_keep
                      | (rw [hgrow.cell_far _ (by simp; omega) hne]; assumption)
                      | (rw [hgrow.cell_far _ (by simp; omega) hne]; simp; assumption))
                    ((refine step_append_lies _ (by rfl) _ _ _ (by rfl) wz.heap.size 5 i0 _ 1 1 Try.underlying59 hi hz0 hz1 hz2 rfl (by omega) u9 (4 * j) (ol.map (fun x : UInt8 => Value.int .u8 x.toNat)) (by rfl) ((HOWN.out.alloc _).drew) ⟨wr.heap.size, 0, none⟩ 4 4 [.int .u8 ((x : Int) / 16777216 % 256), .int .u8 ((x : Int) / 65536 % 256), .int .u8 ((x : Int) / 256 % 256), .int .u8 ((x : Int) % 256)] (by rfl) (by rfl) (World.news_of_block (cs := #[.int .u8 ((x : Int) / 16777216 % 256), .int .u8 ((x : Int) / 65536 % 256), .int .u8 ((x : Int) / 256 % 256), .int .u8 ((x : Int) % 256)]) (t := 5) (fr := (0, 0)) (heap_alloc_new wr _)) (by simp [Value.oneCell']) (by omega) (by unfold maxLen; omega) (by omega) (by simp; omega) (wr.heap.size + 1) (by simp) ?_; intro gg cap1 w1 hown1 hgrow hat hlt))
                  have HWN := Aside0.mk hown1
                  have HG := Aside0.mk hgrow
                  have HLW := Aside0.mk hln
                  clear hown1 hgrow hne hlw hlz hx hat hln hq
                  go_wp2
                  go_roundw
                  case rel =>
                    refine ⟨j + 1, by omega, by go_num, Aside0.mk ⟨?_, ?_⟩⟩
                    · rw [HST.out, List.map_append]
                      have em : ([UInt8.ofNat (x / 16777216), UInt8.ofNat (x / 65536), UInt8.ofNat (x / 256), UInt8.ofNat x].map (fun x : UInt8 => Value.int .u8 x.toNat)) = [.int .u8 ((x : Int) / 16777216 % 256), .int .u8 ((x : Int) / 65536 % 256), .int .u8 ((x : Int) / 256 % 256), .int .u8 ((x : Int) % 256)] := by
                        simp only [List.map_cons, List.map_nil, ofNat_int, Int.natCast_ediv]; rfl
                      rw [em]
                      exact HWN.out
                    · have h1 := (HR.out.2.alloc hwr (.cells #[.int .u8 ((x : Int) / 16777216 % 256), .int .u8 ((x : Int) / 65536 % 256), .int .u8 ((x : Int) / 256 % 256), .int .u8 ((x : Int) % 256)] 5)).drew
                      have h2 := h1.grown HG.out (by simp; omega) HLW.out
                      first | exact h2 | exact h2.drew
                  case measure => simp [intOf]; omega
                · obtain rfl : j = 8 := by omega
                  rw [show ((8 : Nat) : Int) = 8 from rfl]
                  have hrow := HR.out.1
                  have hbel := Aside0.mk (HBL.out.trans (HR.out.2.mono hwl))
                  obtain ⟨g2, cap2, hv9, hcv⟩ := bytes_of_row (l := outL s 8) hrow (by simp [outL])
                  have hl32 : (outL s 8).length = 32 := rfl
                  rw [hl32] at hv9 hcv
                  subst hv9
                  generalize outL s 8 = ol at *
                  clear HR hrow hok
                  go_wp2
                  go_ret
                  exact ⟨by rw [HSUM.out]; rfl, hbel.out⟩
            | succ r =>
              have hq := HR.out.1
              have hq1 : (q : Int) + 64 ≤ (L : Int) := by omega
              have hps := HR.out.2.2.2.1
              have hpd := HR.out.2.2.2.2.1
              have hx64 := ext_take64 p
              have hl64 : (p.extract 0 64).data.toList.length = 64 := by rw [hx64, List.length_take]; simp; omega
              have hcvs := run_convert_bytes_back (P := Try.prog) wr 59 9 5 ⟨g, q, none⟩ (cap' - q) (p.extract 0 64).data.toList Try.underlying59 Try.underlying5 Try.underlying9 (fun j hj => by
                rw [Addr.add_lit]
                refine HCE.out (q + j) _ ?_
                unfold encU
                have e : (p.extract 0 64).data.toList[j] = p0.data.toList[q + j]'(by have := HLN.out; omega) := by
                  have : (p.extract 0 64).data.toList[j]? = p0.data.toList[q + j]? := by rw [hx64, hpd, List.getElem?_take_of_lt (by omega), List.getElem?_drop]
                  rw [List.getElem?_eq_getElem (by omega), List.getElem?_eq_getElem (by have := HLN.out; omega)] at this
                  exact Option.some.inj this
                rw [List.getElem?_map, List.getElem?_eq_getElem (by have := HLN.out; omega), e]; rfl)
              rw [hl64] at hcvs
              have hstr : (⟨(p.extract 0 64).data.toList.toArray⟩ : ByteArray) = p.extract 0 64 := congrArg ByteArray.mk (Array.toArray_toList)
              rw [hstr] at hcvs
              have hbk := block_law s ksN (p.extract 0 64) HR.out.2.2.1 ks_len ks_lt (by simpa using hl64)
              have hrun : runN ksN r (blockN s ksN (p.extract 0 64).data.toList) (p.extract 64 p.size) = FIN := HR.out.2.2.2.2.2.1
              have hblk : ∀ str, str = p.extract 0 64 → Calls Try.prog 53 #[.slice A 8 c, .slice A3 64 c3, .string str] wr fun e w' =>
                  ∃ A' c', e = .returned (.slice A' 8 c') ∧ 8 ≤ c' ∧ Aside0 (SumR w w2 w' A3 A' (.slice (some ⟨g, 0, none⟩) L cap') p0.data.toList (blockN s ksN (p.extract 0 64).data.toList)) := by
                intro str hs
                have hS := HR.out.2.2.2.2.2.2
                have h1 := blockr_any 139 s.ints ksI str _ (by rw [hs]; exact hbk) A A3 c c3 wr hS.2.2.1 HR.out.2.1 (by rw [ksI_len]; exact hS.2.1) (by rw [ksI_len]; exact Hc3.out)
                rw [ksI_len] at h1
                refine h1.mono ?_
                rintro e w' ⟨A', c', he, hc', hC', hb'⟩
                have hS' := hS.later hb'
                exact ⟨A', c', he, hc', Aside0.mk ⟨hS'.1, hS'.2.1, hC', hS'.2.2.2⟩⟩
              have hsz' : (p.extract 64 p.size).size = 64 * r := by rw [ByteArray.size_extract]; omega
              have hpd' : (p.extract 64 p.size).data.toList = p0.data.toList.drop (q + 64) := by rw [ext_drop64, hpd, List.drop_drop]
              have HNX := Aside0.mk (And.intro hsz' (And.intro hpd' hrun))
              have HBLK := Lib.hid hblk
              clear hblk hrun hbk hstr hl64 hx64 hpd hps hsz' hpd'
              generalize hsg : p.extract 0 64 = str at hcvs
              have HSG := Aside0.mk hsg
              clear hsg
              go_wp2_with (go_at_call 53; refine (HBLK.out _ HSG.out.symm).mono ?_; rintro e w' ⟨A', c', rfl, hc', HS'⟩)
              go_roundw
              case rel => exact ⟨q + 64, r, blockN s ksN (p.extract 0 64).data.toList, p.extract 64 p.size, A', c', rfl, by go_num, Aside0.mk ⟨by omega, hc', St.plus_ok _ _, HNX.out.1, HNX.out.2.1, HNX.out.2.2, HS'.out⟩⟩
              case measure => simp [intOf]; omega
end Go.Proofs.Ytkcjekboakoejaa.Print
