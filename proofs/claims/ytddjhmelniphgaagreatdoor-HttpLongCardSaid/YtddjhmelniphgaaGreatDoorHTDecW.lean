/- Contract of http.decoded: the walk. -/
import Derived.Test.YtddjhmelniphgaaGreatDoorHTDec
namespace Go.Proofs.YtddjhmelniphgaaGreatDoor.Print
open Go Go.RowKit Go.Proofs.YtddjhmelniphgaaGreatDoorW.PrintWords Go.Proofs.YtddjhmelniphgaaGreatDoorW.PrintLast
set_option linter.unusedVariables false
set_option linter.unusedSimpArgs false
attribute [local go_sem] Oper.semAt_some
structure DecI (n1 b : Nat) (w : World) (pre : List (Nat × List UInt8)) (W : World) : Prop where
  st : ∃ acc, runD pre [] = some acc ∧ Bld n1 b acc W ∧ acc.length ≤ pre.length * 1048576
  bel : Below w.heap.size w W
  size : n1 ≤ W.heap.size
def DecP (w : World) (L : List (Nat × List UInt8)) (ch : List PanicEntry) (W : World) : Prop := ch = oops 291 ∧ runD L [] = none ∧ Below w.heap.size w W
theorem partsL_len (sep : List UInt8) : ∀ (f : Nat) (s : List UInt8), (partsL sep f s).length ≤ f + 1
  | 0, s => by simp [partsL]
  | f + 1, s => by
    simp only [partsL]
    split
    · have := partsL_len sep f (Lib.cut s sep).2.1; simp only [List.length_cons]; omega
    · simp
theorem enumL_len : ∀ (l : List (List UInt8)) (k : Nat), (enumL k l).length = l.length
  | [], k => rfl
  | x :: r, k => by simp only [enumL, List.length_cons, enumL_len r]
theorem kpP_bk {Bs Bp R b : Nat} {W W' : World} (h : BKept R b W W') (hb : b ≠ Bs ∧ b ≠ Bp ∧ b ≠ 0) (hR : Bs < R ∧ Bp < R ∧ 0 < R) (hW : R ≤ W.heap.size) : KpP Bs Bp W W' :=
  ⟨h.size, fun k hk => by
    rcases hk with rfl | rfl | rfl
    · exact h.block _ (by omega) (fun e => hb.1 e.symm) (.inl hR.1)
    · exact h.block _ (by omega) (fun e => hb.2.1 e.symm) (.inl hR.2.1)
    · exact h.block _ (by omega) (fun e => hb.2.2 e.symm) (.inl hR.2.2)⟩
theorem errV_none {v : Value} (h : ErrV v false) : ∃ t a, v = .iface t (.pointer (some a)) := by
  rcases h with ⟨_, h⟩ | ⟨t, a, h, _⟩
  · cases h
  · exact ⟨t, a, h⟩
theorem errV_some {v : Value} (h : ErrV v true) : v = .nilIface := by
  rcases h with ⟨h, _⟩ | ⟨t, a, _, h⟩
  · exact h
  · cases h
theorem kpP_trans {Bs Bp : Nat} {A B C : World} (h : KpP Bs Bp A B) (k : KpP Bs Bp B C) : KpP Bs Bp A C := h.trans k
set_option maxRecDepth 100000 in
set_option maxHeartbeats 4000000 in
theorem decoded_any (s : List UInt8) (hs : s.length ≤ 1048576) (w : World) (HL : Laid0 w) : Calls Tryz.prog 46 #[.string (bs s)] w (decPost s w) := by
  obtain ⟨m, hm⟩ := HL.max
  have hml : 0 < w.heap.size := Lib.lt_of_cell hm
  have HLA := Aside0.mk HL
  refine calls_of_wpF (n := 5) Tryz.func46 rfl ?_
  simp only [Tryz.ntmps46, List.size_toArray, List.length_cons, List.length_nil, Nat.reduceAdd, Nat.reduceSub, Array.replicate_succ, Array.replicate_zero, List.push_toArray, List.append_toArray, List.nil_append, List.cons_append]
  refine wpF_seq (wpF_of ?_)
  gi_wp2
  refine wpF_seq (wpF_of ?_)
  gi_wp2
  obtain ⟨W5, hW5⟩ : ∃ W5, W5 = w.alloc (Obj.cells #[Value.pointer none, Value.slice none 0 0] 109) := ⟨_, rfl⟩
  rw [← hW5]
  have hb5 : Below w.heap.size w W5 := by rw [hW5]; exact (Below.refl _ w).alloc (Nat.le_refl _) _
  have hbd : ∀ R, Bld R w.heap.size [] W5 := fun R => by rw [hW5]; exact bld_new w R
  have hz5 : W5.heap.size = w.heap.size + 1 := by rw [hW5]; simp
  have HZ5 := Aside0.mk hz5
  clear hW5 hz5
  refine wpF_seq (wpF_seq (wpF_of ?_))
  gi_wp2_with (refine ⟨trivial, ?_⟩; gi_at_call 45; (refine (callsIn_wide.2 (parts_any _ _ _)).mono ?_); rintro e w6 ⟨rfl, rfl⟩)
  obtain ⟨W6, hW6⟩ : ∃ W6, W6 = (W5.alloc (Obj.cells #[Value.string (bs s)] 9)).alloc (Obj.cells #[Value.string ⟨#[37]⟩] 9) := ⟨_, rfl⟩
  rw [← hW6]
  have hb6 : Below W5.heap.size W5 W6 := by rw [hW6]; exact ((Below.refl _ W5).alloc (Nat.le_refl _) _).alloc (by simp) _
  have ks : W6.heap[W5.heap.size]? = some (.cells #[Value.string (bs s)] 9 (0, 0)) := by
    rw [hW6]; exact (Below.heap_alloc _ _ _ (by simp)).trans (World.alloc_heap_new W5 _)
  have kp : W6.heap[W5.heap.size + 1]? = some (.cells #[Value.string ⟨#[37]⟩] 9 (0, 0)) := by
    rw [hW6]
    have := World.alloc_heap_new (W5.alloc (Obj.cells #[Value.string (bs s)] 9)) (Obj.cells #[Value.string ⟨#[37]⟩] 9)
    rwa [World.size_alloc] at this
  have hz6 : W6.heap.size = W5.heap.size + 2 := by rw [hW6]; simp
  clear hW6
  have hb06 := hb5.trans (hb6.mono hb5.size)
  have hbd6 := fun R => (hbd R).later hb6
  generalize hBs : W5.heap.size = Bs at *
  have hz5 := HZ5.out
  have hbBs : w.heap.size < Bs := by omega
  refine wpF_block ?_
  refine wpF_range (n := 5) (B := Bs) (w0 := W6) Tryz.func46 (gf := 73) (lb := #[.pointer (some ⟨Bs, 0, none⟩), .pointer (some ⟨Bs + 1, 0, none⟩)]) rfl (enters_of Tryz.func73 (by kernel_rfl) rfl)
    (encs := encP) (Kp := KpP Bs (Bs + 1)) (L := enumL 0 (partsL [37] s.length s))
    (parts_seq s [37] (by simp) hs Bs (Bs + 1) m W6 (by omega) (by omega) (blk_cell ks 0) (blk_frozen ks 0) (blk_cell kp 0) ((hb06.cell (p := ⟨0, 0, none⟩) hml).trans hm))
    (by omega) (fun h k => h.trans k) (fun W l o o' hl ho => ⟨by simp [World.putObj], fun k hk => World.putObj_heap_other (by rcases hk with rfl | rfl | rfl <;> omega)⟩) (Below.refl _ _) (fun x => rfl)
    (DecI W6.heap.size w.heap.size w)
    (DecP w (enumL 0 (partsL [37] s.length s)))
    (fun pre A C h hc => ?calm)
    ⟨⟨[], rfl, hbd6 _, Nat.zero_le _⟩, hb06, Nat.le_refl _⟩
    ?round ?done ?panic
  case calm =>
    obtain ⟨⟨acc, h1, h2, h3⟩, h4, h5⟩ := h
    exact ⟨⟨acc, h1, h2.calm hc (by omega) (by omega), h3⟩, ⟨hc.os.trans h4.os, hc.tape.trans h4.tape, hc.output.trans h4.output, Nat.le_trans h4.size hc.size, fun k hk => (hc.old k (by omega) (by omega)).trans (h4.block k hk)⟩, Nat.le_trans h5 hc.size⟩
  case round =>
    intro l pre x W hI hpre
    obtain ⟨i, line⟩ := x
    obtain ⟨hi, hmem⟩ := enumL_pre _ 0 pre (i, line) hpre
    have hll := Nat.le_trans (partsL_le [37] s.length s line hmem) hs
    have hpl : pre.length ≤ 1048577 := by
      have h1 := hpre.length_le
      rw [List.length_append, enumL_len] at h1
      have h2 := partsL_len [37] s.length s
      omega
    obtain ⟨rst, hrst⟩ := hpre
    have hrst' : enumL 0 (partsL [37] s.length s) = pre ++ (i, line) :: rst := by rw [← hrst]; simp
    have HPRE := Aside0.mk hrst'
    have HI0 := Aside0.mk (show i = pre.length by rw [show i = 0 + pre.length from hi, Nat.zero_add])
    have HLL := Aside0.mk hll
    have HPL := Aside0.mk hpl
    clear hi hmem hll hrst hrst' hI ks kp hbd hbd6 hpl
    rw [show encP (i, line) = #[.int .i64 i, .string (bs line)] from rfl]
    gi_wp2
    refine ⟨trivial, ?_⟩
    clear W
    intro W hI
    obtain ⟨⟨acc, h1, h2, h3⟩, h4, h5⟩ := hI
    have hlaid := HLA.out.later h4
    have hlenb : (bs line).size = line.length := rfl
    have HLB := Aside0.mk hlenb
    have hal : acc.length + line.length ≤ 140737488355328 := by
      have := HPL.out; have := HLL.out
      have h6 : pre.length * 1048576 ≤ 1048577 * 1048576 := Nat.mul_le_mul_right _ HPL.out
      omega
    have HAL := Aside0.mk hal
    have HW6 := Aside0.mk (show w.heap.size ≤ W6.heap.size from by omega)
    have KPB := Aside0.mk (fun (A C : World) (hA : W6.heap.size ≤ A.heap.size) (h : BKept W6.heap.size w.heap.size A C) => kpP_bk (Bs := Bs) (Bp := Bs + 1) h ⟨by omega, by omega, by omega⟩ ⟨by omega, by omega, by omega⟩ hA)
    have KPL := Aside0.mk (fun (A C : World) (hA : W6.heap.size ≤ A.heap.size) (h : Below A.heap.size A C) => kpP_below (Bs := Bs) (Bp := Bs + 1) h (by omega) (by omega) (by omega))
    have PN := Aside0.mk (fun W' (hb : Below W.heap.size W W') (hn : stepD (i, line) acc = none) => show KeepsOthers W W' ∧ DecP w (enumL 0 (partsL [37] s.length s)) (oops 291) W' from ⟨keepsB hb, rfl, by rw [HPRE.out]; exact runD_none hn pre [] h1, h4.trans (hb.mono h4.size)⟩)
    clear hlenb hal hz6 hz5 hbBs hml hb6 hb5 hBs HZ5
    by_cases hi0 : i = 0
    · have hii : ¬ (0 : Int) < (i : Int) := by omega
      have HN := Aside0.mk (show stepD (i, line) acc = some (acc ++ line) by unfold stepD; rw [if_pos hi0])
      have hws := wstr_any W6.heap.size w.heap.size acc (bs line) W h2 (by rw [HLB.out]; exact HAL.out) h5
      gi_wp2_with (first | (refine ⟨trivial, ?_⟩; gi_at_call 75; (with_reducible refine (CallsIn.inRound l (callsIn_wide.2 hws)).mono ?_); rintro e w9 ⟨rfl, h9⟩) | (refine ⟨trivial, ?_⟩))
      refine ⟨bk_keeps h2 h9.kept, KPB.out _ _ h5 h9.kept, ⟨acc ++ line, by rw [runD_snoc, h1]; exact HN.out, h9.bld, ?_⟩, h4.trans (h9.kept.below HW6.out (Nat.le_refl _) (Nat.le_trans HW6.out h5)), Nat.le_trans h5 h9.kept.size⟩
      have := HLL.out
      simp only [List.length_append, List.length_singleton]
      omega
    · have hii : (0 : Int) < (i : Int) := by omega
      by_cases hl2 : line.length < 2
      · have HN := Aside0.mk (show stepD (i, line) acc = none by unfold stepD; rw [if_neg hi0, if_pos hl2])
        have g1 : ¬ (2 : Int) ≤ ((bs line).size : Int) := by have := HLB.out; omega
        gi_wp2_with (first | (refine ⟨trivial, ?_⟩; gi_at_call 44; (with_reducible refine (CallsIn.inRound l (callsIn_wide.2 (must_false 291 _))).mono ?_); rintro e wx ⟨rfl, rfl⟩) | (refine ⟨trivial, ?_⟩))
        exact ⟨rfl, PN.out _ (Below.refl _ _) HN.out⟩
      · have g1 : (2 : Int) ≤ ((bs line).size : Int) := by have := HLB.out; omega
        have hpu := hex_two (bs (line.take 2)) (by show (line.take 2).length = 2; rw [List.length_take]; omega) W hlaid
        have e1 : (bs (line.take 2)).data.toList = line.take 2 := rfl
        rw [e1, ← extract_take line 2] at hpu
        cases hv : hexFrom 0 (line.take 2) with
        | none =>
          rw [hv] at hpu
          have HN := Aside0.mk (show stepD (i, line) acc = none by unfold stepD; rw [if_neg hi0, if_neg hl2, hv])
          gi_wp2_with (first | (refine ⟨trivial, ?_⟩; gi_at_call 44; (with_reducible refine (CallsIn.inRound l (callsIn_wide.2 (must_true 291 _))).mono ?_); rintro e wx ⟨rfl, rfl⟩) | (refine ⟨trivial, ?_⟩; gi_at_call 44; (with_reducible refine (CallsIn.inRound l (callsIn_wide.2 (must_false 291 _))).mono ?_); rintro e wx ⟨rfl, rfl⟩) | (refine ⟨trivial, ?_⟩; gi_at_call 40; (with_reducible refine (CallsIn.inRound l (callsIn_wide.2 hpu)).mono ?_); rintro e w9 ⟨v, rfl, hev, hb9⟩; obtain ⟨tt, aa, rfl⟩ : ∃ t a, v = .iface t (.pointer (some a)) := errV_none hev) | (refine ⟨trivial, ?_⟩))
          exact ⟨rfl, PN.out _ hb9 HN.out⟩
        | some n =>
          rw [hv] at hpu
          have hn := hex_two_lt (by rw [List.length_take]; omega) hv
          obtain ⟨c, rfl⟩ : ∃ c : UInt8, n = c.toNat := ⟨UInt8.ofNat n, by simp; omega⟩
          have HN := Aside0.mk (show stepD (i, line) acc = some (acc ++ [c] ++ line.drop 2) by unfold stepD; rw [if_neg hi0, if_neg hl2, hv]; simp)
          have hwr : IntKind.u8.wrap (c.toNat : Int) = (c.toNat : Int) := by rw [IntKind.wrap_u8]; have := c.toNat_lt; omega
          have e3 : (bs line).extract 2 (bs line).size = bs (line.drop 2) := by
            apply ByteArray.ext
            rw [ByteArray.data_extract]
            apply Array.ext'
            unfold bs
            have hsz : (⟨line.toArray⟩ : ByteArray).size = line.length := rfl
            simp [hsz]
            exact List.take_of_length_le (by rw [List.length_drop]; omega)
          have E3 := Aside0.mk e3
          have hd2 : (line.drop 2).length ≤ line.length := by rw [List.length_drop]; omega
          have HD2 := Aside0.mk hd2
          have hwb := fun W1 (hb : Below W.heap.size W W1) => wbyte_any W6.heap.size w.heap.size acc c W1 (h2.later hb) (by have := HAL.out; omega) (Nat.le_trans h5 hb.size)
          have hws := fun W2 (hb : Bld W6.heap.size w.heap.size (acc ++ [c]) W2) (hz : W6.heap.size ≤ W2.heap.size) => wstr_any W6.heap.size w.heap.size (acc ++ [c]) (bs (line.drop 2)) W2 hb (by rw [List.length_append, List.length_singleton]; show acc.length + 1 + (line.drop 2).length ≤ _; have := HAL.out; rw [List.length_drop]; omega) hz
          rw [← e3] at hws
          clear e3 hd2 hn
          gi_wp2_with (first | (refine ⟨trivial, ?_⟩; gi_at_call 44; (with_reducible refine (CallsIn.inRound l (callsIn_wide.2 (must_true 291 _))).mono ?_); rintro e wx ⟨rfl, rfl⟩) | (refine ⟨trivial, ?_⟩; gi_at_call 40; (with_reducible refine (CallsIn.inRound l (callsIn_wide.2 hpu)).mono ?_); rintro e w9 ⟨v, rfl, hev, hb9⟩; obtain rfl := errV_some hev) | (refine ⟨trivial, ?_⟩; gi_at_call 74; (with_reducible refine (CallsIn.inRound l (callsIn_wide.2 (hwb _ hb9))).mono ?_); rintro e w10 ⟨rfl, h10⟩; have H10 := Aside0.mk h10; clear h10) | (refine ⟨trivial, ?_⟩; gi_at_call 75; go_loud ((with_reducible refine (CallsIn.inRound l (callsIn_wide.2 (hws _ H10.out.bld (Nat.le_trans h5 (Nat.le_trans hb9.size H10.out.kept.size))))).mono ?_); rintro e w11 ⟨rfl, h11⟩; have H11 := Aside0.mk h11; clear h11)) | (refine ⟨trivial, ?_⟩))
          have hz9 := Nat.le_trans h5 hb9.size
          have hz10 := Nat.le_trans hz9 H10.out.kept.size
          refine ⟨((keepsB hb9).trans (bk_keeps (h2.later hb9) H10.out.kept)).trans (bk_keeps H10.out.bld H11.out.kept), ((KPL.out _ _ h5 hb9).trans (KPB.out _ _ hz9 H10.out.kept)).trans (KPB.out _ _ hz10 H11.out.kept), ⟨acc ++ [c] ++ line.drop 2, by rw [runD_snoc, h1]; exact HN.out, (by have h := H11.out.bld; rw [E3.out] at h; exact h), ?_⟩, ((h4.trans (hb9.mono h4.size)).trans (H10.out.kept.below HW6.out (Nat.le_refl _) (Nat.le_trans HW6.out hz9))).trans (H11.out.kept.below HW6.out (Nat.le_refl _) (Nat.le_trans HW6.out hz10)), Nat.le_trans hz10 H11.out.kept.size⟩
          have := HLL.out
          simp only [List.length_append, List.length_singleton, List.length_drop]
          omega
  case done =>
    intro D W hD hI hK
    refine ⟨.inl rfl, ?_⟩
    change WpF 5 Tryz.prog 46 _ _ _ W
    obtain ⟨⟨acc, h1, h2, h3⟩, h4, h5⟩ := hI
    have HD := Aside0.mk (show decL s = some acc from h1)
    have hst := bstring_any W6.heap.size w.heap.size w.heap.size acc W h2 (by omega) (Nat.le_refl _) (by omega)
    have HK := Aside0.mk hK
    have HDD := Aside0.mk hD
    clear h1 hK
    refine wpF_of ?_
    gi_wp2_with (refine ⟨trivial, ?_⟩; gi_at_call 76; (with_reducible refine (callsIn_wide.2 hst).mono ?_); rintro e wx ⟨rfl, hb9, hk9⟩)
    have hKD : wx.heap[D]? = some (.deferred (some [])) := hk9 D _ HK.out (fun e => by injection e with e; have := HDD.out; omega) (fun c fz e => by cases e)
    refine ⟨(fun h => by cases h), .inl ⟨_, _, rfl, run_takeDeferred hKD, ?_⟩⟩
    refine ⟨.string ⟨acc.toArray⟩, by simp [results, Tryz.f46, go_sem], ?_, ?_⟩
    · have hk := h4.trans hb9
      exact ⟨hk.os, hk.tape, hk.output, by simpa [World.putObj] using hk.size, fun k h => (World.putObj_heap_other (by have := HDD.out; omega)).trans (hk.block k h)⟩
    · show match decL s with | none => _ | some l => _
      rw [HD.out]
      rfl
  case panic =>
    rintro D ch W hD ⟨rfl, hn, hk⟩ hK
    refine ⟨.inr ⟨_, rfl⟩, ?_⟩
    refine ⟨(fun h => by cases h), .inl ⟨_, _, rfl, run_takeDeferred hK, ?_⟩⟩
    refine ⟨?_, ?_⟩
    · exact ⟨hk.os, hk.tape, hk.output, by simpa [World.putObj] using hk.size, fun k h => (World.putObj_heap_other (by omega)).trans (hk.block k h)⟩
    · show match decL s with | none => _ | some l => _
      rw [show decL s = none from hn]
end Go.Proofs.YtddjhmelniphgaaGreatDoor.Print
