/- Contract of http.read. -/
import Derived.Test.YtddjhmelniphgaaGreatDoorHAn
import Derived.Test.YtddjhmelniphgaaGreatDoorHTRdI
import Derived.Test.YtddjhmelniphgaaGreatDoorHTAsc
namespace Go.Proofs.YtddjhmelniphgaaGreatDoor.Print
open Go Go.RowKit Go.Proofs.YtddjhmelniphgaaGreatDoorW.PrintWords Go.Proofs.YtddjhmelniphgaaGreatDoorW.PrintLast
set_option linter.unusedVariables false
set_option linter.unusedSimpArgs false
attribute [local go_sem] Oper.semAt_some
theorem extract_take (s : List UInt8) (k : Nat) : (bs s).extract 0 k = bs (s.take k) := by
  apply ByteArray.ext
  rw [ByteArray.data_extract]
  apply Array.ext'
  unfold bs
  simp
theorem front_eq (s : List UInt8) : (bs s).extract 0 (min (s.length : Int) 8192).toNat = bs (s.take 8192) := by
  rw [extract_take]
  have e : (min (s.length : Int) 8192).toNat = min s.length 8192 := by omega
  rw [e]
  congr 1
  by_cases h : s.length ≤ 8192
  · rw [Nat.min_eq_left h, List.take_of_length_le (Nat.le_refl _), List.take_of_length_le h]
  · rw [Nat.min_eq_right zy4]
theorem wr4 {a b : Nat} (h : a ≤ 8192) (e : b = a + 4) : wrap64 ((a : Int) + 4) = (b : Int) := by subst e; unfold wrap64; omega
theorem wr2 {h a b c : Nat} (h1 : h ≤ 8192) (h2 : a = h + 4) (h3 : b ≤ 65536) (e : c = a + b) : wrap64 ((a : Int) + (b : Int)) = (c : Int) := by subst e; subst h2; unfold wrap64; omega
theorem keepsB {W W' : World} (h : Below W.heap.size W W') : KeepsOthers W W' := ⟨h.size, fun k o hk _ => (h.block k (Array.getElem?_eq_some_iff.1 hk).1).trans hk⟩
theorem hd_info : (Tryz.prog.info? 59).map (fun i => (i.zero, i.size, i.bytes)) = some (some (.agg #[.string ByteArray.empty, .string ByteArray.empty]), 2, 32) := by kernel_rfl
theorem le_lit {b : Nat} (h : b ≤ 65536) : (b : Int) ≤ 65536 := by omega
theorem gt_lit {b : Nat} (h : ¬ b ≤ 65536) : ¬ (b : Int) ≤ 65536 := by omega
theorem own_form {W : World} {n1 k : Nat} {e : TypeId} {z : Nat} {v : Value} {xs : List Value} (h : W.ownsRow n1 e z v k xs) : ∃ A c, v = .slice A k c := by
  rcases h.2 with ⟨rfl, rfl⟩ | ⟨g, c, cur, rfl, _⟩
  · exact ⟨_, _, rfl⟩
  · exact ⟨_, _, rfl⟩
theorem extract_mid (s : List UInt8) (a b : Nat) : (bs s).extract a (a + b) = bs ((s.drop a).take b) := by
  apply ByteArray.ext
  rw [ByteArray.data_extract]
  apply Array.ext'
  unfold bs
  simp [List.take_drop]
set_option maxRecDepth 100000 in
set_option maxHeartbeats 4000000 in
theorem read_any (g : Nat) (lb : Array Value) (eg : ∀ args w, (callFunc g args).run Tryz.prog w = .ok (.enter g args) w) (p : List UInt8 → Bool) (R : Nat) (obj : Option (List UInt8) → Obj) (hF : FirstC g lb p R obj) (ho : ∀ o, (obj o).isCells = true)
    (hf : 0 ≠ R ∧ 1 ≠ R ∧ 2 ≠ R ∧ 4 ≠ R) (s : List UInt8) (hs : s.length ≤ 1048576) (w : World) (HL : Laid0 w) (hR : w.heap[R]? = some (obj none)) :
    Calls Tryz.prog 28 #[.string (bs s), .func (.func g) #[] lb] w (readPost R obj p s w) := by
  obtain ⟨m, hm⟩ := HL.max
  have hcut := fun W2 (hb : Below w.heap.size w W2) => cut_any (s.take 8192) [13, 10, 13, 10] (by rw [List.length_take]; omega) W2 m ((hb.cell (Lib.lt_of_cell hm)).trans hm)
  have e4 : bs [13, 10, 13, 10] = (⟨#[13, 10, 13, 10]⟩ : ByteArray) := rfl
  simp only [e4] at hcut
  clear e4
  have hRd : readL p s = readL p s := rfl
  conv at hRd => rhs; unfold readL headOf
  have HRD := Aside0.mk hRd
  clear hRd
  have hsz : ((bs s).size : Int) = (s.length : Int) := rfl
  have hfr := front_eq s
  have HS := Aside0.mk hs
  have HM := Aside0.mk hm
  clear hs hm
  obtain ⟨hd, hhd⟩ : ∃ hd, hd = (Lib.cut (s.take 8192) [13, 10, 13, 10]).1 := ⟨_, rfl⟩
  have HHD := Aside0.mk hhd
  have hhl : hd.length ≤ 8192 := by
    have := (cut_le (s.take 8192) [13, 10, 13, 10]).1
    rw [List.length_take] at this
    rw [hhd]; omega
  rw [← hhd] at hcut HRD
  have HHL := Aside0.mk hhl
  clear hhd hhl
  generalize hrs : (Lib.cut (s.take 8192) [13, 10, 13, 10]).2.1 = rs at *
  generalize hfd : (Lib.cut (s.take 8192) [13, 10, 13, 10]).2.2 = fd at *
  have HFD := Aside0.mk hfd
  clear hrs hfd
  have h8 : s.length < 8192 ∨ ¬ s.length < 8192 := Classical.em _
  refine calls_of_wpF (n := 5) Tryz.func28 rfl ?_
  simp only [Tryz.ntmps28, List.size_toArray, List.length_cons, List.length_nil, Nat.reduceAdd, Nat.reduceSub, Array.replicate_succ, Array.replicate_zero, List.push_toArray, List.append_toArray, List.nil_append, List.cons_append]
  refine wpF_seq (wpF_of ?_)
  gi_wp2
  refine wpF_seq (wpF_of ?_)
  gi_wp2
  obtain ⟨W0, hW0⟩ : ∃ W0, W0 = (w.alloc (Obj.cells #[Value.func (Fn.func g) #[] lb] 39)).alloc (Obj.cells #[Value.slice none 0 0, Value.string ⟨#[]⟩, Value.int IntKind.i64 0] 66) := ⟨_, rfl⟩
  rw [← hW0]
  have hb0 : Below w.heap.size w W0 := by rw [hW0]; exact ((Below.refl _ w).alloc (Nat.le_refl _) _).alloc zy3 _
  have k3 : W0.heap[w.heap.size]? = some (.cells #[Value.func (Fn.func g) #[] lb] 39 (0, 0)) := by
    rw [hW0]; exact (Below.heap_alloc _ _ _ zy3).trans (World.alloc_heap_new w _)
  have k4 : W0.heap[w.heap.size + 1]? = some (.cells #[Value.slice none 0 0, Value.string ⟨#[]⟩, Value.int IntKind.i64 0] 66 (0, 0)) := by
    rw [hW0]
    have := World.alloc_heap_new (w.alloc (Obj.cells #[Value.func (Fn.func g) #[] lb] 39)) (Obj.cells #[Value.slice none 0 0, Value.string ⟨#[]⟩, Value.int IntKind.i64 0] 66)
    rwa [World.size_alloc] at this
  clear hW0 hfr
  refine wpF_seq (wpF_of ?_)
  gi_wp2_with (refine ⟨trivial, ?_⟩; gi_at_call 30; (with_reducible refine (callsIn_wide.2 (hcut W0 hb0)).mono ?_); rintro e w1 ⟨rfl, hb1⟩)
  have hb01 := hb0.trans (hb1.mono hb0.size)
  have q3 := blk_below k3 hb1
  have q4 := blk_below k4 hb1
  have hs0 := hb0.size
  have hz0 : w.heap.size + 2 ≤ W0.heap.size := by have := (Array.getElem?_eq_some_iff.1 k4).1; omega
  clear k3 k4
  have hRl : R < w.heap.size := (Array.getElem?_eq_some_iff.1 hR).1
  cases fd with
  | false =>
    by_cases h8 : s.length < 8192
    · have HE := Aside0.mk (show readL p s = .error 290 by rw [HRD.out, if_pos rfl, if_pos h8])
      have h8i : (s.length : Int) < 8192 := by omega
      clear HRD
      refine wpF_seq (wpF_of ?_)
      gi_wp2_with (refine ⟨trivial, ?_⟩; gi_at_call 44; (refine (callsIn_wide.2 (must_true 292 _)).mono ?_); rintro e w2 ⟨rfl, rfl⟩)
      refine wpF_seq (wpF_of ?_)
      gi_wp2_with (refine ⟨trivial, ?_⟩; gi_at_call 44; (refine (callsIn_wide.2 (must_false 290 _)).mono ?_); rintro e w3 ⟨rfl, rfl⟩)
      exact readPost_err HE.out (own_of_below hb01) (blk_below hR hb01)
    · have HE := Aside0.mk (show readL p s = .error 292 by rw [HRD.out, if_pos rfl, if_neg h8])
      have h8i : ¬ (s.length : Int) < 8192 := by omega
      clear HRD
      refine wpF_seq (wpF_of ?_)
      gi_wp2_with (refine ⟨trivial, ?_⟩; gi_at_call 44; (refine (callsIn_wide.2 (must_false 292 _)).mono ?_); rintro e w2 ⟨rfl, rfl⟩)
      exact readPost_err HE.out (own_of_below hb01) (blk_below hR hb01)
  | true =>
    rw [if_neg zy6] at HRD
    refine wpF_seq (wpF_of ?_)
    gi_wp2_with (refine ⟨trivial, ?_⟩; gi_at_call 44; (refine (callsIn_wide.2 (must_true 292 _)).mono ?_); rintro e w2 ⟨rfl, rfl⟩)
    refine wpF_seq (wpF_of ?_)
    gi_wp2_with (refine ⟨trivial, ?_⟩; gi_at_call 44; (refine (callsIn_wide.2 (must_true 290 _)).mono ?_); rintro e w3 ⟨rfl, rfl⟩)
    refine wpF_seq (wpF_of ?_)
    gi_wp2
    obtain ⟨W5, hW5⟩ : ∃ W5, W5 = (w3.alloc (Obj.cells #[Value.int .i64 0] 3)).alloc (Obj.cells #[Value.bool false] 4) := ⟨_, rfl⟩
    rw [← hW5]
    have hb5 : Below w3.heap.size w3 W5 := by rw [hW5]; exact ((Below.refl _ w3).alloc (Nat.le_refl _) _).alloc zy3 _
    have k9 : W5.heap[w3.heap.size]? = some (.cells #[Value.int .i64 0] 3 (0, 0)) := by
      rw [hW5]; exact (Below.heap_alloc _ _ _ zy3).trans (World.alloc_heap_new w3 _)
    have k10 : W5.heap[w3.heap.size + 1]? = some (.cells #[Value.bool false] 4 (0, 0)) := by
      rw [hW5]
      have := World.alloc_heap_new (w3.alloc (Obj.cells #[Value.int .i64 0] 3)) (Obj.cells #[Value.bool false] 4)
      rwa [World.size_alloc] at this
    clear hW5
    have k3 := blk_below q3 hb5
    have k4 := blk_below q4 hb5
    have hz5 : w3.heap.size + 2 ≤ W5.heap.size := by have := (Array.getElem?_eq_some_iff.1 k10).1; omega
    have hz3 : w.heap.size + 2 ≤ w3.heap.size := by have := hb1.size; omega
    have hb05 := hb01.trans (hb5.mono hb01.size)
    generalize hB9 : w3.heap.size = B9 at *
    refine wpF_seq (wpF_seq (wpF_of ?_))
    gi_wp2_with (refine ⟨trivial, ?_⟩; gi_at_call 45; (refine (callsIn_wide.2 (parts_any _ _ _)).mono ?_); rintro e w6 ⟨rfl, rfl⟩)
    obtain ⟨W6, hW6⟩ : ∃ W6, W6 = (W5.alloc (Obj.cells #[Value.string (bs hd)] 9)).alloc (Obj.cells #[Value.string ⟨#[13, 10]⟩] 9) := ⟨_, rfl⟩
    rw [← hW6]
    have hb6 : Below W5.heap.size W5 W6 := by rw [hW6]; exact ((Below.refl _ W5).alloc (Nat.le_refl _) _).alloc zy3 _
    have ks : W6.heap[W5.heap.size]? = some (.cells #[Value.string (bs hd)] 9 (0, 0)) := by
      rw [hW6]; exact (Below.heap_alloc _ _ _ zy3).trans (World.alloc_heap_new W5 _)
    have kp : W6.heap[W5.heap.size + 1]? = some (.cells #[Value.string ⟨#[13, 10]⟩] 9 (0, 0)) := by
      rw [hW6]
      have := World.alloc_heap_new (W5.alloc (Obj.cells #[Value.string (bs hd)] 9)) (Obj.cells #[Value.string ⟨#[13, 10]⟩] 9)
      rwa [World.size_alloc] at this
    clear hW6
    replace k3 := blk_below k3 hb6
    replace k4 := blk_below k4 hb6
    replace k9 := blk_below k9 hb6
    replace k10 := blk_below k10 hb6
    have hb06 := hb05.trans (hb6.mono hb05.size)
    have hz6 : W5.heap.size + 2 ≤ W6.heap.size := by have := (Array.getElem?_eq_some_iff.1 kp).1; omega
    have hs05 := hb05.size
    generalize hBs : W5.heap.size = Bs at *
    have hRB : RdB R w.heap.size (w.heap.size + 1) B9 (B9 + 1) Bs w.heap.size W6.heap.size := ⟨hRl, Nat.le_refl _, by omega, by omega, by omega, by omega, by omega⟩
    have hml := Lib.lt_of_cell HM.out
    have hml' : 0 < w.heap.size := hml
    have hlt6 : w.heap.size < W6.heap.size := by omega
    have hlt46 : w.heap.size + 1 < W6.heap.size := by omega
    refine wpF_block ?_
    refine wpF_range (n := 5) (B := Bs) (w0 := W6) Tryz.func28 (gf := 73) (lb := #[.pointer (some ⟨Bs, 0, none⟩), .pointer (some ⟨Bs + 1, 0, none⟩)]) rfl (enters_of Tryz.func73 (by kernel_rfl) rfl)
      (encs := encP) (Kp := KpP Bs (Bs + 1)) (L := linesOf hd)
      (parts_seq hd [13, 10] zy3 (by have := HHL.out; omega) Bs (Bs + 1) m W6 zy4 zy4 (blk_cell ks 0) (blk_frozen ks 0) (blk_cell kp 0) ((hb06.cell (p := ⟨0, 0, none⟩) hml').trans HM.out))
      zy4 (fun h k => h.trans k) (fun W l o o' hl ho => ⟨by simp [World.putObj], fun k hk => World.putObj_heap_other (by rcases hk with rfl | rfl | rfl <;> omega)⟩) (Below.refl _ _) (fun x => rfl)
      (RdI R w.heap.size (w.heap.size + 1) B9 (B9 + 1) W6.heap.size g lb p obj w)
      (RdP R p obj w (linesOf hd))
      (fun pre A C h hc => h.calm hRB ho zy4 hc)
      ⟨⟨[], 0, false, .slice none 0 0, rfl, k4, ⟨rfl, .inl ⟨rfl, rfl⟩⟩, k9, k10⟩, k3, blk_below hR hb06, own_of_below hb06, Nat.le_refl _⟩
      ?round ?done ?panic
    case round =>
      intro l pre x W hI hpre
      obtain ⟨i, line⟩ := x
      obtain ⟨hi, hmem⟩ := enumL_pre _ 0 pre (i, line) hpre
      have hll := Nat.le_trans (partsL_le [13, 10] hd.length hd line hmem) HHL.out
      obtain ⟨rst, hrst⟩ := hpre
      have hrst' : linesOf hd = pre ++ (i, line) :: rst := by rw [← hrst]; simp
      have HPRE := Aside0.mk hrst'
      have HI0 := Aside0.mk (show i = pre.length by rw [show i = 0 + pre.length from hi, Nat.zero_add])
      have HLL := Aside0.mk hll
      clear hi hmem hll hrst hrst' hI HRD HFD k3 k4 k9 k10 ks kp hcut q3 q4
      rw [show encP (i, line) = #[.int .i64 i, .string (bs line)] from rfl]
      gi_wp2
      clear W
      intro W hI
      have hlaid := laid_own HL hRl hf hI.keep
      have HI := Aside0.mk hI
      obtain ⟨⟨hs, body, told, v, h1, h2, h3, h4, h5⟩, h6, h7, h8, h9⟩ := hI
      obtain ⟨A0, cp0, rfl⟩ := own_form h3
      have hb6l : B9 + 1 < W.heap.size := (Array.getElem?_eq_some_iff.1 h5).1
      have hszW : Bs + 1 < W.heap.size := by have := h9; omega
      have HKP : Aside0 (∀ W', Below W.heap.size W W' → KpP Bs (Bs + 1) W W') := ⟨fun W' hb => kpP_below hb zy4 zy4 zy4⟩
      have PN : Aside0 (∀ W', Below W.heap.size W W' → stepR p (i, line) (hs, body, told) = none → KeepsOthers W W' ∧ RdP R p obj w (linesOf hd) (oops 291) W') :=
        ⟨fun W' hb hn => ⟨keepsB hb, rfl, by rw [HPRE.out]; exact runR_none h1 hn, h8.trans (own_of_below hb), _, blk_below h7 hb⟩⟩
      have h13 := fun W => Tryz.strings_IndexByte (bs line) 13 W
      have h10 := fun W => Tryz.strings_IndexByte (bs line) 10 W
      change ∀ W, Calls _ _ _ W fun e w' => e = .returned (.int .i64 (Lib.indexByte line 13)) ∧ w' = W at h13
      change ∀ W, Calls _ _ _ W fun e w' => e = .returned (.int .i64 (Lib.indexByte line 10)) ∧ w' = W at h10
      have HST := Aside0.mk (show stepR p (i, line) (hs, body, told) = _ from rfl)
      have HOD := Aside0.mk (show oddLine i line = !(decide (Lib.indexByte line 13 < 0) && decide (Lib.indexByte line 10 < 0) && decide (i ≤ 64)) from rfl)
      generalize Lib.indexByte line 13 = a at *
      generalize Lib.indexByte line 10 = b at *
      by_cases ha : a < 0
      · by_cases hb : b < 0
        · by_cases hi64 : i ≤ 64
          · have hod : oddLine i line = false := by rw [HOD.out, decide_eq_true ha, decide_eq_true hb, decide_eq_true hi64]; rfl
            have hi64b : decide ((i : Int) ≤ 64) = true := decide_eq_true zy4
            by_cases hi0 : i = 0
            · have hp0 : pre = [] := List.length_eq_zero_iff.1 (by rw [← HI0.out, hi0])
              subst hp0
              have hi0b : ((i : Int) == 0) = true := by rw [hi0]; rfl
              have h7n : W.heap[R]? = some (obj none) := h7
              have c30 := blk_cell h6 0
              have hfst := hF W line h7n hlaid (Nat.le_trans HLL.out zy6)
              have hRW : R < W.heap.size := (Array.getElem?_eq_some_iff.1 h7n).1
              cases hp : p line with
              | false =>
                have HN := Aside0.mk (show stepR p (i, line) (hs, body, told) = none by unfold stepR; rw [if_neg (by rw [hod]; decide), if_pos hi0, if_neg (by rw [hp]; decide)])
                rw [hp] at hfst
                gi_wp2_with (first | (refine ⟨trivial, ?_⟩; gi_at_call 57; (with_reducible refine (CallsIn.inRound l (callsIn_wide.2 (h13 _))).mono ?_); rintro e wx ⟨rfl, rfl⟩) | (refine ⟨trivial, ?_⟩; gi_at_call 57; (with_reducible refine (CallsIn.inRound l (callsIn_wide.2 (h10 _))).mono ?_); rintro e wx ⟨rfl, rfl⟩) | (refine ⟨trivial, ?_⟩; gi_at_call 44; (with_reducible refine (CallsIn.inRound l (callsIn_wide.2 (must_true 291 _))).mono ?_); rintro e wx ⟨rfl, rfl⟩) | (refine ⟨trivial, ?_⟩; gi_at_call 44; (with_reducible refine (CallsIn.inRound l (callsIn_wide.2 (must_false 291 _))).mono ?_); rintro e wx ⟨rfl, rfl⟩) | (refine ⟨trivial, ?_⟩; (with_reducible refine (CallsIn.inRound l (callsIn_wide.2 hfst)).mono ?_); rintro e w16 ⟨rfl, hk16, hR16⟩) | (refine ⟨trivial, ?_⟩))
                exact ⟨rfl, keeps_own h7n (ho none) hk16, rfl, by rw [HPRE.out]; exact runR_none h1 HN.out, h8.trans hk16, _, hR16⟩
              | true =>
                have HN := Aside0.mk (show stepR p (i, line) (hs, body, told) = some (hs, body, told) by unfold stepR; rw [if_neg (by rw [hod]; decide), if_pos hi0, if_pos hp])
                rw [hp] at hfst
                gi_wp2_with (first | (refine ⟨trivial, ?_⟩; gi_at_call 57; (with_reducible refine (CallsIn.inRound l (callsIn_wide.2 (h13 _))).mono ?_); rintro e wx ⟨rfl, rfl⟩) | (refine ⟨trivial, ?_⟩; gi_at_call 57; (with_reducible refine (CallsIn.inRound l (callsIn_wide.2 (h10 _))).mono ?_); rintro e wx ⟨rfl, rfl⟩) | (refine ⟨trivial, ?_⟩; gi_at_call 44; (with_reducible refine (CallsIn.inRound l (callsIn_wide.2 (must_true 291 _))).mono ?_); rintro e wx ⟨rfl, rfl⟩) | (refine ⟨trivial, ?_⟩; (with_reducible refine (CallsIn.inRound l (callsIn_wide.2 hfst)).mono ?_); rintro e w16 ⟨rfl, hk16, hR16⟩) | (refine ⟨trivial, ?_⟩))
                refine ⟨keeps_own h7n (ho none) hk16, kpP_own hk16 zy4 zy4 zy4 zy4 zy4 zy4, ⟨hs, body, told, _, ?_, hk16.other zy4 h2, ownsRow_same h3 (fun g2 cs hg2 hx => hk16.other zy4 hx), hk16.other zy4 h4, hk16.other zy4 h5⟩, hk16.other zy4 h6, hR16, h8.trans hk16, Nat.le_trans h9 hk16.2.2.2.1⟩
                rw [runR_snoc, h1]
                exact HN.out
            · have hi0b : ((i : Int) == 0) = false := beq_eq_false_iff_ne.2 zy4
              have hpne : pre ≠ [] := fun h => hi0 (by rw [HI0.out, h]; rfl)
              have HFS := Aside0.mk (firstOf_snoc hpne (i, line))
              have HLEN := Aside0.mk (show hs.length ≤ 64 from by have h := runR_len h1; have h2 := HI0.out; simp only [List.length_nil, Nat.zero_add] at h; exact Nat.le_trans h (by rw [← h2]; exact hi64))
              obtain ⟨mx, hmx⟩ := hlaid.max
              have hcl0 := cut_any line [58] (Nat.le_trans HLL.out zy6) W mx hmx
              have hle := cut_le line [58]
              have HSR := Aside0.mk (show stepR p (i, line) (hs, body, told) = (if hdOk line = false then none else if lowA (hdName line) = clName then (if told = true then none else (lengthL (hdVal line).data.toList).map fun k => (hs, k, true)) else if lowA (hdName line) = teName then none else some (hs ++ [⟨bs (lowA (hdName line)), hdVal line⟩], body, told)) by
                unfold stepR; rw [if_neg (by rw [hod]; decide), if_neg hi0])
              have HOK := Aside0.mk (show hdOk line = ((Lib.cut line [58]).2.2 && tokenB (bs (hdName line)) && valueB (hdVal line)) from rfl)
              have hcl : Calls Tryz.prog 30 #[.string (bs line), .string ⟨#[58]⟩] W fun e w' => e = .returned (.tuple #[.string (bs (hdName line)), .string (bs (Lib.cut line [58]).2.1), .bool (Lib.cut line [58]).2.2]) ∧ Below W.heap.size W w' := hcl0
              have hrl : (bs (Lib.cut line [58]).2.1).size ≤ 8192 := Nat.le_trans hle.2 HLL.out
              have htr : ∀ W, Calls Tryz.prog 58 #[.string (bs (Lib.cut line [58]).2.1), .string ⟨#[32, 9]⟩] W fun e w' => e = .returned (.string (hdVal line)) ∧ Below W.heap.size W w' := fun W => trim_any _ (Nat.le_trans hrl zy6) W
              have hvl2 : (hdVal line).size ≤ 8192 := Nat.le_trans (trimN_le _) hrl
              have hnl : (hdName line).length ≤ 4000000 := Nat.le_trans (Nat.le_trans hle.1 HLL.out) zy6
              have htk := fun W => token_any (bs (hdName line)) W
              have hvl := fun W => value_any (hdVal line) (Nat.le_trans hvl2 zy6) W
              have HLW := Aside0.mk (fun (h : tokenB (bs (hdName line)) = true) W => lower_any (hdName line) hnl h W)
              have HLN := Aside0.mk (show ∀ W, Laid0 W → Calls Tryz.prog 60 #[.string (hdVal line)] W (lengthPost (hdVal line).data.toList W) from fun W HL => length_any (hdVal line).data.toList (Nat.le_trans (show (hdVal line).data.toList.length ≤ 8192 by simpa using hvl2) zy6) W HL)
              have HVB := Aside0.mk (bs_of (hdVal line))
              clear hcl0 hle hrl hvl2 hnl hmx
              generalize (Lib.cut line [58]).2.1 = rv at *
              generalize (Lib.cut line [58]).2.2 = fd2 at *
              generalize hdVal line = val at *
              generalize hdName line = nm at *
              generalize hok : hdOk line = okk at *
              generalize htb : tokenB (bs nm) = tb at *
              generalize valueB val = vb at *
              have HTB := Aside0.mk htb
              have HOK2 := Aside0.mk HOK.out
              clear hok htb HOK hod
              cases fd2 with
              | false =>
                have HN := Aside0.mk (show stepR p (i, line) (hs, body, told) = none by rw [HSR.out, HOK2.out]; simp)
                gi_wp2_with (first | (refine ⟨trivial, ?_⟩; gi_at_call 57; (with_reducible refine (CallsIn.inRound l (callsIn_wide.2 (h13 _))).mono ?_); rintro e wx ⟨rfl, rfl⟩) | (refine ⟨trivial, ?_⟩; gi_at_call 57; (with_reducible refine (CallsIn.inRound l (callsIn_wide.2 (h10 _))).mono ?_); rintro e wx ⟨rfl, rfl⟩) | (refine ⟨trivial, ?_⟩; gi_at_call 44; (with_reducible refine (CallsIn.inRound l (callsIn_wide.2 (must_true 291 _))).mono ?_); rintro e wx ⟨rfl, rfl⟩) | (refine ⟨trivial, ?_⟩; gi_at_call 44; (with_reducible refine (CallsIn.inRound l (callsIn_wide.2 (must_false 291 _))).mono ?_); rintro e wx ⟨rfl, rfl⟩) | (refine ⟨trivial, ?_⟩; gi_at_call 30; (with_reducible refine (CallsIn.inRound l (callsIn_wide.2 (hcl))).mono ?_); rintro e w11 ⟨rfl, hb11⟩) | (refine ⟨trivial, ?_⟩; gi_at_call 58; (with_reducible refine (CallsIn.inRound l (callsIn_wide.2 (htr _))).mono ?_); rintro e w12 ⟨rfl, hb12⟩) | (refine ⟨trivial, ?_⟩; gi_at_call 31; (with_reducible refine (CallsIn.inRound l (callsIn_wide.2 (htk _))).mono ?_); rintro e w13 ⟨rfl, hb13⟩) | (refine ⟨trivial, ?_⟩; gi_at_call 41; (with_reducible refine (CallsIn.inRound l (callsIn_wide.2 (hvl _))).mono ?_); rintro e w14 ⟨rfl, hb14⟩) | (refine ⟨trivial, ?_⟩))
                exact ⟨rfl, PN.out _ (hb11.trans (hb12.mono hb11.size)) HN.out⟩
              | true =>
                cases tb with
                | false =>
                  have HN := Aside0.mk (show stepR p (i, line) (hs, body, told) = none by rw [HSR.out, HOK2.out]; simp)
                  gi_wp2_with (first | (refine ⟨trivial, ?_⟩; gi_at_call 57; (with_reducible refine (CallsIn.inRound l (callsIn_wide.2 (h13 _))).mono ?_); rintro e wx ⟨rfl, rfl⟩) | (refine ⟨trivial, ?_⟩; gi_at_call 57; (with_reducible refine (CallsIn.inRound l (callsIn_wide.2 (h10 _))).mono ?_); rintro e wx ⟨rfl, rfl⟩) | (refine ⟨trivial, ?_⟩; gi_at_call 44; (with_reducible refine (CallsIn.inRound l (callsIn_wide.2 (must_true 291 _))).mono ?_); rintro e wx ⟨rfl, rfl⟩) | (refine ⟨trivial, ?_⟩; gi_at_call 44; (with_reducible refine (CallsIn.inRound l (callsIn_wide.2 (must_false 291 _))).mono ?_); rintro e wx ⟨rfl, rfl⟩) | (refine ⟨trivial, ?_⟩; gi_at_call 30; (with_reducible refine (CallsIn.inRound l (callsIn_wide.2 (hcl))).mono ?_); rintro e w11 ⟨rfl, hb11⟩) | (refine ⟨trivial, ?_⟩; gi_at_call 58; (with_reducible refine (CallsIn.inRound l (callsIn_wide.2 (htr _))).mono ?_); rintro e w12 ⟨rfl, hb12⟩) | (refine ⟨trivial, ?_⟩; gi_at_call 31; (with_reducible refine (CallsIn.inRound l (callsIn_wide.2 (htk _))).mono ?_); rintro e w13 ⟨rfl, hb13⟩) | (refine ⟨trivial, ?_⟩; gi_at_call 41; (with_reducible refine (CallsIn.inRound l (callsIn_wide.2 (hvl _))).mono ?_); rintro e w14 ⟨rfl, hb14⟩) | (refine ⟨trivial, ?_⟩))
                  exact ⟨rfl, PN.out _ ((hb11.trans (hb12.mono hb11.size)).trans (hb13.mono (Nat.le_trans hb11.size hb12.size))) HN.out⟩
                | true =>
                  cases vb with
                  | false =>
                    have HN := Aside0.mk (show stepR p (i, line) (hs, body, told) = none by rw [HSR.out, HOK2.out]; simp)
                    gi_wp2_with (first | (refine ⟨trivial, ?_⟩; gi_at_call 57; (with_reducible refine (CallsIn.inRound l (callsIn_wide.2 (h13 _))).mono ?_); rintro e wx ⟨rfl, rfl⟩) | (refine ⟨trivial, ?_⟩; gi_at_call 57; (with_reducible refine (CallsIn.inRound l (callsIn_wide.2 (h10 _))).mono ?_); rintro e wx ⟨rfl, rfl⟩) | (refine ⟨trivial, ?_⟩; gi_at_call 44; (with_reducible refine (CallsIn.inRound l (callsIn_wide.2 (must_true 291 _))).mono ?_); rintro e wx ⟨rfl, rfl⟩) | (refine ⟨trivial, ?_⟩; gi_at_call 44; (with_reducible refine (CallsIn.inRound l (callsIn_wide.2 (must_false 291 _))).mono ?_); rintro e wx ⟨rfl, rfl⟩) | (refine ⟨trivial, ?_⟩; gi_at_call 30; (with_reducible refine (CallsIn.inRound l (callsIn_wide.2 (hcl))).mono ?_); rintro e w11 ⟨rfl, hb11⟩) | (refine ⟨trivial, ?_⟩; gi_at_call 58; (with_reducible refine (CallsIn.inRound l (callsIn_wide.2 (htr _))).mono ?_); rintro e w12 ⟨rfl, hb12⟩) | (refine ⟨trivial, ?_⟩; gi_at_call 31; (with_reducible refine (CallsIn.inRound l (callsIn_wide.2 (htk _))).mono ?_); rintro e w13 ⟨rfl, hb13⟩) | (refine ⟨trivial, ?_⟩; gi_at_call 41; (with_reducible refine (CallsIn.inRound l (callsIn_wide.2 (hvl _))).mono ?_); rintro e w14 ⟨rfl, hb14⟩) | (refine ⟨trivial, ?_⟩))
                    exact ⟨rfl, PN.out _ (((hb11.trans (hb12.mono hb11.size)).trans (hb13.mono (Nat.le_trans hb11.size hb12.size))).trans (hb14.mono (Nat.le_trans (Nat.le_trans hb11.size hb12.size) hb13.size))) HN.out⟩
                  | true =>
                    have HSR2 := Aside0.mk (show stepR p (i, line) (hs, body, told) = (if lowA nm = clName then (if told = true then none else (lengthL val.data.toList).map fun k => (hs, k, true)) else if lowA nm = teName then none else some (hs ++ [⟨bs (lowA nm), val⟩], body, told)) by rw [HSR.out, HOK2.out, if_neg zy6])
                    have hlw := HLW.out rfl
                    have HTL := Aside0.mk (show (bs (lowA nm)).toList = lowA nm by rw [Lib.toList_data]; rfl)
                    clear HSR HLW
                    generalize lowA nm = ln at *
                    by_cases hq1 : ln = clName
                    · have hqb : ((bs ln).toList == ([99, 111, 110, 116, 101, 110, 116, 45, 108, 101, 110, 103, 116, 104] : List UInt8)) = true := by rw [HTL.out, hq1]; rfl
                      have HQ1 := Aside0.mk hq1
                      clear hq1
                      cases told with
                      | true =>
                        have HN := Aside0.mk (show stepR p (i, line) (hs, body, true) = none by rw [HSR2.out, if_pos HQ1.out, if_pos rfl])
                        gi_wp2_with (first | (refine ⟨trivial, ?_⟩; gi_at_call 57; (with_reducible refine (CallsIn.inRound l (callsIn_wide.2 (h13 _))).mono ?_); rintro e wx ⟨rfl, rfl⟩) | (refine ⟨trivial, ?_⟩; gi_at_call 57; (with_reducible refine (CallsIn.inRound l (callsIn_wide.2 (h10 _))).mono ?_); rintro e wx ⟨rfl, rfl⟩) | (refine ⟨trivial, ?_⟩; gi_at_call 44; (with_reducible refine (CallsIn.inRound l (callsIn_wide.2 (must_true 291 _))).mono ?_); rintro e wx ⟨rfl, rfl⟩) | (refine ⟨trivial, ?_⟩; gi_at_call 44; (with_reducible refine (CallsIn.inRound l (callsIn_wide.2 (must_false 291 _))).mono ?_); rintro e wx ⟨rfl, rfl⟩) | (refine ⟨trivial, ?_⟩; gi_at_call 30; (with_reducible refine (CallsIn.inRound l (callsIn_wide.2 (hcl))).mono ?_); rintro e w11 ⟨rfl, hb11⟩) | (refine ⟨trivial, ?_⟩; gi_at_call 58; (with_reducible refine (CallsIn.inRound l (callsIn_wide.2 (htr _))).mono ?_); rintro e w12 ⟨rfl, hb12⟩) | (refine ⟨trivial, ?_⟩; gi_at_call 31; (with_reducible refine (CallsIn.inRound l (callsIn_wide.2 (htk _))).mono ?_); rintro e w13 ⟨rfl, hb13⟩) | (refine ⟨trivial, ?_⟩; gi_at_call 41; (with_reducible refine (CallsIn.inRound l (callsIn_wide.2 (hvl _))).mono ?_); rintro e w14 ⟨rfl, hb14⟩) | (refine ⟨trivial, ?_⟩; gi_at_call 59; (with_reducible refine (CallsIn.inRound l (callsIn_wide.2 (hlw _))).mono ?_); rintro e w15 ⟨rfl, hb15⟩; have hB := (((hb11.trans (hb12.mono hb11.size)).trans (hb13.mono (Nat.le_trans hb11.size hb12.size))).trans (hb14.mono (Nat.le_trans (Nat.le_trans hb11.size hb12.size) hb13.size))).trans (hb15.mono (Nat.le_trans (Nat.le_trans (Nat.le_trans hb11.size hb12.size) hb13.size) hb14.size)); have x10 := blk_cell (blk_below h5 hB) 0; have x40 := blk_cell (blk_below h2 hB) 0) | (refine ⟨trivial, ?_⟩))
                        exact ⟨rfl, PN.out _ hB HN.out⟩
                      | false =>
                        cases hlen : lengthL val.data.toList with
                        | none =>
                          have HN := Aside0.mk (show stepR p (i, line) (hs, body, false) = none by rw [HSR2.out, if_pos HQ1.out, if_neg zy6, hlen]; rfl)
                          gi_wp2_with (first | (refine ⟨trivial, ?_⟩; gi_at_call 57; (with_reducible refine (CallsIn.inRound l (callsIn_wide.2 (h13 _))).mono ?_); rintro e wx ⟨rfl, rfl⟩) | (refine ⟨trivial, ?_⟩; gi_at_call 57; (with_reducible refine (CallsIn.inRound l (callsIn_wide.2 (h10 _))).mono ?_); rintro e wx ⟨rfl, rfl⟩) | (refine ⟨trivial, ?_⟩; gi_at_call 44; (with_reducible refine (CallsIn.inRound l (callsIn_wide.2 (must_true 291 _))).mono ?_); rintro e wx ⟨rfl, rfl⟩) | (refine ⟨trivial, ?_⟩; gi_at_call 44; (with_reducible refine (CallsIn.inRound l (callsIn_wide.2 (must_false 291 _))).mono ?_); rintro e wx ⟨rfl, rfl⟩) | (refine ⟨trivial, ?_⟩; gi_at_call 30; (with_reducible refine (CallsIn.inRound l (callsIn_wide.2 (hcl))).mono ?_); rintro e w11 ⟨rfl, hb11⟩) | (refine ⟨trivial, ?_⟩; gi_at_call 58; (with_reducible refine (CallsIn.inRound l (callsIn_wide.2 (htr _))).mono ?_); rintro e w12 ⟨rfl, hb12⟩) | (refine ⟨trivial, ?_⟩; gi_at_call 31; (with_reducible refine (CallsIn.inRound l (callsIn_wide.2 (htk _))).mono ?_); rintro e w13 ⟨rfl, hb13⟩) | (refine ⟨trivial, ?_⟩; gi_at_call 41; (with_reducible refine (CallsIn.inRound l (callsIn_wide.2 (hvl _))).mono ?_); rintro e w14 ⟨rfl, hb14⟩) | (refine ⟨trivial, ?_⟩; gi_at_call 59; (with_reducible refine (CallsIn.inRound l (callsIn_wide.2 (hlw _))).mono ?_); rintro e w15 ⟨rfl, hb15⟩; have hB := (((hb11.trans (hb12.mono hb11.size)).trans (hb13.mono (Nat.le_trans hb11.size hb12.size))).trans (hb14.mono (Nat.le_trans (Nat.le_trans hb11.size hb12.size) hb13.size))).trans (hb15.mono (Nat.le_trans (Nat.le_trans (Nat.le_trans hb11.size hb12.size) hb13.size) hb14.size)); have x10 := blk_cell (blk_below h5 hB) 0; have x40 := blk_cell (blk_below h2 hB) 0) | (refine ⟨trivial, ?_⟩; gi_at_call 60; (with_reducible refine (CallsIn.inRound l (callsIn_wide.2 (HLN.out _ (hlaid.later hB)))).mono ?_); rintro e w16 hpost; obtain ⟨rfl, hb16⟩ := lenPost_none hlen hpost; have hB2 := hB.trans (hb16.mono hB.size); have x9 := blk_cell (blk_below h4 hB2) 0; have y9 := blk_frozen (blk_below h4 hB2) 0; have x10b := blk_cell (blk_below h5 hB2) 0; have y10 := blk_frozen (blk_below h5 hB2) 0) | (refine ⟨trivial, ?_⟩))
                          exact ⟨rfl, PN.out _ hB2 HN.out⟩
                        | some k =>
                          have HN := Aside0.mk (show stepR p (i, line) (hs, body, false) = some (hs, k, true) by rw [HSR2.out, if_pos HQ1.out, if_neg zy6, hlen]; rfl)
                          gi_wp2_with (first | (refine ⟨trivial, ?_⟩; gi_at_call 57; (with_reducible refine (CallsIn.inRound l (callsIn_wide.2 (h13 _))).mono ?_); rintro e wx ⟨rfl, rfl⟩) | (refine ⟨trivial, ?_⟩; gi_at_call 57; (with_reducible refine (CallsIn.inRound l (callsIn_wide.2 (h10 _))).mono ?_); rintro e wx ⟨rfl, rfl⟩) | (refine ⟨trivial, ?_⟩; gi_at_call 44; (with_reducible refine (CallsIn.inRound l (callsIn_wide.2 (must_true 291 _))).mono ?_); rintro e wx ⟨rfl, rfl⟩) | (refine ⟨trivial, ?_⟩; gi_at_call 30; (with_reducible refine (CallsIn.inRound l (callsIn_wide.2 (hcl))).mono ?_); rintro e w11 ⟨rfl, hb11⟩) | (refine ⟨trivial, ?_⟩; gi_at_call 58; (with_reducible refine (CallsIn.inRound l (callsIn_wide.2 (htr _))).mono ?_); rintro e w12 ⟨rfl, hb12⟩) | (refine ⟨trivial, ?_⟩; gi_at_call 31; (with_reducible refine (CallsIn.inRound l (callsIn_wide.2 (htk _))).mono ?_); rintro e w13 ⟨rfl, hb13⟩) | (refine ⟨trivial, ?_⟩; gi_at_call 41; (with_reducible refine (CallsIn.inRound l (callsIn_wide.2 (hvl _))).mono ?_); rintro e w14 ⟨rfl, hb14⟩) | (refine ⟨trivial, ?_⟩; gi_at_call 59; (with_reducible refine (CallsIn.inRound l (callsIn_wide.2 (hlw _))).mono ?_); rintro e w15 ⟨rfl, hb15⟩; have hB := (((hb11.trans (hb12.mono hb11.size)).trans (hb13.mono (Nat.le_trans hb11.size hb12.size))).trans (hb14.mono (Nat.le_trans (Nat.le_trans hb11.size hb12.size) hb13.size))).trans (hb15.mono (Nat.le_trans (Nat.le_trans (Nat.le_trans hb11.size hb12.size) hb13.size) hb14.size)); have x10 := blk_cell (blk_below h5 hB) 0; have x40 := blk_cell (blk_below h2 hB) 0) | (refine ⟨trivial, ?_⟩; gi_at_call 60; (with_reducible refine (CallsIn.inRound l (callsIn_wide.2 (HLN.out _ (hlaid.later hB)))).mono ?_); rintro e w16 hpost; obtain ⟨rfl, hb16⟩ := lenPost_some hlen hpost; have hB2 := hB.trans (hb16.mono hB.size); have x9 := blk_cell (blk_below h4 hB2) 0; have y9 := blk_frozen (blk_below h4 hB2) 0; have x10b := blk_cell (blk_below h5 hB2) 0; have y10 := blk_frozen (blk_below h5 hB2) 0) | (refine ⟨trivial, ?_⟩))
                          have p9 := blk_setT (blk_below h4 hB2) (o := 0) (.int .i64 (k : Nat))
                          have p10 := blk_setT (W := w16.setCell ⟨B9, 0, none⟩ (.int .i64 (k : Nat))) ((Below.heap_setCell _ _ _ _ (show B9 + 1 ≠ B9 by omega)).trans (blk_below h5 hB2)) (o := 0) (.bool true)
                          have hne : ∀ {kk : Nat} {o : Obj}, kk ≠ B9 → kk ≠ B9 + 1 → w16.heap[kk]? = some o → ((w16.setCell ⟨B9, 0, none⟩ (.int .i64 (k : Nat))).setCell ⟨B9 + 1, 0, none⟩ (.bool true)).heap[kk]? = some o := fun e1 e2 hx =>
                            (Below.heap_setCell _ _ _ _ e2).trans ((Below.heap_setCell _ _ _ _ e1).trans hx)
                          refine ⟨((keepsB hB2).trans (KeepsOthers.setCell _ _ _)).trans (KeepsOthers.setCell _ _ _), ((HKP.out _ hB2).trans (kpP_set _ zy4 zy4 zy4)).trans (kpP_set _ zy4 zy4 zy4), ⟨hs, k, true, _, ?_, hne zy4 zy4 (get_below h2 hB2), ownsRow_same h3 (fun g2 cs hg2 hx => hne zy4 zy4 (get_below hx hB2)), (Below.heap_setCell _ _ _ _ (show B9 ≠ B9 + 1 by omega)).trans p9, p10⟩, hne zy4 zy4 (get_below h6 hB2), ?_, own_set (own_set (h8.trans (own_of_below hB2)) zy4) zy4, ?_⟩
                          · rw [runR_snoc, h1]
                            exact HN.out
                          · rw [HFS.out]
                            exact hne zy4 zy4 (get_below h7 hB2)
                          · have := hB2.size
                            simp only [World.setCell, Array.size_modify]
                            exact Nat.le_trans h9 this
                    · have hqb : ((bs ln).toList == ([99, 111, 110, 116, 101, 110, 116, 45, 108, 101, 110, 103, 116, 104] : List UInt8)) = false := by rw [HTL.out]; exact beq_eq_false_iff_ne.2 hq1
                      have HQ1 := Aside0.mk hq1
                      clear hq1
                      by_cases hq2 : ln = teName
                      · have hqb2 : ((bs ln).toList == ([116, 114, 97, 110, 115, 102, 101, 114, 45, 101, 110, 99, 111, 100, 105, 110, 103] : List UInt8)) = true := by rw [HTL.out, hq2]; rfl
                        have HQ2 := Aside0.mk hq2
                        clear hq2
                        have HN := Aside0.mk (show stepR p (i, line) (hs, body, told) = none by rw [HSR2.out, if_neg HQ1.out, if_pos HQ2.out])
                        gi_wp2_with (first | (refine ⟨trivial, ?_⟩; gi_at_call 57; (with_reducible refine (CallsIn.inRound l (callsIn_wide.2 (h13 _))).mono ?_); rintro e wx ⟨rfl, rfl⟩) | (refine ⟨trivial, ?_⟩; gi_at_call 57; (with_reducible refine (CallsIn.inRound l (callsIn_wide.2 (h10 _))).mono ?_); rintro e wx ⟨rfl, rfl⟩) | (refine ⟨trivial, ?_⟩; gi_at_call 44; (with_reducible refine (CallsIn.inRound l (callsIn_wide.2 (must_true 291 _))).mono ?_); rintro e wx ⟨rfl, rfl⟩) | (refine ⟨trivial, ?_⟩; gi_at_call 44; (with_reducible refine (CallsIn.inRound l (callsIn_wide.2 (must_false 291 _))).mono ?_); rintro e wx ⟨rfl, rfl⟩) | (refine ⟨trivial, ?_⟩; gi_at_call 30; (with_reducible refine (CallsIn.inRound l (callsIn_wide.2 (hcl))).mono ?_); rintro e w11 ⟨rfl, hb11⟩) | (refine ⟨trivial, ?_⟩; gi_at_call 58; (with_reducible refine (CallsIn.inRound l (callsIn_wide.2 (htr _))).mono ?_); rintro e w12 ⟨rfl, hb12⟩) | (refine ⟨trivial, ?_⟩; gi_at_call 31; (with_reducible refine (CallsIn.inRound l (callsIn_wide.2 (htk _))).mono ?_); rintro e w13 ⟨rfl, hb13⟩) | (refine ⟨trivial, ?_⟩; gi_at_call 41; (with_reducible refine (CallsIn.inRound l (callsIn_wide.2 (hvl _))).mono ?_); rintro e w14 ⟨rfl, hb14⟩) | (refine ⟨trivial, ?_⟩; gi_at_call 59; (with_reducible refine (CallsIn.inRound l (callsIn_wide.2 (hlw _))).mono ?_); rintro e w15 ⟨rfl, hb15⟩; have hB := (((hb11.trans (hb12.mono hb11.size)).trans (hb13.mono (Nat.le_trans hb11.size hb12.size))).trans (hb14.mono (Nat.le_trans (Nat.le_trans hb11.size hb12.size) hb13.size))).trans (hb15.mono (Nat.le_trans (Nat.le_trans (Nat.le_trans hb11.size hb12.size) hb13.size) hb14.size)); have x10 := blk_cell (blk_below h5 hB) 0; have x40 := blk_cell (blk_below h2 hB) 0) | (refine ⟨trivial, ?_⟩))
                        exact ⟨rfl, PN.out _ hB HN.out⟩
                      · have hqb2 : ((bs ln).toList == ([116, 114, 97, 110, 115, 102, 101, 114, 45, 101, 110, 99, 111, 100, 105, 110, 103] : List UInt8)) = false := by rw [HTL.out]; exact beq_eq_false_iff_ne.2 hq2
                        have HQ2 := Aside0.mk hq2
                        clear hq2
                        have HN := Aside0.mk (show stepR p (i, line) (hs, body, told) = some (hs ++ [⟨bs ln, val⟩], body, told) by rw [HSR2.out, if_neg HQ1.out, if_neg HQ2.out])
                        obtain ⟨i0, hin, hz0, hz1, hz2⟩ := info_parts hd_info
                        gi_wp2_with (first | (refine ⟨trivial, ?_⟩; gi_at_call 57; (with_reducible refine (CallsIn.inRound l (callsIn_wide.2 (h13 _))).mono ?_); rintro e wx ⟨rfl, rfl⟩) | (refine ⟨trivial, ?_⟩; gi_at_call 57; (with_reducible refine (CallsIn.inRound l (callsIn_wide.2 (h10 _))).mono ?_); rintro e wx ⟨rfl, rfl⟩) | (refine ⟨trivial, ?_⟩; gi_at_call 44; (with_reducible refine (CallsIn.inRound l (callsIn_wide.2 (must_true 291 _))).mono ?_); rintro e wx ⟨rfl, rfl⟩) | (refine ⟨trivial, ?_⟩; gi_at_call 30; (with_reducible refine (CallsIn.inRound l (callsIn_wide.2 (hcl))).mono ?_); rintro e w11 ⟨rfl, hb11⟩) | (refine ⟨trivial, ?_⟩; gi_at_call 58; (with_reducible refine (CallsIn.inRound l (callsIn_wide.2 (htr _))).mono ?_); rintro e w12 ⟨rfl, hb12⟩) | (refine ⟨trivial, ?_⟩; gi_at_call 31; (with_reducible refine (CallsIn.inRound l (callsIn_wide.2 (htk _))).mono ?_); rintro e w13 ⟨rfl, hb13⟩) | (refine ⟨trivial, ?_⟩; gi_at_call 41; (with_reducible refine (CallsIn.inRound l (callsIn_wide.2 (hvl _))).mono ?_); rintro e w14 ⟨rfl, hb14⟩) | (refine ⟨trivial, ?_⟩; gi_at_call 59; (with_reducible refine (CallsIn.inRound l (callsIn_wide.2 (hlw _))).mono ?_); rintro e w15 ⟨rfl, hb15⟩; have hB := (((hb11.trans (hb12.mono hb11.size)).trans (hb13.mono (Nat.le_trans hb11.size hb12.size))).trans (hb14.mono (Nat.le_trans (Nat.le_trans hb11.size hb12.size) hb13.size))).trans (hb15.mono (Nat.le_trans (Nat.le_trans (Nat.le_trans hb11.size hb12.size) hb13.size) hb14.size)); have x10 := blk_cell (blk_below h5 hB) 0; have x40 := blk_cell (blk_below h2 hB) 0) | ((with_reducible refine wpListIn_append_own _ rfl (.tmp 83) (.tmp 87) 23 rfl W6.heap.size 59 i0 (.agg #[.string ByteArray.empty, .string ByteArray.empty]) 2 32 Tryz.underlying23 hin hz0 hz1 hz2 rfl zy6 (.slice A0 hs.length cp0) hs.length (hcells hs) rfl ?own ⟨w15.heap.size, 0, none⟩ 1 1 [.string (bs ln), .string val] rfl rfl ?cells ?one ?lim1 ?lim2 ?lim3 ?rest)) | (refine ⟨trivial, ?_⟩))
                        case own => exact ownsRow_same h3 (fun g2 cs hg2 hx => (Below.heap_alloc _ _ _ (Array.getElem?_eq_some_iff.1 (get_below hx hB)).1).trans (get_below hx hB))
                        case cells =>
                          intro j u hj
                          rw [Addr.add_lit, Nat.zero_add, World.cell?_alloc_new]
                          simpa using hj
                        case one =>
                          intro u hu
                          simp only [List.mem_cons, List.not_mem_nil, or_false] at hu
                          rcases hu with rfl | rfl <;> rfl
                        case lim1 => unfold maxLen; have := HLEN.out; omega
                        case lim2 => have := HLEN.out; omega
                        case lim3 => rw [World.size_alloc]; have := hB.size; omega
                        case rest =>
                          intro v' w' hown' hgr _
                          obtain ⟨A1, cp1, rfl⟩ := own_form hown'
                          have hge := own_ge (e := 59) h3
                          have hB3 : Below w15.heap.size w15 (w15.alloc (Obj.cells #[Value.string (bs ln), Value.string val] 59)) := (Below.refl _ _).alloc (Nat.le_refl _) _
                          have hB4 := hB.trans (hB3.mono hB.size)
                          have hrow : ∀ kk, kk < W6.heap.size → (Value.slice A0 hs.length cp0).ownBlock ≠ some kk := fun kk hk e => by have := (hge kk e).1; omega
                          have hup : ∀ {kk : Nat} {o : Obj}, kk < W6.heap.size → (w15.alloc (Obj.cells #[Value.string (bs ln), Value.string val] 59)).heap[kk]? = some o → w'.heap[kk]? = some o := fun hk hx => get_grown hx hgr (hrow _ hk)
                          have z4 := hup zy4 (get_below h2 hB4)
                          have x4 := blk_cell z4 0
                          have y4 := blk_frozen z4 0
                          have HG := Aside0.mk hgr
                          have HO := Aside0.mk hown'
                          clear hgr hown'
                          gi_wp2
                          have hne : ∀ {kk : Nat} {o : Obj}, kk ≠ w.heap.size + 1 → w'.heap[kk]? = some o → (w'.setCell ⟨w.heap.size + 1, 0, none⟩ (.slice A1 (hs.length + 1) cp1)).heap[kk]? = some o := fun e1 hx => (Below.heap_setCell _ _ _ _ e1).trans hx
                          have hsz15 := hB4.size
                          refine ⟨(((keepsB hB).trans (KeepsOthers.alloc _ _)).trans (keeps_grown HG.out (fun b hb => ⟨_, _, get_below (hge b hb).2.choose_spec hB4⟩))).trans (KeepsOthers.setCell _ _ _), ((HKP.out _ hB4).trans (kpP_grown HG.out zy4 zy4 zy4 (fun b hb => by have := (hge b hb).1; omega))).trans (kpP_set _ zy4 zy4 zy4), ⟨hs ++ [⟨bs ln, val⟩], body, told, .slice A1 (hs.length + 1) cp1, ?_, ?_, ?_, hne zy4 (hup zy4 (get_below h4 hB4)), hne zy4 (hup zy4 (get_below h5 hB4))⟩, hne zy4 (hup zy4 (get_below h6 hB4)), ?_, own_set (own_grown (h8.trans (own_of_below hB4)) HG.out (fun b hb => by have := (hge b hb).1; omega)) zy4, ?_⟩
                          · rw [runR_snoc, h1]
                            exact HN.out
                          · have := blk_setT (o := 0) z4 (.slice A1 (hs.length + 1) cp1)
                            simpa using this
                          · rw [hcells_snoc, List.length_append, List.length_singleton]
                            exact ownsRow_same HO.out (fun g2 cs hg2 hx => hne zy4 hx)
                          · rw [HFS.out]
                            exact hne zy4 (hup zy4 (get_below h7 hB4))
                          · simp only [World.setCell, Array.size_modify]
                            have := HG.out.size
                            omega
          · have hi64b : decide ((i : Int) ≤ 64) = false := decide_eq_false zy4
            have HN := Aside0.mk (show stepR p (i, line) (hs, body, told) = none by unfold stepR; rw [if_pos (by rw [HOD.out, decide_eq_false hi64]; simp)])
            gi_wp2_with (first | (refine ⟨trivial, ?_⟩; gi_at_call 57; (with_reducible refine (CallsIn.inRound l (callsIn_wide.2 (h13 _))).mono ?_); rintro e wx ⟨rfl, rfl⟩) | (refine ⟨trivial, ?_⟩; gi_at_call 57; (with_reducible refine (CallsIn.inRound l (callsIn_wide.2 (h10 _))).mono ?_); rintro e wx ⟨rfl, rfl⟩) | (refine ⟨trivial, ?_⟩; gi_at_call 44; (with_reducible refine (CallsIn.inRound l (callsIn_wide.2 (must_false 291 _))).mono ?_); rintro e wx ⟨rfl, rfl⟩) | (refine ⟨trivial, ?_⟩))
            exact ⟨rfl, PN.out _ (Below.refl _ _) HN.out⟩
        · have HN := Aside0.mk (show stepR p (i, line) (hs, body, told) = none by unfold stepR; rw [if_pos (by rw [HOD.out, decide_eq_false hb]; simp)])
          gi_wp2_with (first | (refine ⟨trivial, ?_⟩; gi_at_call 57; (with_reducible refine (CallsIn.inRound l (callsIn_wide.2 (h13 _))).mono ?_); rintro e wx ⟨rfl, rfl⟩) | (refine ⟨trivial, ?_⟩; gi_at_call 57; (with_reducible refine (CallsIn.inRound l (callsIn_wide.2 (h10 _))).mono ?_); rintro e wx ⟨rfl, rfl⟩) | (refine ⟨trivial, ?_⟩; gi_at_call 44; (with_reducible refine (CallsIn.inRound l (callsIn_wide.2 (must_false 291 _))).mono ?_); rintro e wx ⟨rfl, rfl⟩) | (refine ⟨trivial, ?_⟩))
          exact ⟨rfl, PN.out _ (Below.refl _ _) HN.out⟩
      · have HN := Aside0.mk (show stepR p (i, line) (hs, body, told) = none by unfold stepR; rw [if_pos (by rw [HOD.out, decide_eq_false ha]; simp)])
        gi_wp2_with (first | (refine ⟨trivial, ?_⟩; gi_at_call 57; (with_reducible refine (CallsIn.inRound l (callsIn_wide.2 (h13 _))).mono ?_); rintro e wx ⟨rfl, rfl⟩) | (refine ⟨trivial, ?_⟩; gi_at_call 44; (with_reducible refine (CallsIn.inRound l (callsIn_wide.2 (must_false 291 _))).mono ?_); rintro e wx ⟨rfl, rfl⟩) | (refine ⟨trivial, ?_⟩))
        exact ⟨rfl, PN.out _ (Below.refl _ _) HN.out⟩
    case done =>
      intro D W hD hI hK
      refine ⟨.inl rfl, ?_⟩
      change WpF 5 Tryz.prog 28 _ _ _ W
      obtain ⟨⟨hs, body, told, v, h1, h2, h3, h4, h5⟩, h6, h7, h8, h9⟩ := hI
      obtain ⟨A0, cp0, rfl⟩ := own_form h3
      have hsD : w.heap.size ≤ D := Nat.le_trans (Nat.le_of_lt hlt6) hD
      have HRn := HRD.out
      rw [h1] at HRn
      simp only at HRn
      have HRN := Aside0.mk HRn
      have HK := Aside0.mk hK
      have H2 := Aside0.mk h2
      have H3 := Aside0.mk h3
      have H7 := Aside0.mk h7
      have H8 := Aside0.mk h8
      have c90 := blk_cell h4 0
      have c40 := blk_cell h2 0
      have c41 := blk_cell h2 1
      have c42 := blk_cell h2 2
      have f40 := blk_frozen h2 0
      have f41 := blk_frozen h2 1
      have f42 := blk_frozen h2 2
      have HHD2 := Aside0.mk (show (headOf s).1 = hd from HHD.out.symm)
      clear HRn HRD hK h1 h2 h3 h4 h5 h6 h7 h8 k3 k4 k9 k10 ks kp hcut
      obtain ⟨fr, hfr⟩ : ∃ fr, fr = hd.length + 4 := ⟨_, rfl⟩
      obtain ⟨nn, hnn⟩ : ∃ nn, nn = fr + body := ⟨_, rfl⟩
      rw [← hfr, ← hnn] at HRN
      have hhi : ((bs hd).size : Int) = (hd.length : Int) := rfl
      have w1 := wr4 HHL.out hfr
      have HFR := Aside0.mk hfr
      clear hfr
      have hle4 : w.heap.size ≤ w.heap.size + 1 := Nat.le_succ _
      have hltR4 : R < w.heap.size + 1 := Nat.lt_succ_of_lt hRl
      have hlt4 : w.heap.size + 1 < W6.heap.size := hlt46
      generalize hB4 : w.heap.size + 1 = B4 at *
      refine wpF_of ?_
      by_cases hb1 : body ≤ 65536
      · have hb1i : (body : Int) ≤ 65536 := le_lit hb1
        have w2 := wr2 HHL.out HFR.out hb1 hnn
        have HNN := Aside0.mk hnn
        clear hnn
        rw [if_neg (Nat.not_lt.2 hb1)] at HRN
        by_cases hln : nn ≤ s.length
        · have HE := Aside0.mk (show readL p s = .ok (hs, (s.drop fr).take body, nn) by rw [HRN.out, if_neg (Nat.not_lt.2 hln)])
          have hli : (nn : Int) ≤ (s.length : Int) := Int.ofNat_le.2 hln
          have hfn : (fr : Int) ≤ (nn : Int) := Int.ofNat_le.2 (HNN.out ▸ Nat.le_add_right _ _)
          clear HRN
          gi_wp2_with (refine ⟨trivial, ?_⟩; gi_at_call 44; (refine (callsIn_wide.2 (must_true _ _)).mono ?_); rintro e wx ⟨rfl, rfl⟩)
          obtain ⟨st, hst⟩ : ∃ st, st = (bs s).extract fr nn := ⟨_, rfl⟩
          rw [← hst]
          have hst2 : st = bs ((s.drop fr).take body) := by rw [hst, HNN.out]; exact extract_mid s fr body
          obtain ⟨Wf, hWf⟩ : ∃ Wf, Wf = ((((wx.setCell ⟨B4, 2, none⟩ (.int .i64 nn)).setCell ⟨B4, 1, none⟩ (.string st)).setCell ⟨B4, 0, none⟩ (.slice A0 hs.length cp0)).setCell ⟨B4, 1, none⟩ (.string st)).setCell ⟨B4, 2, none⟩ (.int .i64 nn) := ⟨_, rfl⟩
          rw [← hWf]
          have hBf : Wf.heap[B4]? = some (.cells #[.slice A0 hs.length cp0, .string st, .int .i64 nn] 66 (0, 0)) := by
            rw [hWf, blk_setT (blk_setT (blk_setT (blk_setT (blk_setT H2.out _) _) _) _) _]
            simp
          have hOf : OwnStep R w Wf := by
            rw [hWf]
            exact own_set (own_set (own_set (own_set (own_set H8.out hle4) hle4) hle4) hle4) hle4
          have hne : ∀ k, k ≠ B4 → Wf.heap[k]? = wx.heap[k]? := fun k hk => by
            rw [hWf]
            exact (Below.heap_setCell _ _ _ _ hk).trans ((Below.heap_setCell _ _ _ _ hk).trans ((Below.heap_setCell _ _ _ _ hk).trans ((Below.heap_setCell _ _ _ _ hk).trans (Below.heap_setCell _ _ _ _ hk))))
          have hKf : Wf.heap[D]? = some (.deferred (some [])) := (hne D (Nat.ne_of_gt (Nat.lt_of_lt_of_le hlt4 hD))).trans HK.out
          have hRf : Wf.heap[R]? = some (obj (firstOf (linesOf hd))) := (hne R (Nat.ne_of_lt hltR4)).trans H7.out
          have hOw : Wf.ownsRow W6.heap.size 59 2 (.slice A0 hs.length cp0) hs.length (hcells hs) := ownsRow_same H3.out (fun g2 cs hg2 hx => (hne g2 (Nat.ne_of_gt (Nat.lt_of_lt_of_le hlt4 hg2))).trans hx)
          clear hWf hne c40 c41 c42 f40 f41 f42 c90
          refine ⟨(fun h => by cases h), .inl ⟨_, _, rfl, run_takeDeferred hKf, ?_⟩⟩
          have hBD : (Wf.putObj D (.deferred none)).heap[B4]? = some (.cells #[.slice A0 hs.length cp0, .string st, .int .i64 nn] 66 (0, 0)) := (World.putObj_heap_other (Nat.ne_of_lt (Nat.lt_of_lt_of_le hlt4 hD))).trans hBf
          have g0 := blk_cell hBD 0
          have g1 := blk_cell hBD 1
          have g2 := blk_cell hBD 2
          refine ⟨.agg #[.slice A0 hs.length cp0, .string st, .int .i64 nn], by simp [results, Tryz.f28, go_sem, g0, g1, g2], own_putT hOf hsD, ?_⟩
          rw [HE.out]
          refine ⟨⟨_, W6.heap.size, by rw [← hst2], Nat.le_of_lt hlt6, ownsRow_same hOw (fun g2 cs hg2 hx => (World.putObj_heap_other (fun e => by subst e; rw [hKf] at hx; cases hx)).trans hx)⟩, ?_⟩
          rw [HHD2.out]
          exact (World.putObj_heap_other (Nat.ne_of_lt (Nat.lt_of_lt_of_le hRl hsD))).trans hRf
        · have HE := Aside0.mk (show readL p s = .error 290 by rw [HRN.out, if_pos (Nat.lt_of_not_le hln)])
          have hli : ¬ (nn : Int) ≤ (s.length : Int) := fun h => hln (Int.ofNat_le.1 h)
          clear HRN
          gi_wp2_with (first | (refine ⟨trivial, ?_⟩; gi_at_call 44; (with_reducible refine (callsIn_wide.2 (must_true 292 _)).mono ?_); rintro e wx ⟨rfl, rfl⟩) | (refine ⟨trivial, ?_⟩; gi_at_call 44; (with_reducible refine (callsIn_wide.2 (must_false 290 _)).mono ?_); rintro e wx ⟨rfl, rfl⟩))
          refine ⟨(fun h => by cases h), .inl ⟨_, _, rfl, run_takeDeferred HK.out, ?_⟩⟩
          exact readPost_err HE.out (own_putT H8.out hsD) ((World.putObj_heap_other (Nat.ne_of_lt (Nat.lt_of_lt_of_le hRl hsD))).trans H7.out)
      · have HE := Aside0.mk (show readL p s = .error 292 by rw [HRN.out, if_pos (Nat.lt_of_not_le hb1)])
        have hb1i : ¬ (body : Int) ≤ 65536 := gt_lit hb1
        clear HRN
        gi_wp2_with (refine ⟨trivial, ?_⟩; gi_at_call 44; (refine (callsIn_wide.2 (must_false 292 _)).mono ?_); rintro e wx ⟨rfl, rfl⟩)
        refine ⟨(fun h => by cases h), .inl ⟨_, _, rfl, run_takeDeferred HK.out, ?_⟩⟩
        exact readPost_err HE.out (own_putT H8.out hsD) ((World.putObj_heap_other (Nat.ne_of_lt (Nat.lt_of_lt_of_le hRl hsD))).trans H7.out)
    case panic =>
      rintro D ch W hD ⟨rfl, hn, hk, o, hoR⟩ hK
      have HE : readL p s = .error 291 := by rw [HRD.out, hn]
      refine ⟨.inr ⟨_, rfl⟩, ?_⟩
      refine ⟨(fun h => by cases h), .inl ⟨_, _, rfl, run_takeDeferred hK, ?_⟩⟩
      have hsD : w.heap.size ≤ D := Nat.le_trans (Nat.le_of_lt hlt6) hD
      exact readPost_err HE (own_putT hk hsD) ((World.putObj_heap_other (Nat.ne_of_lt (Nat.lt_of_lt_of_le hRl hsD))).trans hoR)
end Go.Proofs.YtddjhmelniphgaaGreatDoor.Print
