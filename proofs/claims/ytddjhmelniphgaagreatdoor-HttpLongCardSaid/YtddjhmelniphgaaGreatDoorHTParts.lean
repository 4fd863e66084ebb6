/- Contract of http.parts: an iterator over what stands between separators, with its place. -/
import Derived.Test.YtddjhmelniphgaaGreatDoorHPan
import Derived.Test.YtddjhmelniphgaaGreatDoorHTTok
import Derived.Test.YtddjhmelniphgaaGreatDoorHTLaid
namespace Go.Proofs.YtddjhmelniphgaaGreatDoor.Print
open Go Go.RowKit Go.Shelf Go.Proofs.YtddjhmelniphgaaGreatDoorW.PrintWords Go.Proofs.YtddjhmelniphgaaGreatDoorW.PrintLast
set_option linter.unusedVariables false
set_option linter.unusedSimpArgs false
attribute [local go_sem] Oper.semAt_some
def bs (l : List UInt8) : ByteArray := ⟨l.toArray⟩
theorem bs_list (l : List UInt8) : (bs l).data.toList = l := rfl
theorem bs_size (l : List UInt8) : (bs l).size = l.length := rfl
theorem bs_of (s : ByteArray) : bs s.data.toList = s := rfl
theorem cut_any (s sep : List UInt8) (hs : s.length ≤ 4000000) (w : World) (m : Int) (hm : w.cell? ⟨0, 0, none⟩ = some (.int .i64 m)) :
    Calls Tryz.prog 30 #[.string (bs s), .string (bs sep)] w fun e w' => e = .returned (.tuple #[.string (bs (Lib.cut s sep).1), .string (bs (Lib.cut s sep).2.1), .bool (Lib.cut s sep).2.2]) ∧ Below w.heap.size w w' :=
  (Tryz.strings_Cut (bs s) (bs sep) m w (by rw [bs_size]; omega) hm).mono fun e w' ⟨he, n, hw⟩ => ⟨he, by rw [hw]; exact pw_below_drewN (Below.refl _ w) n⟩
theorem index_fits : ∀ {s sep : List UInt8}, 0 ≤ Lib.index s sep → (Lib.index s sep).toNat + sep.length ≤ s.length
  | [], sep, h => by
    unfold Lib.index at h ⊢
    split at h
    · rename_i h2
      rw [if_pos h2]
      rw [List.isEmpty_iff] at h2
      subst h2; simp
    · omega
  | b :: l, sep, h => by
    unfold Lib.index at h ⊢
    by_cases h2 : sep.isPrefixOf (b :: l) = true
    · rw [if_pos h2]
      have := (List.isPrefixOf_iff_prefix.1 h2).length_le
      simpa using this
    · rw [if_neg h2] at h ⊢
      by_cases h3 : (Lib.index l sep == -1) = true
      · rw [if_pos h3] at h; omega
      · rw [if_neg h3] at h ⊢
        have h4 := Lib.index_ge l sep
        have h5 : Lib.index l sep ≠ -1 := by simpa using h3
        have h6 := index_fits (s := l) (sep := sep) (by omega)
        rw [List.length_cons]
        omega
theorem cut_found {s sep : List UInt8} (h : (Lib.cut s sep).2.2 = true) : (Lib.cut s sep).1.length + sep.length + (Lib.cut s sep).2.1.length = s.length := by
  unfold Lib.cut at h ⊢
  split
  · rename_i h2
    have := index_fits h2
    simp
    omega
  · rename_i h2
    rw [if_neg h2] at h; cases h
theorem cut_lost {s sep : List UInt8} (h : (Lib.cut s sep).2.2 = false) : (Lib.cut s sep).1 = s := by
  unfold Lib.cut at h ⊢
  split
  · rename_i h2
    rw [if_pos h2] at h; cases h
  · rfl
/-- What stands between separators. -/
def partsL (sep : List UInt8) : Nat → List UInt8 → List (List UInt8)
  | 0, s => [s]
  | f + 1, s => if (Lib.cut s sep).2.2 = true then (Lib.cut s sep).1 :: partsL sep f (Lib.cut s sep).2.1 else [s]
def enumL : Nat → List (List UInt8) → List (Nat × List UInt8)
  | _, [] => []
  | i, x :: r => (i, x) :: enumL (i + 1) r
def encP (x : Nat × List UInt8) : Array Value := #[.int .i64 x.1, .string (bs x.2)]
/-- What a round leaves of the iterator's own. -/
structure KpP (Bs Bp : Nat) (W W' : World) : Prop where
  size : W.heap.size ≤ W'.heap.size
  same : ∀ k, k = Bs ∨ k = Bp ∨ k = 0 → W'.heap[k]? = W.heap[k]?
theorem KpP.trans {Bs Bp : Nat} {A C D : World} (h : KpP Bs Bp A C) (k : KpP Bs Bp C D) : KpP Bs Bp A D := ⟨Nat.le_trans h.size k.size, fun i hi => (k.same i hi).trans (h.same i hi)⟩
theorem own_of_below {B : Nat} {W W' : World} (h : Below W.heap.size W W') : OwnStep B W W' := ⟨h.os, h.tape, h.output, h.size, fun k hk _ => h.block k hk⟩
def sizeOf (B : Nat) (W : World) : Nat := match W.cell? ⟨B, 0, none⟩ with | some (.string s) => s.size | _ => 0
theorem sizeOf_eq {B : Nat} {W : World} {s : ByteArray} (h : W.cell? ⟨B, 0, none⟩ = some (.string s)) : sizeOf B W = s.size := by unfold sizeOf; rw [h]
theorem parts_any (s sep : ByteArray) (w : World) : Calls Tryz.prog 45 #[.string s, .string sep] w fun e w' =>
    e = .returned (.func (.func 73) #[] #[.pointer (some ⟨w.heap.size, 0, none⟩), .pointer (some ⟨w.heap.size + 1, 0, none⟩)]) ∧
    w' = (w.alloc (.cells #[.string s] 9)).alloc (.cells #[.string sep] 9) := by
  go_enter Tryz.func45, Tryz.ntmps45
  go_wp2
  go_ret
  exact ⟨rfl, rfl⟩
set_option maxRecDepth 100000 in
set_option maxHeartbeats 4000000 in
theorem parts_seq (s sep : List UInt8) (hsep : sep ≠ []) (hs : s.length ≤ 1048576) (Bs Bp : Nat) (m : Int) (w : World) (hpb : Bp ≠ Bs) (hmb : 0 ≠ Bs)
    (cs : w.cell? ⟨Bs, 0, none⟩ = some (.string (bs s))) (fs : w.frozen? ⟨Bs, 0, none⟩ = false) (cp : w.cell? ⟨Bp, 0, none⟩ = some (.string (bs sep))) (cm : w.cell? ⟨0, 0, none⟩ = some (.int .i64 m)) :
    SeqP Tryz.prog 73 #[.pointer (some ⟨Bs, 0, none⟩), .pointer (some ⟨Bp, 0, none⟩)] encP (KpP Bs Bp) Bs (enumL 0 (partsL sep s.length s)) w := fun n l J Jp hJ W hW hY hj0 => by
  have cs1 := (hW.cell (p := ⟨Bs, 0, none⟩) (Lib.lt_of_cell cs)).trans cs
  have fs1 := (hW.frozen (p := ⟨Bs, 0, none⟩) (Lib.lt_of_cell cs)).trans fs
  have cp1 := (hW.cell (p := ⟨Bp, 0, none⟩) (Lib.lt_of_cell cp)).trans cp
  have cm1 := (hW.cell (p := ⟨0, 0, none⟩) (Lib.lt_of_cell cm)).trans cm
  clear cs fs cp cm hW
  obtain ⟨ys, hys⟩ : ∃ ys, ys = enumL 0 (partsL sep s.length s) := ⟨_, rfl⟩
  rw [← hys] at hY ⊢
  have HY := Aside0.mk hys
  have HSEP := Aside0.mk (List.length_pos_iff.2 hsep)
  clear hys hsep
  refine callsIn_of_wp Tryz.func73 rfl trivial ?_ rfl
  simp only [Tryz.ntmps73, List.size_toArray, List.length_cons, List.length_nil, Nat.reduceAdd, Nat.reduceSub, Array.replicate_succ, Array.replicate_zero, List.push_toArray, List.append_toArray, List.nil_append, List.cons_append]
  gi_wp2
  gi_loopw [4] (fun i wr => ∃ (pre : List (Nat × List UInt8)) (rest : List UInt8) (f : Nat), i = .int .i64 pre.length ∧ wr.cell? ⟨Bs, 0, none⟩ = some (.string (bs rest)) ∧ wr.frozen? ⟨Bs, 0, none⟩ = false ∧ wr.cell? ⟨Bp, 0, none⟩ = some (.string (bs sep)) ∧ wr.cell? ⟨0, 0, none⟩ = some (.int .i64 m) ∧
      Aside0 (rest.length ≤ f ∧ rest.length + pre.length ≤ 1048576 ∧ ys = pre ++ enumL pre.length (partsL sep f rest) ∧ J pre wr)) (fun _ wr => sizeOf Bs wr)
  case atStart => exact ⟨[], s, s.length, rfl, cs1, fs1, cp1, cm1, Aside0.mk ⟨Nat.le_refl _, by simpa using hs, HY.out, hj0⟩⟩
  case round =>
    obtain ⟨pre, rest, f, rfl, c1, c2, c3, c4, HH⟩ := hrel
    clear cs1 fs1 cp1 cm1
    have hcut := fun W hm => cut_any rest sep (by have := HH.out.2.1; omega) W m hm
    cases hfd : (Lib.cut rest sep).2.2 with
    | true =>
      obtain ⟨hf, hz, hx, hj⟩ := HH.out
      clear HH
      have hlen := cut_found hfd
      obtain ⟨f, rfl⟩ : ∃ f', f = f' + 1 := ⟨f - 1, by have := HSEP.out; omega⟩
      simp only [partsL] at hx
      rw [if_pos hfd] at hx
      simp only [enumL] at hx
      simp only [hfd] at hcut
      have hY1 := fun W1 hj1 => hY pre (pre.length, (Lib.cut rest sep).1) W1 hj1 (by rw [hx]; exact ⟨enumL (pre.length + 1) (partsL sep f (Lib.cut rest sep).2.1), by simp⟩)
      have HX := Aside0.mk hx
      have HF := Aside0.mk hf
      have HZ := Aside0.mk hz
      have HL := Aside0.mk hlen
      clear hx hf hz hlen hfd hY
      generalize (Lib.cut rest sep).1 = a at *
      generalize (Lib.cut rest sep).2.1 = r at *
      have E0 := Aside0.mk (sizeOf_eq c1)
      gi_wp2_with (refine ⟨trivial, fun h => absurd h (by decide), ?_⟩; gi_at_call 30; refine (callsIn_wide.2 (hcut _ (by first | exact c4 | assumption))).mono ?_; rintro e w1 ⟨rfl, hb1⟩)
      have hj1 : J pre w1 := hJ _ _ _ hj (own_of_below hb1)
      have d1 := (hb1.cell (p := ⟨Bs, 0, none⟩) (Lib.lt_of_cell c1)).trans c1
      have d2 := (hb1.frozen (p := ⟨Bs, 0, none⟩) (Lib.lt_of_cell c1)).trans c2
      have d3 := (hb1.cell (p := ⟨Bp, 0, none⟩) (Lib.lt_of_cell c3)).trans c3
      have d4 := (hb1.cell (p := ⟨0, 0, none⟩) (Lib.lt_of_cell c4)).trans c4
      obtain ⟨fn, tmps, assign, body, hy, hR⟩ := hY1 _ hj1
      simp only [encP] at hy
      clear hY1 hj hb1 hcut c1 c2 c3 c4
      simp only [hy]
      refine ⟨fun h => absurd h (by decide), ?_⟩
      refine hR.mono ?_
      rintro e W3 (⟨rfl, hj3, hk3⟩ | ⟨ch, rfl, hjp3⟩)
      · have g1 := (World.cell?_of_block (a := ⟨Bs, 0, none⟩) (hk3.same Bs (.inl rfl))).trans d1
        have g2 := (World.frozen?_of_block (a := ⟨Bs, 0, none⟩) (hk3.same Bs (.inl rfl))).trans d2
        have g3 := (World.cell?_of_block (a := ⟨Bp, 0, none⟩) (hk3.same Bp (.inr (.inl rfl)))).trans d3
        have g4 := (World.cell?_of_block (a := ⟨0, 0, none⟩) (hk3.same _ (.inr (.inr rfl)))).trans d4
        have E1 := Aside0.mk (show wrap64 ((pre.length : Int) + 1) = (((pre ++ [(pre.length, a)]).length : Nat) : Int) by have := HZ.out; rw [List.length_append, List.length_singleton]; unfold wrap64; omega)
        clear hk3 d1 d2 d3 d4 hR hy
        gi_wp2
        go_roundw
        case rel =>
          exact ⟨pre ++ [(pre.length, a)], r, f, by rw [E1.out], World.cell?_setCell_same' _ _ _ (by rw [g1]; rfl), by rw [World.frozen?_setCell]; exact g2,
            (World.cell?_of_block (Below.heap_setCell _ _ _ _ hpb)).trans g3, (World.cell?_of_block (Below.heap_setCell _ _ _ _ hmb)).trans g4,
            Aside0.mk ⟨by have := HF.out; have := HL.out; have := HSEP.out; omega, by have := HZ.out; have := HL.out; have := HSEP.out; rw [List.length_append, List.length_singleton]; omega, by rw [HX.out]; simp, hJ _ _ _ hj3 (step_set _ _ _)⟩⟩
        case measure =>
          rw [E0.out, sizeOf_eq (World.cell?_setCell_same' _ _ _ (by rw [g1]; rfl)), bs_size, bs_size]
          have := HL.out; have := HSEP.out
          omega
      · gi_wp2
        refine ⟨rfl, .inr ⟨ch, rfl, hjp3⟩⟩
    | false =>
      obtain ⟨hf, hz, hx, hj⟩ := HH.out
      clear HH
      have hlost := cut_lost hfd
      have hpl : partsL sep f rest = [rest] := by
        cases f with
        | zero => rfl
        | succ f => simp only [partsL]; rw [if_neg (by rw [hfd]; decide)]
      rw [hpl] at hx
      simp only [enumL] at hx
      simp only [hfd, hlost] at hcut
      have hY1 := fun W1 hj1 => hY pre (pre.length, rest) W1 hj1 (by rw [hx]; exact List.prefix_refl _)
      have HX := Aside0.mk hx
      clear hx hf hz hfd hY hpl hlost
      generalize (Lib.cut rest sep).2.1 = r at *
      gi_wp2_with (refine ⟨trivial, fun h => absurd h (by decide), ?_⟩; gi_at_call 30; refine (callsIn_wide.2 (hcut _ (by first | exact c4 | assumption))).mono ?_; rintro e w1 ⟨rfl, hb1⟩)
      have hj1 : J pre w1 := hJ _ _ _ hj (own_of_below hb1)
      obtain ⟨fn, tmps, assign, body, hy, hR⟩ := hY1 _ hj1
      simp only [encP] at hy
      clear hY1 hj hb1 hcut c1 c2 c3 c4
      simp only [hy]
      refine ⟨fun h => absurd h (by decide), ?_⟩
      refine hR.mono ?_
      rintro e W3 (⟨rfl, hj3, hk3⟩ | ⟨ch, rfl, hjp3⟩)
      · clear hk3 hR hy
        gi_wp2
        refine bodyPost_ret (results_none rfl _ _ _) rfl ?_
        exact .inl ⟨⟨_, rfl⟩, by rw [HX.out]; exact hj3⟩
      · gi_wp2
        refine ⟨rfl, .inr ⟨ch, rfl, hjp3⟩⟩
end Go.Proofs.YtddjhmelniphgaaGreatDoor.Print
