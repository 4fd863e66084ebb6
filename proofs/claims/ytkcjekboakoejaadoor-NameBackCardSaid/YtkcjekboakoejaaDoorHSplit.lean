/- Contract of strings.SplitSeq at a separator of one byte, as an iterator's value. -/
import Derived.Test.YtkcjekboakoejaaDoorHSeq
import Derived.Test.YtkcjekboakoejaaDoorHShelf
import Derived.Test.YtkcjekboakoejaaDoorPrint0
namespace Go.Proofs.YtkcjekboakoejaaDoor.Print
open Go Go.RowKit Go.Shelf Go.Proofs.YtkcjekboakoejaaDoorW.PrintWords Go.Proofs.YtkcjekboakoejaaDoorW.PrintLast
set_option linter.unusedVariables false
set_option linter.unusedSimpArgs false
attribute [local go_sem] Oper.semAt_some

/-- The parts between separators. -/
def partsB (c : UInt8) : Nat → ByteArray → List ByteArray
  | 0, s => [s]
  | f + 1, s => if 0 ≤ Lib.indexByte s.data.toList c then s.extract 0 (Lib.indexByte s.data.toList c).toNat :: partsB c f (s.extract ((Lib.indexByte s.data.toList c).toNat + 1) s.size) else [s]
theorem partsB_none {c : UInt8} {s : ByteArray} (h : ¬ 0 ≤ Lib.indexByte s.data.toList c) (f : Nat) : partsB c f s = [s] := by
  cases f with
  | zero => rfl
  | succ f => simp only [partsB]; rw [if_neg h]
theorem partsB_some {c : UInt8} {s : ByteArray} (h : 0 ≤ Lib.indexByte s.data.toList c) (f : Nat) : partsB c (f + 1) s = s.extract 0 (Lib.indexByte s.data.toList c).toNat :: partsB c f (s.extract ((Lib.indexByte s.data.toList c).toNat + 1) s.size) := by
  simp only [partsB]; rw [if_pos h]
theorem index_lt {c : UInt8} : ∀ {l : List UInt8}, 0 ≤ Lib.indexByte l c → (Lib.indexByte l c).toNat < l.length
  | [], h => by simp [Lib.indexByte] at h
  | b :: l, h => by
    simp only [Lib.indexByte] at h ⊢
    split
    · simp
    · rename_i hb
      rw [if_neg hb] at h
      split
      · rename_i h1
        rw [if_pos h1] at h
        omega
      · rename_i h1
        rw [if_neg h1] at h
        have h0 := Lib.indexByte_ge l c
        have h2 : ¬ Lib.indexByte l c = -1 := by simpa using h1
        have := index_lt (l := l) (c := c) (by omega)
        simp only [List.length_cons]
        omega
/-- What the iterator's own cell still holds. -/
def restOf (B : Nat) (W : World) : Nat := match W.cell? ⟨B, 0, none⟩ with | some (.string s) => s.size | _ => 0
theorem restOf_eq {B : Nat} {W : World} {s : ByteArray} (h : W.cell? ⟨B, 0, none⟩ = some (.string s)) : restOf B W = s.size := by unfold restOf; rw [h]

theorem splitSeq_any (s sep : ByteArray) (w : World) : Calls Tryd.prog 41 #[.string s, .string sep] w fun e w' =>
    e = .returned (.func (.func 54) #[] #[.pointer (some ⟨w.heap.size + 1, 0, none⟩), .pointer (some ⟨w.heap.size, 0, none⟩), .pointer (some ⟨w.heap.size + 1 + 1, 0, none⟩)]) ∧
    w' = ((w.alloc (.cells #[.string s] 9)).alloc (.cells #[.string sep] 9)).alloc (.cells #[.int .i64 0] 3) := by
  have hin : ∀ W, Calls Tryd.prog 49 #[.string s, .string sep, .int .i64 0] W fun e w' =>
      e = .returned (.func (.func 54) #[] #[.pointer (some ⟨W.heap.size + 1, 0, none⟩), .pointer (some ⟨W.heap.size, 0, none⟩), .pointer (some ⟨W.heap.size + 1 + 1, 0, none⟩)]) ∧
      w' = ((W.alloc (.cells #[.string s] 9)).alloc (.cells #[.string sep] 9)).alloc (.cells #[.int .i64 0] 3) := fun W => by
    go_enter Tryd.func49, Tryd.ntmps49
    go_wp2
    go_ret
    exact ⟨rfl, rfl⟩
  go_enter Tryd.func41, Tryd.ntmps41
  go_wp2_with (go_at_call 49; refine (hin _).mono ?_; rintro e w' ⟨rfl, rfl⟩)
  go_ret
  exact ⟨rfl, rfl⟩


theorem partsB_drop {c : UInt8} {s : ByteArray} (h : 0 ≤ Lib.indexByte s.data.toList c) {f : Nat} (hf : s.size ≤ f) : ∃ f', f = f' + 1 ∧ (s.extract ((Lib.indexByte s.data.toList c).toNat + 1) s.size).size ≤ f' ∧ (s.extract ((Lib.indexByte s.data.toList c).toNat + 1) s.size).size < s.size ∧ (Lib.indexByte s.data.toList c).toNat < s.size := by
  have h1 := index_lt h
  rw [Array.length_toList] at h1
  have h1' : (Lib.indexByte s.data.toList c).toNat < s.size := h1
  rw [ByteArray.size_extract]
  exact ⟨f - 1, by omega, by omega, by omega, h1'⟩

set_option maxRecDepth 100000 in
set_option maxHeartbeats 2000000 in
theorem split_stops (n : Nat) (c : UInt8) (s : ByteArray) (hs : s.size ≤ 140737488351232) (Bp Bs Bq n₀ : Nat) (w : World) (h0 : n₀ ≤ w.heap.size) (hp : Bp < n₀) (hb : Bs < n₀) (hq : Bq < n₀) (hpb : Bp ≠ Bs) (hqb : Bq ≠ Bs)
    (cs : w.cell? ⟨Bs, 0, none⟩ = some (.string s)) (fs : w.frozen? ⟨Bs, 0, none⟩ = false) (cp : w.cell? ⟨Bp, 0, none⟩ = some (.string ⟨#[c]⟩)) (cq : w.cell? ⟨Bq, 0, none⟩ = some (.int .i64 0)) :
    SeqOwn Fence.wide n Tryd.prog 54 #[.pointer (some ⟨Bp, 0, none⟩), .pointer (some ⟨Bs, 0, none⟩), .pointer (some ⟨Bq, 0, none⟩)] (fun x : ByteArray => #[Value.string x]) (Below n₀) Bs
      (fun ys => ys = partsB c s.size s) (fun pre => pre <+: partsB c s.size s) (partsB c s.size s).length w := fun l J Jx hJ hJx W hW hY hj0 => by
  have cs1 := (hW.cell (p := ⟨Bs, 0, none⟩) (by simp; omega)).trans cs
  have fs1 := (hW.frozen (p := ⟨Bs, 0, none⟩) (by simp; omega)).trans fs
  have cp1 := (hW.cell (p := ⟨Bp, 0, none⟩) (by simp; omega)).trans cp
  have cq1 := (hW.cell (p := ⟨Bq, 0, none⟩) (by simp; omega)).trans cq
  clear cs fs cp cq hW
  obtain ⟨ys, hys⟩ : ∃ ys, ys = partsB c s.size s := ⟨_, rfl⟩
  rw [← hys] at hY ⊢
  have HY := Aside0.mk hys
  clear hys
  refine callsIn_of_wp Tryd.func54 rfl trivial ?_ rfl
  simp only [Tryd.ntmps54, List.size_toArray, List.length_cons, List.length_nil, Nat.reduceAdd, Nat.reduceSub, Array.replicate_succ, Array.replicate_zero, List.push_toArray, List.append_toArray, List.nil_append, List.cons_append]
  gi_wp2
  gi_loopw [7] (fun _ wr => ∃ (pre : List ByteArray) (rest : ByteArray) (f : Nat), wr.cell? ⟨Bs, 0, none⟩ = some (.string rest) ∧ wr.frozen? ⟨Bs, 0, none⟩ = false ∧ wr.cell? ⟨Bp, 0, none⟩ = some (.string ⟨#[c]⟩) ∧ wr.cell? ⟨Bq, 0, none⟩ = some (.int .i64 0) ∧
      Aside0 (rest.size ≤ f ∧ rest.size ≤ 140737488351232 ∧ ys = pre ++ partsB c f rest ∧ J pre wr)) (fun _ wr => restOf Bs wr)
  case atStart => exact ⟨[], s, s.size, cs1, fs1, cp1, cq1, Aside0.mk ⟨Nat.le_refl _, hs, HY.out, hj0⟩⟩
  case round =>
    obtain ⟨pre, rest, f, c1, c2, c3, c4, HH⟩ := hrel
    obtain ⟨hf, hz, hx, hj⟩ := HH.out
    clear HH cs1 fs1 cp1 cq1
    by_cases hi : 0 ≤ Lib.indexByte rest.data.toList c
    · obtain ⟨f, rfl, hf2, hlt, hil⟩ := partsB_drop hi hf
      rw [partsB_some hi] at hx
      have hidx := fun W => (Tryd.strings_Index_one rest c W)
      obtain ⟨j, hij⟩ : ∃ j : Nat, Lib.indexByte rest.data.toList c = (j : Int) := ⟨_, (Int.toNat_of_nonneg hi).symm⟩
      rw [hij] at hx hf2 hlt hil hidx
      simp only [Int.toNat_natCast] at hx hf2 hlt hil
      obtain ⟨fn, tmps, assign, body, hy, hR⟩ := hY pre (rest.extract 0 j) _ hj (by rw [hx]; simp)
      have HX := Aside0.mk hx
      have HF := Aside0.mk hf2
      have HL := Aside0.mk hlt
      clear hx hij hi hf hf2 hlt
      have i1 : (0 : Int) ≤ (j : Int) := by omega
      have i2 : (j : Int) ≤ (rest.size : Int) := by omega
      gi_wp2_with (refine ⟨trivial, fun h => absurd h (by decide), ?_⟩; gi_at_call 48; refine (callsIn_wide.2 (hidx _)).mono ?_; rintro e w' ⟨rfl, rfl⟩)
      gi_wp2
      refine ⟨fun h => absurd h (by decide), ?_⟩
      refine hR.mono ?_
      rintro e W3 (⟨rfl, hj3, hk3⟩ | ⟨rfl, hjx3⟩)
      · have d1 := (hk3.cell (p := ⟨Bs, 0, none⟩) hb).trans c1
        have d2 := (hk3.frozen (p := ⟨Bs, 0, none⟩) hb).trans c2
        have d3 := (hk3.cell (p := ⟨Bp, 0, none⟩) hp).trans c3
        have d4 := (hk3.cell (p := ⟨Bq, 0, none⟩) hq).trans c4
        have ew : wrap64 ((j : Int) + 1) = ((j + 1 : Nat) : Int) := by unfold wrap64; omega
        have e0 := restOf_eq c1
        have E0 := Aside0.mk e0
        clear hk3 c1 c2 c3 c4 hR hy hY hidx e0
        gi_wp2
        go_roundw
        case rel =>
          exact ⟨pre ++ [rest.extract 0 j], rest.extract (j + 1) rest.size, f, World.cell?_setCell_same' _ _ _ (by rw [d1]; rfl), by rw [World.frozen?_setCell]; exact d2,
            (World.cell?_of_block (Below.heap_setCell _ _ _ _ hpb)).trans d3, (World.cell?_of_block (Below.heap_setCell _ _ _ _ hqb)).trans d4,
            Aside0.mk ⟨HF.out, by have := HL.out; omega, by rw [HX.out]; simp, hJ _ _ _ hj3 (step_set _ _ _)⟩⟩
        case measure =>
          rw [E0.out, restOf_eq (World.cell?_setCell_same' _ _ _ (by rw [d1]; rfl))]
          exact HL.out
      · gi_wp2
        refine bodyPost_ret (results_none rfl _ _ _) rfl ?_
        exact ⟨⟨_, rfl⟩, .inr ⟨_, ⟨partsB c f (rest.extract (j + 1) rest.size), by rw [HX.out]; simp⟩, hjx3⟩⟩
    · rw [partsB_none hi] at hx
      have hidx := fun W => Tryd.strings_Index_one rest c W
      have hi' : Lib.indexByte rest.data.toList c = -1 := by have := Lib.indexByte_ge rest.data.toList c; omega
      rw [hi'] at hidx
      obtain ⟨fn, tmps, assign, body, hy, hR⟩ := hY pre rest _ hj (by rw [hx]; simp)
      have HX := Aside0.mk hx
      clear hx hi hi' hf
      gi_wp2_with (refine ⟨trivial, fun h => absurd h (by decide), ?_⟩; gi_at_call 48; refine (callsIn_wide.2 (hidx _)).mono ?_; rintro e w' ⟨rfl, rfl⟩)
      gi_wp2
      refine ⟨fun h => absurd h (by decide), ?_⟩
      refine hR.mono ?_
      rintro e W3 (⟨rfl, hj3, hk3⟩ | ⟨rfl, hjx3⟩)
      · gi_wp2
        go_end0
        exact ⟨⟨_, rfl⟩, .inl ⟨_, by rw [HX.out], hj3⟩⟩
      · gi_wp2
        go_end0
        exact ⟨⟨_, rfl⟩, .inr ⟨_, by rw [HX.out]; exact List.prefix_refl _, hjx3⟩⟩
end Go.Proofs.YtkcjekboakoejaaDoor.Print
