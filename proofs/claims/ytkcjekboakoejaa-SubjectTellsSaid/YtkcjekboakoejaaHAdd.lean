/- Contract of subject.Add: a version is added. -/
import Derived.Test.YtkcjekboakoejaaHSoft
import Derived.Test.YtkcjekboakoejaaHClip
import Derived.Deep.RegionLaw
namespace Go.Proofs.Ytkcjekboakoejaa.Print
open Go.RowKit Go.Shelf Go.Proofs.YtkcjekboakoejaaW.PrintWords Go.Proofs.YtkcjekboakoejaaW.PrintLast
set_option linter.unusedVariables false
set_option linter.unusedSimpArgs false

def addP (may : Bool) (old : V30 × Bool) (a0 : ByteArray) (a1 : Int) (l : List V30) (id : Int) : ByteArray × Int × List V30 × V30 × Int :=
  if may = false then (⟨#[]⟩, 0, [], z30, 8) else if id = 0 then (⟨#[]⟩, 0, [], z30, 2) else if old.2 = true then (⟨#[]⟩, 0, [], old.1, 7)
  else if 64 ≤ l.length ∨ 1073741824 ≤ a1 then (⟨#[]⟩, 0, [], z30, 6) else (a0, a1 + 1, l ++ [⟨a1, id, false⟩], ⟨a1, id, false⟩, 0)

theorem mayB_next {a0 : ByteArray} {a1 : Int} {l : List V30} (h : mayB a0 a1 l = true) : 1 ≤ a1 ∧ a1 ≤ 1073741824 := by
  have key : ∀ (l : List V30) (st : Bool × Int × List Int), (l.foldl (mayStep a1) st).1 = true → st.1 = true := by
    intro l
    induction l with
    | nil => intro st h; exact h
    | cons x r ih =>
      intro st h
      have := ih _ h
      simp only [mayStep, Bool.and_eq_true] at this
      exact this.1
  have h1 := key _ _ h
  simp only [headB, Bool.and_eq_true, decide_eq_true_eq] at h1
  exact ⟨h1.2.1, h1.2.2.1⟩

abbrev cSub (a0 : ByteArray) (a1 : Int) (A : Option Addr) (n c : Nat) : Array Value := #[.string a0, .int .i64 a1, .slice A n c]
abbrev cVer (x : V30) : Array Value := #[.int .i64 x.f0, .int .u32 x.f1, .bool x.f2]

theorem c_lit {W : World} {g : Nat} (x : V30) (hb : W.heap[g]? = some (.cells #[.int .i64 x.f0, .int .u32 x.f1, .bool x.f2] 30 (0, 0))) : Kd.C k30 W (some ⟨g, 0, none⟩) 1 [x] := by
  refine ⟨rfl, by decide, fun _ => ⟨⟨g, 0, none⟩, rfl, fun j p hj => ?_⟩⟩
  obtain rfl : j = 0 := by
    have := (List.getElem?_eq_some_iff.1 hj).1
    simp at this
    omega
  simp at hj
  subst hj
  refine ⟨[.int .i64 x.f0, .int .u32 x.f1, .bool x.f2], rfl, k30_mk _ _, fun i u hu => ?_⟩
  rw [Addr.add_lit]
  have := blk_cell hb i
  simp only [Nat.zero_mul, Nat.zero_add]
  rw [this]
  simpa using hu

set_option maxHeartbeats 4000000 in
set_option maxRecDepth 100000 in
theorem add_any (a0 : ByteArray) (a1 : Int) (A : Option Addr) (c : Nat) (l : List V30) (id : Int) (w : World) (hr : Kd.C k30 w A l.length l) (hc : l.length ≤ c) (hbig : l.length ≤ 1048576) (hids : idsOk l = true)
    (r : ByteArray × Int × List V30 × V30 × Int) (hres : addP (mayB a0 a1 l) (firstP (fun x => !x.f2 && (x.f1 == id)) l) a0 a1 l id = r) :
    Calls Try.prog 12 #[.agg #[.string a0, .int .i64 a1, .slice A l.length c], .int .u32 id] w fun e w' => ∃ (A' : Option Addr) (c' : Nat), e = .returned (.tuple #[.agg #[.string r.1, .int .i64 r.2.1, .slice A' r.2.2.1.length c'], .agg #[.int .i64 r.2.2.2.1.f0, .int .u32 r.2.2.2.1.f1, .bool r.2.2.2.1.f2], .int .i64 r.2.2.2.2]) ∧ Kd.C k30 w' A' r.2.2.1.length r.2.2.1 ∧ r.2.2.1.length ≤ c' ∧ Below w.heap.size w w' ∧ (∀ x, A' = some x → 0 < r.2.2.1.length → w.heap.size ≤ x.block) := by
  have hmay := fun (W : World) (hb : Below w.heap.size w W) => may18_any a0 a1 A c l W (Kd.C_below hr hb) hc hbig hids
  have hhas := fun (W : World) (hb : Below w.heap.size w W) => has_any a0 a1 A c l id W (Kd.C_below hr hb) hc hbig
  have HR := Aside0.mk hr
  have HM := Aside0.mk (@mayB_next a0 a1 l)
  clear hr
  generalize firstP (fun x => !x.f2 && (x.f1 == id)) l = p at hhas hres
  obtain ⟨⟨y0, y1, y2⟩, is⟩ := p
  generalize mayB a0 a1 l = may at hmay hres HM
  have HRES := Aside0.mk hres
  clear hres
  go_enter Try.func12, Try.ntmps12
  go_wp2_with fail
  have hb0 := ((((Below.refl _ w).alloc (Nat.le_refl _) (.cells #[.string a0, .int .i64 a1, .slice A l.length c] 24)).alloc (by simp) (.cells #[.string ⟨#[]⟩, .int .i64 0, .slice none 0 0] 24)).alloc (by simp; omega) (.cells #[.int .i64 0, .int .u32 0, .bool false] 30))
  refine (hhas _ hb0).mono ?_
  rintro e w1 ⟨rfl, hb⟩
  have HB1 := Aside0.mk (hb0.trans (hb.mono (by simp; omega)))
  have BK0 := Aside0.mk (blk_below (blk_alloc (blk_alloc (blk_new w (.cells #[.string a0, .int .i64 a1, .slice A l.length c] 24)) (.cells #[.string ⟨#[]⟩, .int .i64 0, .slice none 0 0] 24)) (.cells #[.int .i64 0, .int .u32 0, .bool false] 30)) hb)
  have BK1 := Aside0.mk (blk_below (blk_alloc (blk_new (w.alloc (.cells #[.string a0, .int .i64 a1, .slice A l.length c] 24)) (.cells #[.string ⟨#[]⟩, .int .i64 0, .slice none 0 0] 24)) (.cells #[.int .i64 0, .int .u32 0, .bool false] 30)) hb)
  have BK2 := Aside0.mk (blk_below (blk_new ((w.alloc (.cells #[.string a0, .int .i64 a1, .slice A l.length c] 24)).alloc (.cells #[.string ⟨#[]⟩, .int .i64 0, .slice none 0 0] 24)) (.cells #[.int .i64 0, .int .u32 0, .bool false] 30)) hb)
  have hsz1 : (w.alloc (.cells #[.string a0, .int .i64 a1, .slice A l.length c] 24)).heap.size = w.heap.size + 1 := by simp
  have hsz2 : ((w.alloc (.cells #[.string a0, .int .i64 a1, .slice A l.length c] 24)).alloc (.cells #[.string ⟨#[]⟩, .int .i64 0, .slice none 0 0] 24)).heap.size = w.heap.size + 2 := by simp
  rw [hsz1] at BK1
  rw [hsz2] at BK2
  clear hb hb0 hhas hsz1 hsz2
  have d00 : w1.cell? ⟨w.heap.size, 0, none⟩ = some (.string a0) := blk_cell BK0.out 0
  have d01 : w1.cell? ⟨w.heap.size, 1, none⟩ = some (.int .i64 a1) := blk_cell BK0.out 1
  have d02 : w1.cell? ⟨w.heap.size, 2, none⟩ = some (.slice A l.length c) := blk_cell BK0.out 2
  have hlt := blk_lt BK2.out
  have hlt0 : w.heap.size < w1.heap.size := by omega
  have hne : w.heap.size ≠ w1.heap.size := by omega
  go_wp2_with fail
  refine (hmay _ (below_alloc HB1.out _)).mono ?_
  rintro e w2 ⟨rfl, hb⟩
  have HB2 := Aside0.mk (below_step (below_alloc HB1.out _) hb)
  have BL0 := Aside0.mk (blk_below (blk_alloc BK0.out _) hb)
  have BL1 := Aside0.mk (blk_below (blk_alloc BK1.out _) hb)
  have BL2 := Aside0.mk (blk_below (blk_alloc BK2.out _) hb)
  have BL3 := Aside0.mk (blk_below (blk_new w1 (.cells #[.int .i64 y0, .int .u32 y1, .bool y2] 30)) hb)
  clear hb hmay BK0 BK1 BK2 HB1 d00 d01 d02 hne hlt0
  generalize w1.heap.size = g3 at hlt BL3 ⊢
  clear w1
  have d00 : w2.cell? ⟨w.heap.size, 0, none⟩ = some (.string a0) := blk_cell BL0.out 0
  have d01 : w2.cell? ⟨w.heap.size, 1, none⟩ = some (.int .i64 a1) := blk_cell BL0.out 1
  have d02 : w2.cell? ⟨w.heap.size, 2, none⟩ = some (.slice A l.length c) := blk_cell BL0.out 2
  have d10 : w2.cell? ⟨w.heap.size + 1, 0, none⟩ = some (.string ⟨#[]⟩) := blk_cell BL1.out 0
  have d11 : w2.cell? ⟨w.heap.size + 1, 1, none⟩ = some (.int .i64 0) := blk_cell BL1.out 1
  have d12 : w2.cell? ⟨w.heap.size + 1, 2, none⟩ = some (.slice none 0 0) := blk_cell BL1.out 2
  have d20 : w2.cell? ⟨w.heap.size + 1 + 1, 0, none⟩ = some (.int .i64 0) := blk_cell BL2.out 0
  have d21 : w2.cell? ⟨w.heap.size + 1 + 1, 1, none⟩ = some (.int .u32 0) := blk_cell BL2.out 1
  have d22 : w2.cell? ⟨w.heap.size + 1 + 1, 2, none⟩ = some (.bool false) := blk_cell BL2.out 2
  have d30 : w2.cell? ⟨g3, 0, none⟩ = some (.int .i64 y0) := blk_cell BL3.out 0
  have d31 : w2.cell? ⟨g3, 1, none⟩ = some (.int .u32 y1) := blk_cell BL3.out 1
  have d32 : w2.cell? ⟨g3, 2, none⟩ = some (.bool y2) := blk_cell BL3.out 2
  have f00 := blk_frozen BL0.out 1
  have f02 := blk_frozen BL0.out 2
  have f10 := blk_frozen BL1.out 0
  have f11 := blk_frozen BL1.out 1
  have f12 := blk_frozen BL1.out 2
  have f20 : w2.frozen? ⟨w.heap.size + 1 + 1, 0, none⟩ = false := blk_frozen BL2.out 0
  have f21 : w2.frozen? ⟨w.heap.size + 1 + 1, 1, none⟩ = false := blk_frozen BL2.out 1
  have f22 : w2.frozen? ⟨w.heap.size + 1 + 1, 2, none⟩ = false := blk_frozen BL2.out 2
  have n31 : g3 ≠ w.heap.size + 1 := by omega
  have n32 : g3 ≠ w.heap.size + 1 + 1 := by omega
  have n30 : g3 ≠ w.heap.size := by omega
  have n13 : w.heap.size + 1 ≠ g3 := by omega
  have n23 : w.heap.size + 1 + 1 ≠ g3 := by omega
  have n03 : w.heap.size ≠ g3 := by omega
  cases may with
  | false =>
    have h8 : mayE false = 8 := rfl
    rw [h8]
    have HE : addP false (⟨y0, y1, y2⟩, is) a0 a1 l id = (⟨#[]⟩, 0, [], z30, 8) := rfl
    have HE := Aside0.mk HE
    go_wp2
    refine bodyPost_ret (v := .tuple #[.agg #[.string ⟨#[]⟩, .int .i64 0, .slice none 0 0], .agg #[.int .i64 0, .int .u32 0, .bool false], .int .i64 8]) ?_ rfl ?_
    · simp [results, Try.results12, go_sem, d10, d11, d12, d20, d21, d22]
    · refine ⟨none, 0, ?_, ?_, ?_, ?_⟩
      · rw [← HRES.out, HE.out]; rfl
      · rw [← HRES.out, HE.out]; exact Kd.C_nil _ _
      · rw [← HRES.out, HE.out]; exact Nat.zero_le _
      · exact ⟨(by repeat (first | (with_reducible first | exact HB2.out | apply below_alloc | apply pw_below_drewN | apply below_drew1 | refine below_set ?_ (by omega)))), fun x' hx' _ => by cases hx'⟩
  | true =>
    have h8 : mayE true = 0 := rfl
    rw [h8]
    by_cases hid : id = 0
    · subst hid
      have HE := Aside0.mk (show addP true (⟨y0, y1, y2⟩, is) a0 a1 l 0 = (⟨#[]⟩, 0, [], z30, 2) from rfl)
      go_wp2
      refine bodyPost_ret (v := .tuple #[.agg #[.string ⟨#[]⟩, .int .i64 0, .slice none 0 0], .agg #[.int .i64 0, .int .u32 0, .bool false], .int .i64 2]) ?_ rfl ?_
      · simp [results, Try.results12, go_sem, d10, d11, d12, d20, d21, d22]
      · refine ⟨none, 0, ?_, ?_, ?_, ?_⟩
        · rw [← HRES.out, HE.out]; rfl
        · rw [← HRES.out, HE.out]; exact Kd.C_nil _ _
        · rw [← HRES.out, HE.out]; exact Nat.zero_le _
        · exact ⟨(by repeat (first | (with_reducible first | exact HB2.out | apply below_alloc | apply pw_below_drewN | apply below_drew1 | refine below_set ?_ (by omega)))), fun x' hx' _ => by cases hx'⟩
    · have hidb : (id == 0) = false := by simp [hid]
      have HID := Aside0.mk hid
      clear hid
      cases is with
      | true =>
        have HE := Aside0.mk (show addP true (⟨y0, y1, y2⟩, true) a0 a1 l id = (⟨#[]⟩, 0, [], ⟨y0, y1, y2⟩, 7) from by unfold addP; rw [if_neg (by decide), if_neg HID.out, if_pos rfl])
        go_wp2
        go_region
        all_goals
          go_wp2
          refine bodyPost_ret (v := .tuple #[.agg #[.string ⟨#[]⟩, .int .i64 0, .slice none 0 0], .agg #[.int .i64 y0, .int .u32 y1, .bool y2], .int .i64 7]) ?_ rfl ?_
          · simp [results, Try.results12, go_sem, d10, d11, d12, d20, d21, d22]
          · refine ⟨none, 0, ?_, ?_, ?_, ?_⟩
            · rw [← HRES.out, HE.out]; rfl
            · rw [← HRES.out, HE.out]; exact Kd.C_nil _ _
            · rw [← HRES.out, HE.out]; exact Nat.zero_le _
            · exact ⟨(by repeat (first | (with_reducible first | exact HB2.out | apply below_alloc | apply pw_below_drewN | apply below_drew1 | refine below_set ?_ (by omega)))), fun x' hx' _ => by cases hx'⟩
      | false =>
        obtain ⟨hm1, hm2⟩ := HM.out rfl
        by_cases hf1 : 64 ≤ l.length
        · have HE := Aside0.mk (show addP true (⟨y0, y1, y2⟩, false) a0 a1 l id = (⟨#[]⟩, 0, [], z30, 6) from by unfold addP; rw [if_neg (by decide), if_neg HID.out, if_neg (by simp), if_pos (.inl hf1)])
          go_wp2
          refine bodyPost_ret (v := .tuple #[.agg #[.string ⟨#[]⟩, .int .i64 0, .slice none 0 0], .agg #[.int .i64 0, .int .u32 0, .bool false], .int .i64 6]) ?_ rfl ?_
          · simp [results, Try.results12, go_sem, d10, d11, d12, d20, d21, d22]
          · refine ⟨none, 0, ?_, ?_, ?_, ?_⟩
            · rw [← HRES.out, HE.out]; rfl
            · rw [← HRES.out, HE.out]; exact Kd.C_nil _ _
            · rw [← HRES.out, HE.out]; exact Nat.zero_le _
            · exact ⟨(by repeat (first | (with_reducible first | exact HB2.out | apply below_alloc | apply pw_below_drewN | apply below_drew1 | refine below_set ?_ (by omega)))), fun x' hx' _ => by cases hx'⟩
        · by_cases hf2 : 1073741824 ≤ a1
          · have HE := Aside0.mk (show addP true (⟨y0, y1, y2⟩, false) a0 a1 l id = (⟨#[]⟩, 0, [], z30, 6) from by unfold addP; rw [if_neg (by decide), if_neg HID.out, if_neg (by simp), if_pos (.inr hf2)])
            go_wp2
            refine bodyPost_ret (v := .tuple #[.agg #[.string ⟨#[]⟩, .int .i64 0, .slice none 0 0], .agg #[.int .i64 0, .int .u32 0, .bool false], .int .i64 6]) ?_ rfl ?_
            · simp [results, Try.results12, go_sem, d10, d11, d12, d20, d21, d22]
            · refine ⟨none, 0, ?_, ?_, ?_, ?_⟩
              · rw [← HRES.out, HE.out]; rfl
              · rw [← HRES.out, HE.out]; exact Kd.C_nil _ _
              · rw [← HRES.out, HE.out]; exact Nat.zero_le _
              · exact ⟨(by repeat (first | (with_reducible first | exact HB2.out | apply below_alloc | apply pw_below_drewN | apply below_drew1 | refine below_set ?_ (by omega)))), fun x' hx' _ => by cases hx'⟩
          · have HE := Aside0.mk (show addP true (⟨y0, y1, y2⟩, false) a0 a1 l id = (a0, a1 + 1, l ++ [⟨a1, id, false⟩], ⟨a1, id, false⟩, 0) from by unfold addP; rw [if_neg (by decide), if_neg HID.out, if_neg (by simp), if_neg (by omega)])
            clear d30 d31 d32 n31 n32 n30 n13 n23 n03 f20 f21 f22
            obtain ⟨i0, hi, hz0, hz1, hz2⟩ := info_parts info30
            have hsz : (w2.alloc (.cells #[.int .i64 a1, .int .u32 id, .bool false] 30)).heap.size = w2.heap.size + 1 := by simp
            have hbv := blk_drew (blk_new (w2.alloc (.cells #[.int .i64 a1, .int .u32 id, .bool false] 30)) (.cells #[.int .i64 a1, .int .u32 id, .bool false] 30))
            rw [hsz] at hbv
            have hC0 := Kd.C_below HR.out (below_alloc (below_alloc HB2.out (.cells #[.int .i64 a1, .int .u32 id, .bool false] 30)) (.cells #[.int .i64 a1, .int .u32 id, .bool false] 30))
            obtain ⟨x, cap, w3, hrun, hcap, hC3, hb3, hx⟩ := clip_one k30 22 30 Try.underlying22 hi hz0 hz1 hz2 rfl (by decide) ((w2.alloc (.cells #[.int .i64 a1, .int .u32 id, .bool false] 30)).alloc (.cells #[.int .i64 a1, .int .u32 id, .bool false] 30)).drew A ⟨w2.heap.size + 1, 0, none⟩ l.length 1 l ⟨a1, id, false⟩ rfl (Kd.C_drew hC0) (c_lit ⟨a1, id, false⟩ hbv) (by omega) (by omega)
            have HX := Aside0.mk hx
            have HC3 := Aside0.mk hC3
            have HB3 := Aside0.mk (below_step (below_drew1 (below_alloc (below_alloc HB2.out (.cells #[.int .i64 a1, .int .u32 id, .bool false] 30)) (.cells #[.int .i64 a1, .int .u32 id, .bool false] 30))) hb3)
            have BM0 := Aside0.mk (blk_below (blk_drew (blk_alloc (blk_alloc BL0.out (.cells #[.int .i64 a1, .int .u32 id, .bool false] 30)) (.cells #[.int .i64 a1, .int .u32 id, .bool false] 30))) hb3)
            have BM1 := Aside0.mk (blk_below (blk_drew (blk_alloc (blk_alloc BL1.out (.cells #[.int .i64 a1, .int .u32 id, .bool false] 30)) (.cells #[.int .i64 a1, .int .u32 id, .bool false] 30))) hb3)
            have BM2 := Aside0.mk (blk_below (blk_drew (blk_alloc (blk_alloc BL2.out (.cells #[.int .i64 a1, .int .u32 id, .bool false] 30)) (.cells #[.int .i64 a1, .int .u32 id, .bool false] 30))) hb3)
            have BM4 := Aside0.mk (blk_below (blk_drew (blk_alloc (blk_new w2 (.cells #[.int .i64 a1, .int .u32 id, .bool false] 30)) (.cells #[.int .i64 a1, .int .u32 id, .bool false] 30))) hb3)
            have HRUN := Aside0.mk hrun
            have HCAP := Aside0.mk hcap
            have hsl : ∀ W : World, (Instr.slice 22 (.slice A l.length c) none (some (.int .i64 l.length)) (some (.int .i64 l.length))).run Try.prog W = .ok (.slice A l.length l.length) W := by
              intro W
              have hel : Try.prog.elem 22 = 30 := by simp [Program.elem, Try.underlying22]
              have ha : (A.map fun x => x.add 0) = A := by cases A <;> simp [Addr.add]
              rw [run_slice_hm W _ _ _ _ (by rw [hel]; exact Try.underlying22) .i64 .i64 l.length l.length (by omega) (by omega) (by omega), hel]
              simp [sizeOf, typeInfo, hi, sliced, Result.andThen, ha]
            clear hrun hcap hx hb3 hC3 hC0 hbv hsz hi hz0 hz1 hz2 i0
            have hlt2 : w.heap.size < w2.heap.size := by have := blk_lt BL0.out; omega
            have hlt3 : w.heap.size + 1 < w2.heap.size := by have := blk_lt BL1.out; omega
            have hlt4 : w.heap.size + 1 + 1 < w2.heap.size := blk_lt BL2.out
            have hne2 : w.heap.size ≠ w2.heap.size := by omega
            go_upto_region 12 with fail
            clear d00 d01 d02 d10 d11 d12 d20 d21 d22 f00 f02 f10 f11 f12
            have d02 : w2.cell? ⟨w.heap.size, 2, none⟩ = some (.slice A l.length c) := blk_cell BL0.out 2
            have e00 : w3.cell? ⟨w.heap.size, 0, none⟩ = some (.string a0) := blk_cell BM0.out 0
            have g00 : w3.frozen? ⟨w.heap.size, 0, none⟩ = false := blk_frozen BM0.out 0
            have e01 : w3.cell? ⟨w.heap.size, 1, none⟩ = some (.int .i64 a1) := blk_cell BM0.out 1
            have g01 : w3.frozen? ⟨w.heap.size, 1, none⟩ = false := blk_frozen BM0.out 1
            have e02 : w3.cell? ⟨w.heap.size, 2, none⟩ = some (.slice A l.length c) := blk_cell BM0.out 2
            have g02 : w3.frozen? ⟨w.heap.size, 2, none⟩ = false := blk_frozen BM0.out 2
            have e10 : w3.cell? ⟨w.heap.size + 1, 0, none⟩ = some (.string ⟨#[]⟩) := blk_cell BM1.out 0
            have g10 : w3.frozen? ⟨w.heap.size + 1, 0, none⟩ = false := blk_frozen BM1.out 0
            have e11 : w3.cell? ⟨w.heap.size + 1, 1, none⟩ = some (.int .i64 0) := blk_cell BM1.out 1
            have g11 : w3.frozen? ⟨w.heap.size + 1, 1, none⟩ = false := blk_frozen BM1.out 1
            have e12 : w3.cell? ⟨w.heap.size + 1, 2, none⟩ = some (.slice none 0 0) := blk_cell BM1.out 2
            have g12 : w3.frozen? ⟨w.heap.size + 1, 2, none⟩ = false := blk_frozen BM1.out 2
            have e20 : w3.cell? ⟨w.heap.size + 1 + 1, 0, none⟩ = some (.int .i64 0) := blk_cell BM2.out 0
            have g20 : w3.frozen? ⟨w.heap.size + 1 + 1, 0, none⟩ = false := blk_frozen BM2.out 0
            have e21 : w3.cell? ⟨w.heap.size + 1 + 1, 1, none⟩ = some (.int .u32 0) := blk_cell BM2.out 1
            have g21 : w3.frozen? ⟨w.heap.size + 1 + 1, 1, none⟩ = false := blk_frozen BM2.out 1
            have e22 : w3.cell? ⟨w.heap.size + 1 + 1, 2, none⟩ = some (.bool false) := blk_cell BM2.out 2
            have g22 : w3.frozen? ⟨w.heap.size + 1 + 1, 2, none⟩ = false := blk_frozen BM2.out 2
            have e40 : w3.cell? ⟨w2.heap.size, 0, none⟩ = some (.int .i64 a1) := blk_cell BM4.out 0
            have e41 : w3.cell? ⟨w2.heap.size, 1, none⟩ = some (.int .u32 id) := blk_cell BM4.out 1
            have e42 : w3.cell? ⟨w2.heap.size, 2, none⟩ = some (.bool false) := blk_cell BM4.out 2
            have : w2.heap.size ≠ w.heap.size := by omega
            have : w.heap.size ≠ w2.heap.size := by omega
            have : w2.heap.size ≠ w.heap.size + 1 := by omega
            have : w.heap.size + 1 ≠ w2.heap.size := by omega
            have : w2.heap.size ≠ w.heap.size + 1 + 1 := by omega
            have : w.heap.size + 1 + 1 ≠ w2.heap.size := by omega
            go_region_law (refine step_append_run rfl (.tmp 55) (.tmp 57) 22 rfl (.slice A l.length l.length) (.slice (some ⟨w2.heap.size + 1, 0, none⟩) 1 1) (.slice (some x) (l.length + 1) cap) (by simp [Act.eval, Act.put]) (by simp [Act.eval, Act.put]) HRUN.out ?_)
            all_goals
              clear d02
              go_wp2
              go_region
              all_goals
                go_wp2
                refine bodyPost_ret (v := .tuple #[.agg #[.string a0, .int .i64 (a1 + 1), .slice (some x) (l.length + 1) cap], .agg #[.int .i64 a1, .int .u32 id, .bool false], .int .i64 0]) ?_ rfl ?_
                · simp [results, Try.results12, go_sem, e10, e11, e12, e20, e21, e22]
                · have hl : (l ++ [(⟨a1, id, false⟩ : V30)]).length = l.length + 1 := by simp
                  have hx : w2.heap.size + 1 < x.block := by have := HX.out; simp at this; omega
                  refine ⟨some x, cap, ?_, ?_, ?_, ?_⟩
                  · rw [← HRES.out, HE.out]
                    show _ = Ending.returned (.tuple #[.agg #[.string a0, .int .i64 (a1 + 1), .slice (some x) (l ++ [(⟨a1, id, false⟩ : V30)]).length cap], .agg #[.int .i64 a1, .int .u32 id, .bool false], .int .i64 0])
                    rw [hl]
                  · rw [← HRES.out, HE.out]
                    show Kd.C k30 _ (some x) (l ++ [(⟨a1, id, false⟩ : V30)]).length (l ++ [(⟨a1, id, false⟩ : V30)])
                    rw [hl]
                    repeat (first | (with_reducible exact HC3.out) | (with_reducible refine Kd.C_drew ?_) | (with_reducible refine c_set ?_ (fun ad h hp => by cases h; omega) _))
                  · rw [← HRES.out, HE.out]
                    show (l ++ [(⟨a1, id, false⟩ : V30)]).length ≤ cap
                    rw [hl]; exact HCAP.out
                  · exact ⟨(by repeat (first | (with_reducible first | exact HB3.out | apply below_alloc | apply pw_below_drewN | apply below_drew1 | refine below_set ?_ (by omega)))), fun x' hx' _ => by cases hx'; omega⟩
end Go.Proofs.Ytkcjekboakoejaa.Print
