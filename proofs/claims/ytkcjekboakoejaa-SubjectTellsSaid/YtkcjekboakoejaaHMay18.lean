/- Contract of subject.May: which subjects may be. -/
import Derived.Test.YtkcjekboakoejaaHFind
import Derived.Test.YtkcjekboakoejaaHName18
import Derived.Test.YtkcjekboakoejaaHMaps
import Derived.Deep.DeepCutAuto
namespace Go.Proofs.Ytkcjekboakoejaa.Print
open Go.RowKit Go.Shelf Go.Maps Go.Proofs.YtkcjekboakoejaaW.PrintWords Go.Proofs.YtkcjekboakoejaaW.PrintLast
set_option linter.unusedVariables false
set_option linter.unusedSimpArgs false

/-- What one version does to 'is', 'last', and the ids that were met. -/
def mayStep (next : Int) (st : Bool × Int × List Int) (v : V30) : Bool × Int × List Int :=
  (st.1 && (decide (st.2.1 < v.f0) && (decide (v.f0 < next) && (!(v.f1 == 0) && (v.f2 || !st.2.2.contains v.f1)))), v.f0, if v.f2 = true then st.2.2 else v.f1 :: st.2.2)
def mayAt (next : Int) (is0 : Bool) (l : List V30) (k : Nat) : Bool × Int × List Int := (l.take k).foldl (mayStep next) (is0, 0, [])
theorem mayAt_succ (next : Int) (is0 : Bool) (l : List V30) (k : Nat) (hk : k < l.length) : mayAt next is0 l (k + 1) = mayStep next (mayAt next is0 l k) (l.getD k z30) := by
  unfold mayAt
  rw [List.take_succ_eq_append_getElem hk, List.foldl_append]
  simp [List.getD_eq_getElem?_getD, List.getElem?_eq_getElem hk]
def headB (a0 : ByteArray) (a1 : Int) (n : Nat) : Bool := nameB a0 && (decide (1 ≤ a1) && (decide (a1 ≤ 1073741824) && decide (n ≤ 64)))
def mayB (a0 : ByteArray) (a1 : Int) (l : List V30) : Bool := (mayAt a1 (headB a0 a1 l.length) l l.length).1

def mayE (b : Bool) : Int := if b = true then 0 else 8

/-- Ids are of their kind. -/
def idsOk (l : List V30) : Bool := l.all fun v => decide (0 ≤ v.f1) && decide (v.f1 < 4294967296)

/-- The map of ids: block b reads as 'is it one of ids?'. -/
def SetIs (w : World) (b n : Nat) (ids : List Int) : Prop :=
  ∃ D : DataW Unit, w.ownsMap Try.prog 25 (plainElem Try.prog 4) b n D ∧ IsMap D ∧ ∀ id : Int, (Lit.int .u32 id).wf = true → D.atKey (.int .u32 id) (.lit (.bool false)) = .lit (.bool (ids.contains id))

theorem SetIs.new (w : World) : SetIs (w.alloc (.map #[] 0)) w.heap.size 0 [] := ⟨.map [], World.ownsMap_made w _ _ _, isMap_empty, fun id _ => rfl⟩
theorem SetIs.grown {w w1 : World} {b n : Nat} {ids : List Int} {row : Option Nat} (h : SetIs w b n ids) (hg : w.grownBy w1 row) (hne : some b ≠ row) : SetIs w1 b n ids := by
  obtain ⟨D, h1, h2, h3⟩ := h
  exact ⟨D, h1.kept hg hne, h2, h3⟩
theorem SetIs.alloc {w : World} {b n : Nat} {ids : List Int} (h : SetIs w b n ids) (o : Obj) : SetIs (w.alloc o) b n ids := h.grown (World.grownBy_alloc w o none) (by simp)
theorem SetIs.mono {w : World} {b n m : Nat} {ids : List Int} (h : SetIs w b n ids) (hm : n ≤ m) : SetIs w b m ids := by
  obtain ⟨D, h1, h2, h3⟩ := h
  exact ⟨D, h1.mono hm, h2, h3⟩
set_option maxRecDepth 100000 in
theorem SetIs.look {w : World} {b n : Nat} {ids : List Int} (h : SetIs w b n ids) {id : Int} (hid : (Lit.int .u32 id).wf = true) :
    (Instr.lookup 72 (.map (some b)) (.int .u32 id) false).run Try.prog w = .ok (.bool (ids.contains id)) w := by
  obtain ⟨D, h1, h2, h3⟩ := h
  obtain ⟨c, hrun, hat⟩ := lookup_bool' h1 (int_keyed Try.underlying25) Try.underlying72 Try.underlying4 (Try.zeroValue4 _) (keyOf_int_mk Try.underlying25 hid)
  rw [h3 id hid] at hat
  injection hat with hat
  injection hat with hat
  rw [hrun, hat]
theorem SetIs.put {w1 : World} {b n : Nat} {ids : List Int} {id : Int} (D : DataW Unit) (h2 : IsMap D) (h3 : ∀ id : Int, (Lit.int .u32 id).wf = true → D.atKey (.int .u32 id) (.lit (.bool false)) = .lit (.bool (ids.contains id)))
    (h1 : w1.ownsMap Try.prog 25 (plainElem Try.prog 4) b n (D.put (.int .u32 id) (.lit (.bool true)))) : SetIs w1 b n (id :: ids) := by
  refine ⟨_, h1, h2.put _ _, fun x hx => ?_⟩
  by_cases e : x = id
  · subst e
    rw [atKey_put_same h2 (show WideAt.IsKeyLit (.int .u32 x) from trivial)]
    simp
  · rw [atKey_put_other (by intro he; injection he with _ he; exact e he), h3 x hx]
    simp [e]

set_option maxHeartbeats 4000000 in
theorem may18_any (a0 : ByteArray) (a1 : Int) (A : Option Addr) (c : Nat) (l : List V30) (w : World) (hr : Kd.C k30 w A l.length l) (hc : l.length ≤ c) (hbig : l.length ≤ 1048576) (hids : idsOk l = true) :
    Calls Try.prog 28 #[.agg #[.string a0, .int .i64 a1, .slice A l.length c]] w fun e w' => e = .returned (.int .i64 (mayE (mayB a0 a1 l))) ∧ Below w.heap.size w w' := by
  have HR := Aside0.mk hr
  have HI := Aside0.mk hids
  have hN := fun W => name18_any a0 W
  have hh : headB a0 a1 l.length = (nameB a0 && (decide (1 ≤ a1) && (decide (a1 ≤ 1073741824) && decide (l.length ≤ 64)))) := rfl
  have HH := Aside0.mk hh
  clear hh
  clear hr hids
  obtain ⟨n, hn⟩ : ∃ n, n = l.length := ⟨_, rfl⟩
  have HL := Aside0.mk hn
  rw [← hn] at hc hbig HH ⊢
  clear hn
  have hmm := @run_makeMap Try.prog
  go_enter Try.func28, Try.ntmps28
  go_upto_region 1 with fail
  go_cut [1, 3] (fun s1 s3 wx => s1 = .pointer (some ⟨w.heap.size, 0, none⟩) ∧ s3 = .bool (headB a0 a1 n) ∧ Aside0 (Below w.heap.size w wx) ∧ Aside0 (wx.heap[w.heap.size]? = some (.cells #[.string a0, .int .i64 a1, .slice A n c] 24 (0, 0))))
  case first =>
    go_wp2_with fail
    refine (hN _).mono ?_
    rintro e w1 ⟨rfl, hb⟩
    have hb0 := ((Below.refl _ w).alloc (Nat.le_refl _) (.cells #[.string a0, .int .i64 a1, .slice A n c] 24)).trans (hb.mono (by simp))
    have hblk := blk_below (blk_new w (.cells #[.string a0, .int .i64 a1, .slice A n c] 24)) hb
    obtain ⟨z0, z1, z2⟩ : w1.cell? ⟨w.heap.size, 0, none⟩ = some (.string a0) ∧ w1.cell? ⟨w.heap.size, 1, none⟩ = some (.int .i64 a1) ∧ w1.cell? ⟨w.heap.size, 2, none⟩ = some (.slice A n c) := ⟨blk_cell hblk 0, blk_cell hblk 1, blk_cell hblk 2⟩
    have HBLK := Aside0.mk hblk
    have HB0 := Aside0.mk hb0
    clear hb hb0 hblk hN hmm
    generalize nameB a0 = q at HH ⊢
    cases q with
    | false =>
      go_wp2
      go_meet
      exact ⟨rfl, by rw [HH.out]; simp, HB0, HBLK⟩
    | true =>
      by_cases h1 : 1 ≤ a1
      · by_cases h2 : a1 ≤ 1073741824
        · by_cases h3 : n ≤ 64
          · go_wp2
            go_meet
            exact ⟨rfl, by rw [HH.out]; (first | (simp [h1, h2, h3]; done) | (simp [h1, h2, h3]; omega) | (simp [h1, h2, h3]; intros; omega)), HB0, HBLK⟩
          · go_wp2
            go_meet
            exact ⟨rfl, by rw [HH.out]; (first | (simp [h1, h2, h3]; done) | (simp [h1, h2, h3]; omega) | (simp [h1, h2, h3]; intros; omega)), HB0, HBLK⟩
        · go_wp2
          go_meet
          exact ⟨rfl, by rw [HH.out]; (first | (simp [h1, h2]; done) | (simp [h1, h2]; omega) | (simp [h1, h2]; intros; omega)), HB0, HBLK⟩
      · go_wp2
        go_meet
        exact ⟨rfl, by rw [HH.out]; (first | (simp [h1]; done) | (simp [h1]; omega) | (simp [h1]; intros; omega)), HB0, HBLK⟩
  case rest =>
    obtain ⟨rfl, rfl, HB1, HBLK⟩ := hcut
    clear HH
    have hq : mayAt a1 (headB a0 a1 n) l 0 = (headB a0 a1 n, 0, []) := rfl
    obtain ⟨is0, his⟩ : ∃ b, headB a0 a1 n = b := ⟨_, rfl⟩
    have hres : mayB a0 a1 l = (mayAt a1 is0 l n).1 := by rw [← his, HL.out]; rfl
    have HRES := Aside0.mk hres
    rw [his] at hq ⊢
    clear his hres hq
    obtain ⟨z1, z2⟩ : wc.cell? ⟨w.heap.size, 1, none⟩ = some (.int .i64 a1) ∧ wc.cell? ⟨w.heap.size, 2, none⟩ = some (.slice A n c) := ⟨blk_cell HBLK.out 1, blk_cell HBLK.out 2⟩
    have hlt := blk_lt HBLK.out
    have hne : w.heap.size ≠ wc.heap.size := by omega
    go_wp2
    clear z1 z2 hmm
    go_loopg [3, 5, 31] n (fun gg s3 s5 s31 wr => ∃ kk : Nat, kk ≤ n ∧ n - kk ≤ gg ∧ s31 = .int .i64 kk ∧ s3 = .bool (mayAt a1 is0 l kk).1 ∧ s5 = .int .i64 (mayAt a1 is0 l kk).2.1 ∧ Aside0 (SetIs wr wc.heap.size kk (mayAt a1 is0 l kk).2.2) ∧ Aside0 (wr.heap[w.heap.size]? = some (.cells #[.string a0, .int .i64 a1, .slice A n c] 24 (0, 0))) ∧ Aside0 (Below w.heap.size w wr))
    case atStart => exact ⟨0, Nat.zero_le _, by omega, rfl, rfl, rfl, Aside0.mk (SetIs.new wc), Aside0.mk (blk_alloc HBLK.out _), Aside0.mk (below_alloc HB1.out _)⟩
    case round =>
      obtain ⟨kk, hkk, hg, rfl, rfl, rfl, HS, HBK, HB⟩ := hrel
      by_cases hlk : kk < n
      · have hltz : (kk : Int) < (n : Int) := by omega
        obtain ⟨ad, rfl, c0, c1, c2⟩ := at_T30 (Kd.C_below HR.out HB.out) (kk : Int) (by omega) (by have := HL.out; omega)
        have hs := mayAt_succ a1 is0 l kk (by have := HL.out; omega)
        have hz : rd_T30 l kk = l.getD kk z30 := by simp [rd_T30]
        have hwf : 0 ≤ (l.getD kk z30).f1 ∧ (l.getD kk z30).f1 < 4294967296 := by
          have h1 := HI.out
          unfold idsOk at h1
          rw [List.all_eq_true] at h1
          have h2 := h1 (l[kk]'(by have := HL.out; omega)) (List.getElem_mem _)
          simp [List.getD_eq_getElem?_getD, List.getElem?_eq_getElem (show kk < l.length by have := HL.out; omega)]
          simpa using h2
        rw [hz] at c0 c1 c2
        clear hz
        generalize l.getD kk z30 = y at hwf hs c0 c1 c2
        simp only [Int.toNat_natCast] at c0 c1 c2
        obtain ⟨y0, y1, y2⟩ := y
        have hkey : (Lit.int .u32 y1).wf = true := WalkArith.wf_u32 ⟨hwf.1, by have := hwf.2; simp at this; omega⟩
        have hlook := fun o => (HS.out.alloc o).look hkey
        obtain ⟨D, hown, hD1, hD2⟩ := HS.out
        generalize mayAt a1 is0 l kk = st at hs hlook hD2 HS ⊢
        obtain ⟨b0, la, ids⟩ := st
        have HSUCC := Aside0.mk hs
        clear hs
        have HD2 := Aside0.mk hD2
        clear hD2
        obtain ⟨m, hm⟩ : ∃ m, ids.contains y1 = m := ⟨_, rfl⟩
        simp only at hlook
        rw [hm] at hlook
        have HM := Aside0.mk hm
        clear hm
        have z1 := blk_cell HBK.out 1
        simp at z1
        have hlt2 := blk_lt HBK.out
        have hne2 : w.heap.size ≠ wr.heap.size := by omega
        cases y2 with
        | true =>
          cases b0 with
          | false =>
            have HF := Aside0.mk (show (mayStep a1 (false, la, ids) ⟨y0, y1, true⟩).1 = false from by simp [mayStep, Bool.false_and])
            go_wp2
            go_roundg (n - (kk + 1))
            case measure => omega
            case rel => exact ⟨kk + 1, by omega, by omega, by go_num, by rw [HSUCC.out, HF.out], by rw [HSUCC.out]; simp [mayStep], Aside0.mk (by rw [HSUCC.out]; exact (HS.out.alloc _).mono (by omega)), Aside0.mk (blk_alloc HBK.out _), Aside0.mk (below_alloc HB.out _)⟩
          | true =>
            by_cases h1 : la < y0
            · by_cases h2 : y0 < a1
              · by_cases h3 : y1 = 0
                · have h3b : (y1 == 0) = true := by simp [h3]
                  have h3c : (y1 != 0) = false := by simp [h3]
                  clear h3
                  have HF := Aside0.mk (show (mayStep a1 (true, la, ids) ⟨y0, y1, true⟩).1 = false from by simp [mayStep, h3b])
                  go_wp2
                  go_roundg (n - (kk + 1))
                  case measure => omega
                  case rel => exact ⟨kk + 1, by omega, by omega, by go_num, by rw [HSUCC.out, HF.out], by rw [HSUCC.out]; simp [mayStep], Aside0.mk (by rw [HSUCC.out]; exact (HS.out.alloc _).mono (by omega)), Aside0.mk (blk_alloc HBK.out _), Aside0.mk (below_alloc HB.out _)⟩
                · have h3b : (y1 == 0) = false := by simp [h3]
                  have h3c : (y1 != 0) = true := by simp [h3]
                  clear h3
                  have HF := Aside0.mk (show (mayStep a1 (true, la, ids) ⟨y0, y1, true⟩).1 = true from by simp [mayStep, h1, h2, h3b])
                  go_wp2
                  go_roundg (n - (kk + 1))
                  case measure => omega
                  case rel => exact ⟨kk + 1, by omega, by omega, by go_num, by rw [HSUCC.out, HF.out], by rw [HSUCC.out]; simp [mayStep], Aside0.mk (by rw [HSUCC.out]; exact (HS.out.alloc _).mono (by omega)), Aside0.mk (blk_alloc HBK.out _), Aside0.mk (below_alloc HB.out _)⟩
              ·
                have HF := Aside0.mk (show (mayStep a1 (true, la, ids) ⟨y0, y1, true⟩).1 = false from by simp [mayStep, h2])
                go_wp2
                go_roundg (n - (kk + 1))
                case measure => omega
                case rel => exact ⟨kk + 1, by omega, by omega, by go_num, by rw [HSUCC.out, HF.out], by rw [HSUCC.out]; simp [mayStep], Aside0.mk (by rw [HSUCC.out]; exact (HS.out.alloc _).mono (by omega)), Aside0.mk (blk_alloc HBK.out _), Aside0.mk (below_alloc HB.out _)⟩
            ·
              have HF := Aside0.mk (show (mayStep a1 (true, la, ids) ⟨y0, y1, true⟩).1 = false from by simp [mayStep, h1])
              go_wp2
              go_roundg (n - (kk + 1))
              case measure => omega
              case rel => exact ⟨kk + 1, by omega, by omega, by go_num, by rw [HSUCC.out, HF.out], by rw [HSUCC.out]; simp [mayStep], Aside0.mk (by rw [HSUCC.out]; exact (HS.out.alloc _).mono (by omega)), Aside0.mk (blk_alloc HBK.out _), Aside0.mk (below_alloc HB.out _)⟩
        | false =>
          cases b0 with
          | false =>
            have HF := Aside0.mk (show (mayStep a1 (false, la, ids) ⟨y0, y1, false⟩).1 = false from by simp [mayStep, Bool.false_and])
            go_wp2_with (at_mapUpdate; refine wpList_mapUpdate_own _ rfl _ _ _ 72 rfl 25 4 (int_keyed Try.underlying25) Try.underlying72 (plainElem Try.prog 4) wc.heap.size kk D rfl (hown.alloc _) (by unfold maxLen; omega) _ _ (.int .u32 y1) rfl rfl (keyOf_int_mk Try.underlying25 hkey) _ [] (plainElem_bool Try.underlying4 true) ?_; intro w1 hown1 hgrow1)
            have HP := Aside0.mk (SetIs.put D hD1 HD2.out hown1)
            have HG := Aside0.mk hgrow1
            clear hown1 hgrow1
            go_wp2
            go_roundg (n - (kk + 1))
            case measure => omega
            case rel => exact ⟨kk + 1, by omega, by omega, by go_num, by rw [HSUCC.out, HF.out], by rw [HSUCC.out]; simp [mayStep], Aside0.mk (by rw [HSUCC.out]; exact HP.out), Aside0.mk (blk_grown (blk_alloc HBK.out _) HG.out (fun e => hne (Option.some.inj e))), Aside0.mk ((below_alloc HB.out _).grown HG.out (by have := HB.out.size; simp; omega) (fun j hj => by cases hj; omega))⟩
          | true =>
            by_cases h1 : la < y0
            · by_cases h2 : y0 < a1
              · by_cases h3 : y1 = 0
                · have h3b : (y1 == 0) = true := by simp [h3]
                  have h3c : (y1 != 0) = false := by simp [h3]
                  clear h3
                  have HF := Aside0.mk (show (mayStep a1 (true, la, ids) ⟨y0, y1, false⟩).1 = false from by simp [mayStep, h3b])
                  go_wp2_with (at_mapUpdate; refine wpList_mapUpdate_own _ rfl _ _ _ 72 rfl 25 4 (int_keyed Try.underlying25) Try.underlying72 (plainElem Try.prog 4) wc.heap.size kk D rfl (hown.alloc _) (by unfold maxLen; omega) _ _ (.int .u32 y1) rfl rfl (keyOf_int_mk Try.underlying25 hkey) _ [] (plainElem_bool Try.underlying4 true) ?_; intro w1 hown1 hgrow1)
                  have HP := Aside0.mk (SetIs.put D hD1 HD2.out hown1)
                  have HG := Aside0.mk hgrow1
                  clear hown1 hgrow1
                  go_wp2
                  go_roundg (n - (kk + 1))
                  case measure => omega
                  case rel => exact ⟨kk + 1, by omega, by omega, by go_num, by rw [HSUCC.out, HF.out], by rw [HSUCC.out]; simp [mayStep], Aside0.mk (by rw [HSUCC.out]; exact HP.out), Aside0.mk (blk_grown (blk_alloc HBK.out _) HG.out (fun e => hne (Option.some.inj e))), Aside0.mk ((below_alloc HB.out _).grown HG.out (by have := HB.out.size; simp; omega) (fun j hj => by cases hj; omega))⟩
                · have h3b : (y1 == 0) = false := by simp [h3]
                  have h3c : (y1 != 0) = true := by simp [h3]
                  clear h3
                  cases m
                  · have HF := Aside0.mk (show (mayStep a1 (true, la, ids) ⟨y0, y1, false⟩).1 = true from by
                      show (true && (decide (la < y0) && (decide (y0 < a1) && (!(y1 == 0) && (false || !ids.contains y1))))) = _; rw [HM.out, h3b, decide_eq_true h1, decide_eq_true h2]; rfl)
                    go_wp2_with (at_mapUpdate; refine wpList_mapUpdate_own _ rfl _ _ _ 72 rfl 25 4 (int_keyed Try.underlying25) Try.underlying72 (plainElem Try.prog 4) wc.heap.size kk D rfl (hown.alloc _) (by unfold maxLen; omega) _ _ (.int .u32 y1) rfl rfl (keyOf_int_mk Try.underlying25 hkey) _ [] (plainElem_bool Try.underlying4 true) ?_; intro w1 hown1 hgrow1)
                    have HP := Aside0.mk (SetIs.put D hD1 HD2.out hown1)
                    have HG := Aside0.mk hgrow1
                    clear hown1 hgrow1
                    go_wp2
                    go_roundg (n - (kk + 1))
                    case measure => omega
                    case rel => exact ⟨kk + 1, by omega, by omega, by go_num, by rw [HSUCC.out, HF.out], by rw [HSUCC.out]; simp [mayStep], Aside0.mk (by rw [HSUCC.out]; exact HP.out), Aside0.mk (blk_grown (blk_alloc HBK.out _) HG.out (fun e => hne (Option.some.inj e))), Aside0.mk ((below_alloc HB.out _).grown HG.out (by have := HB.out.size; simp; omega) (fun j hj => by cases hj; omega))⟩
                  · have HF := Aside0.mk (show (mayStep a1 (true, la, ids) ⟨y0, y1, false⟩).1 = false from by
                      show (true && (decide (la < y0) && (decide (y0 < a1) && (!(y1 == 0) && (false || !ids.contains y1))))) = _; rw [HM.out, h3b, decide_eq_true h1, decide_eq_true h2]; rfl)
                    go_wp2_with (at_mapUpdate; refine wpList_mapUpdate_own _ rfl _ _ _ 72 rfl 25 4 (int_keyed Try.underlying25) Try.underlying72 (plainElem Try.prog 4) wc.heap.size kk D rfl (hown.alloc _) (by unfold maxLen; omega) _ _ (.int .u32 y1) rfl rfl (keyOf_int_mk Try.underlying25 hkey) _ [] (plainElem_bool Try.underlying4 true) ?_; intro w1 hown1 hgrow1)
                    have HP := Aside0.mk (SetIs.put D hD1 HD2.out hown1)
                    have HG := Aside0.mk hgrow1
                    clear hown1 hgrow1
                    go_wp2
                    go_roundg (n - (kk + 1))
                    case measure => omega
                    case rel => exact ⟨kk + 1, by omega, by omega, by go_num, by rw [HSUCC.out, HF.out], by rw [HSUCC.out]; simp [mayStep], Aside0.mk (by rw [HSUCC.out]; exact HP.out), Aside0.mk (blk_grown (blk_alloc HBK.out _) HG.out (fun e => hne (Option.some.inj e))), Aside0.mk ((below_alloc HB.out _).grown HG.out (by have := HB.out.size; simp; omega) (fun j hj => by cases hj; omega))⟩
              ·
                have HF := Aside0.mk (show (mayStep a1 (true, la, ids) ⟨y0, y1, false⟩).1 = false from by simp [mayStep, h2])
                go_wp2_with (at_mapUpdate; refine wpList_mapUpdate_own _ rfl _ _ _ 72 rfl 25 4 (int_keyed Try.underlying25) Try.underlying72 (plainElem Try.prog 4) wc.heap.size kk D rfl (hown.alloc _) (by unfold maxLen; omega) _ _ (.int .u32 y1) rfl rfl (keyOf_int_mk Try.underlying25 hkey) _ [] (plainElem_bool Try.underlying4 true) ?_; intro w1 hown1 hgrow1)
                have HP := Aside0.mk (SetIs.put D hD1 HD2.out hown1)
                have HG := Aside0.mk hgrow1
                clear hown1 hgrow1
                go_wp2
                go_roundg (n - (kk + 1))
                case measure => omega
                case rel => exact ⟨kk + 1, by omega, by omega, by go_num, by rw [HSUCC.out, HF.out], by rw [HSUCC.out]; simp [mayStep], Aside0.mk (by rw [HSUCC.out]; exact HP.out), Aside0.mk (blk_grown (blk_alloc HBK.out _) HG.out (fun e => hne (Option.some.inj e))), Aside0.mk ((below_alloc HB.out _).grown HG.out (by have := HB.out.size; simp; omega) (fun j hj => by cases hj; omega))⟩
            ·
              have HF := Aside0.mk (show (mayStep a1 (true, la, ids) ⟨y0, y1, false⟩).1 = false from by simp [mayStep, h1])
              go_wp2_with (at_mapUpdate; refine wpList_mapUpdate_own _ rfl _ _ _ 72 rfl 25 4 (int_keyed Try.underlying25) Try.underlying72 (plainElem Try.prog 4) wc.heap.size kk D rfl (hown.alloc _) (by unfold maxLen; omega) _ _ (.int .u32 y1) rfl rfl (keyOf_int_mk Try.underlying25 hkey) _ [] (plainElem_bool Try.underlying4 true) ?_; intro w1 hown1 hgrow1)
              have HP := Aside0.mk (SetIs.put D hD1 HD2.out hown1)
              have HG := Aside0.mk hgrow1
              clear hown1 hgrow1
              go_wp2
              go_roundg (n - (kk + 1))
              case measure => omega
              case rel => exact ⟨kk + 1, by omega, by omega, by go_num, by rw [HSUCC.out, HF.out], by rw [HSUCC.out]; simp [mayStep], Aside0.mk (by rw [HSUCC.out]; exact HP.out), Aside0.mk (blk_grown (blk_alloc HBK.out _) HG.out (fun e => hne (Option.some.inj e))), Aside0.mk ((below_alloc HB.out _).grown HG.out (by have := HB.out.size; simp; omega) (fun j hj => by cases hj; omega))⟩
      · have hltz : ¬ (kk : Int) < (n : Int) := by omega
        have : kk = n := by omega
        subst this
        have hres := HRES.out
        clear HRES
        generalize (mayAt a1 is0 l kk).1 = r at hres ⊢
        have HRES := Aside0.mk hres
        clear hres
        cases r with
        | true =>
          go_wp2
          go_ret
          exact ⟨by rw [HRES.out]; rfl, HB.out⟩
        | false =>
          go_wp2
          go_ret
          exact ⟨by rw [HRES.out]; rfl, HB.out⟩
end Go.Proofs.Ytkcjekboakoejaa.Print
