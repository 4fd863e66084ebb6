-- Written by wip/tools/xprint.py of this session's repo (the kit's print, run with external functions). Lean checks it.
import Derived.Test.YtddjhmelniphgaaGreatDoorHAm
import Derived.Test.YtddjhmelniphgaaGreatDoorPrint0
import Derived.Test.YtddjhmelniphgaaGreatDoorPrint2
import Derived.Test.YtddjhmelniphgaaGreatDoorPrint3
import Derived.Test.YtddjhmelniphgaaGreatDoorHAlive29
import Derived.Test.YtddjhmelniphgaaGreatDoorHTAsk
import Derived.Test.YtddjhmelniphgaaGreatDoorHTReq
import Derived.Test.YtddjhmelniphgaaGreatDoorHTTold
namespace Go.Proofs.YtddjhmelniphgaaGreatDoor.Print
open Go.RowKit Go.Proofs.YtddjhmelniphgaaGreatDoorW.PrintWords Go.Proofs.YtddjhmelniphgaaGreatDoorW.PrintLast Go.Proofs.YtddjhmelniphgaaGreatDoorW.PrintMore
attribute [local go_sem] max2_int min2_int max_two min_two max_three min_three max_four min_four   -- for this text's walks alone
set_option linter.unusedVariables false
set_option linter.unusedSimpArgs false

/-! ### codicillaw29_HttpBack: function 7 -/
mutual
def codicillaw29_HttpBack.j0 : Nat → Int → ByteArray → Bool → ByteArray → ByteArray → List (S59) → ByteArray → Int → List (S59) → ByteArray → Option (Bool)
 | 0, _, _, _, _, _, _, _, _, _, _ => none
 | k + 1, x2, x3, x49, x162000, x162001, x162002, x162003, x163000, x163001, x163002 => if x49 = true then ((codicillaw29_alive.f k).bind fun t165 => (some t165)) else ((http_Ask.f x162000 x162001 x162002 x162003).bind fun bt166 => (if bt166.2 = 0 then (codicillaw29_HttpBack.j1 k x2 x3 bt166.1 (bt166.1.toList != ([] : List UInt8)) x162000 x162001 x162002 x162003 x163000 x163001 x163002) else (codicillaw29_HttpBack.j1 k x2 x3 bt166.1 false x162000 x162001 x162002 x162003 x163000 x163001 x163002)))
def codicillaw29_HttpBack.j1 : Nat → Int → ByteArray → ByteArray → Bool → ByteArray → ByteArray → List (S59) → ByteArray → Int → List (S59) → ByteArray → Option (Bool)
 | 0, _, _, _, _, _, _, _, _, _, _, _ => none
 | k + 1, x2, x3, x9, x61, x162000, x162001, x162002, x162003, x163000, x163001, x163002 => if x61 = true then (if x9.size + x3.size ≤ 9223372036854775807 then ((http_Read.f (x9 ++ x3)).bind fun bt168 => (if (x9.size : Int) = 0 then (none) else (if 0 ≤ (Int.tmod (wrap64 (x2)) (x9.size : Int)) then (if (Int.tmod (wrap64 (x2)) (x9.size : Int)) ≤ (x9.size : Int) then ((http_Read.f (x9.extract 0 ((Int.tmod (wrap64 (x2)) (x9.size : Int)) : Int).toNat)).bind fun bt177 => ((codicillaw29_Requests.f k bt168.1 bt168.2.1 bt168.2.2.1 bt168.2.2.2.1 x162000 x162001 x162002 x162003).bind fun t186 => (if t186 = true then (if bt168.2.2.2.2.1 = (x9.size : Int) then (if bt168.2.2.2.2.2 = 0 then (if bt177.2.2.2.2.1 = 0 then (if bt177.2.2.2.2.2 = 290 then (codicillaw29_HttpBack.j2 k x2 x3 x163000 x163001 x163002) else (some false)) else (some false)) else (some false)) else (some false)) else (some false)))) else (none)) else (none)))) else (none)) else (codicillaw29_HttpBack.j2 k x2 x3 x163000 x163001 x163002)
def codicillaw29_HttpBack.j2 : Nat → Int → ByteArray → Int → List (S59) → ByteArray → Option (Bool)
 | 0, _, _, _, _, _ => none
 | k + 1, x2, x3, x163000, x163001, x163002 => (http_Write.f x163000 x163001 x163002).bind fun bt187 => (if bt187.2 = 0 then (codicillaw29_HttpBack.j3 k x2 x3 bt187.1 (bt187.1.toList != ([] : List UInt8)) x163000 x163001 x163002) else (codicillaw29_HttpBack.j3 k x2 x3 bt187.1 false x163000 x163001 x163002))
def codicillaw29_HttpBack.j3 : Nat → Int → ByteArray → ByteArray → Bool → Int → List (S59) → ByteArray → Option (Bool)
 | 0, _, _, _, _, _, _, _ => none
 | k + 1, x2, x3, x9, x114, x163000, x163001, x163002 => if x114 = true then (if x9.size + x3.size ≤ 9223372036854775807 then ((http_Told.f (x9 ++ x3)).bind fun bt189 => (if (x9.size : Int) = 0 then (none) else (if 0 ≤ (Int.tmod (wrap64 (x2)) (x9.size : Int)) then (if (Int.tmod (wrap64 (x2)) (x9.size : Int)) ≤ (x9.size : Int) then ((http_Told.f (x9.extract 0 ((Int.tmod (wrap64 (x2)) (x9.size : Int)) : Int).toNat)).bind fun bt197 => ((codicillaw29_Responses.f k bt189.1 bt189.2.1 bt189.2.2.1 x163000 x163001 x163002).bind fun t205 => (if t205 = true then (if bt189.2.2.2.1 = (x9.size : Int) then (if bt189.2.2.2.2 = 0 then (if bt197.2.2.2.1 = 0 then (if bt197.2.2.2.2 = 290 then ((codicillaw29_alive.f k).bind fun t206 => (some t206)) else (some false)) else (some false)) else (some false)) else (some false)) else (some false)))) else (none)) else (none)))) else (none)) else ((codicillaw29_alive.f k).bind fun t207 => (some t207))
end
def codicillaw29_HttpBack.f (k : Nat) (a0_0 : ByteArray) (a0_1 : ByteArray) (l0_2 : List (S59)) (a0_3 : ByteArray) (a1_0 : Int) (l1_1 : List (S59)) (a1_2 : ByteArray) (a2 : Int) (a3 : ByteArray) : Option (Bool) := (codicillaw29_large.f k l0_2 a0_3).bind fun t163 => (if t163 = true then (codicillaw29_HttpBack.j0 k a2 a3 true a0_0 a0_1 l0_2 a0_3 a1_0 l1_1 a1_2) else ((codicillaw29_large.f k l1_1 a1_2).bind fun t164 => (if t164 = true then (codicillaw29_HttpBack.j0 k a2 a3 true a0_0 a0_1 l0_2 a0_3 a1_0 l1_1 a1_2) else (if (wrap64 ((a0_0.size : Int) + (a0_1.size : Int))) > 4096 then (codicillaw29_HttpBack.j0 k a2 a3 true a0_0 a0_1 l0_2 a0_3 a1_0 l1_1 a1_2) else (codicillaw29_HttpBack.j0 k a2 a3 (decide ((a3.size : Int) > 4096)) a0_0 a0_1 l0_2 a0_3 a1_0 l1_1 a1_2)))))
theorem codicillaw29_HttpBack.mono_l : ∀ k, (∀ y0 y1 y2 y3 y4 y5 y6 y7 y8 y9, LeO (codicillaw29_HttpBack.j0 k y0 y1 y2 y3 y4 y5 y6 y7 y8 y9) (codicillaw29_HttpBack.j0 (k + 1) y0 y1 y2 y3 y4 y5 y6 y7 y8 y9)) ∧ (∀ y0 y1 y2 y3 y4 y5 y6 y7 y8 y9 y10, LeO (codicillaw29_HttpBack.j1 k y0 y1 y2 y3 y4 y5 y6 y7 y8 y9 y10) (codicillaw29_HttpBack.j1 (k + 1) y0 y1 y2 y3 y4 y5 y6 y7 y8 y9 y10)) ∧ (∀ y0 y1 y2 y3 y4, LeO (codicillaw29_HttpBack.j2 k y0 y1 y2 y3 y4) (codicillaw29_HttpBack.j2 (k + 1) y0 y1 y2 y3 y4)) ∧ (∀ y0 y1 y2 y3 y4 y5 y6, LeO (codicillaw29_HttpBack.j3 k y0 y1 y2 y3 y4 y5 y6) (codicillaw29_HttpBack.j3 (k + 1) y0 y1 y2 y3 y4 y5 y6))
 | 0 => ⟨fun _ _ _ _ _ _ _ _ _ _ r h => by simp [codicillaw29_HttpBack.j0] at h, fun _ _ _ _ _ _ _ _ _ _ _ r h => by simp [codicillaw29_HttpBack.j1] at h, fun _ _ _ _ _ r h => by simp [codicillaw29_HttpBack.j2] at h, fun _ _ _ _ _ _ _ r h => by simp [codicillaw29_HttpBack.j3] at h⟩
 | k + 1 => by
  obtain ⟨ih0, ih1, ih2, ih3⟩ := codicillaw29_HttpBack.mono_l k
  refine ⟨?_, ?_, ?_, ?_⟩
  ·intro y0 y1 y2 y3 y4 y5 y6 y7 y8 y9
   unfold codicillaw29_HttpBack.j0
   repeat' first
   | (with_reducible exact ih0 _ _ _ _ _ _ _ _ _ _)
   | (with_reducible exact ih1 _ _ _ _ _ _ _ _ _ _ _)
   | (with_reducible exact ih2 _ _ _ _ _)
   | (with_reducible exact ih3 _ _ _ _ _ _ _)
   | (with_reducible exact codicillaw29_Requests.mono _ _ _ _ _ _ _ _ _)
   | (with_reducible exact codicillaw29_Responses.mono _ _ _ _ _ _ _)
   | (with_reducible exact codicillaw29_alive.mono _)
   | (with_reducible exact codicillaw29_large.mono _ _ _)
   | (with_reducible exact LeO.refl _)
   | (with_reducible exact LeO.none _)
   | (with_reducible refine LeO.ite ?_ ?_)
   | (with_reducible refine LeO.bind ?_ (fun _ => ?_))
   | exact ih0 _ _ _ _ _ _ _ _ _ _
   | exact ih1 _ _ _ _ _ _ _ _ _ _ _
   | exact ih2 _ _ _ _ _
   | exact ih3 _ _ _ _ _ _ _
   | exact codicillaw29_Requests.mono _ _ _ _ _ _ _ _ _
   | exact codicillaw29_Responses.mono _ _ _ _ _ _ _
   | exact codicillaw29_alive.mono _
   | exact codicillaw29_large.mono _ _ _
   | exact LeO.none _
   | refine LeO.ite ?_ ?_
   | refine LeO.bind ?_ (fun _ => ?_)
  ·intro y0 y1 y2 y3 y4 y5 y6 y7 y8 y9 y10
   unfold codicillaw29_HttpBack.j1
   repeat' first
   | (with_reducible exact ih0 _ _ _ _ _ _ _ _ _ _)
   | (with_reducible exact ih1 _ _ _ _ _ _ _ _ _ _ _)
   | (with_reducible exact ih2 _ _ _ _ _)
   | (with_reducible exact ih3 _ _ _ _ _ _ _)
   | (with_reducible exact codicillaw29_Requests.mono _ _ _ _ _ _ _ _ _)
   | (with_reducible exact codicillaw29_Responses.mono _ _ _ _ _ _ _)
   | (with_reducible exact codicillaw29_alive.mono _)
   | (with_reducible exact codicillaw29_large.mono _ _ _)
   | (with_reducible exact LeO.refl _)
   | (with_reducible exact LeO.none _)
   | (with_reducible refine LeO.ite ?_ ?_)
   | (with_reducible refine LeO.bind ?_ (fun _ => ?_))
   | exact ih0 _ _ _ _ _ _ _ _ _ _
   | exact ih1 _ _ _ _ _ _ _ _ _ _ _
   | exact ih2 _ _ _ _ _
   | exact ih3 _ _ _ _ _ _ _
   | exact codicillaw29_Requests.mono _ _ _ _ _ _ _ _ _
   | exact codicillaw29_Responses.mono _ _ _ _ _ _ _
   | exact codicillaw29_alive.mono _
   | exact codicillaw29_large.mono _ _ _
   | exact LeO.none _
   | refine LeO.ite ?_ ?_
   | refine LeO.bind ?_ (fun _ => ?_)
  ·intro y0 y1 y2 y3 y4
   unfold codicillaw29_HttpBack.j2
   repeat' first
   | (with_reducible exact ih0 _ _ _ _ _ _ _ _ _ _)
   | (with_reducible exact ih1 _ _ _ _ _ _ _ _ _ _ _)
   | (with_reducible exact ih2 _ _ _ _ _)
   | (with_reducible exact ih3 _ _ _ _ _ _ _)
   | (with_reducible exact codicillaw29_Requests.mono _ _ _ _ _ _ _ _ _)
   | (with_reducible exact codicillaw29_Responses.mono _ _ _ _ _ _ _)
   | (with_reducible exact codicillaw29_alive.mono _)
   | (with_reducible exact codicillaw29_large.mono _ _ _)
   | (with_reducible exact LeO.refl _)
   | (with_reducible exact LeO.none _)
   | (with_reducible refine LeO.ite ?_ ?_)
   | (with_reducible refine LeO.bind ?_ (fun _ => ?_))
   | exact ih0 _ _ _ _ _ _ _ _ _ _
   | exact ih1 _ _ _ _ _ _ _ _ _ _ _
   | exact ih2 _ _ _ _ _
   | exact ih3 _ _ _ _ _ _ _
   | exact codicillaw29_Requests.mono _ _ _ _ _ _ _ _ _
   | exact codicillaw29_Responses.mono _ _ _ _ _ _ _
   | exact codicillaw29_alive.mono _
   | exact codicillaw29_large.mono _ _ _
   | exact LeO.none _
   | refine LeO.ite ?_ ?_
   | refine LeO.bind ?_ (fun _ => ?_)
  ·intro y0 y1 y2 y3 y4 y5 y6
   unfold codicillaw29_HttpBack.j3
   repeat' first
   | (with_reducible exact ih0 _ _ _ _ _ _ _ _ _ _)
   | (with_reducible exact ih1 _ _ _ _ _ _ _ _ _ _ _)
   | (with_reducible exact ih2 _ _ _ _ _)
   | (with_reducible exact ih3 _ _ _ _ _ _ _)
   | (with_reducible exact codicillaw29_Requests.mono _ _ _ _ _ _ _ _ _)
   | (with_reducible exact codicillaw29_Responses.mono _ _ _ _ _ _ _)
   | (with_reducible exact codicillaw29_alive.mono _)
   | (with_reducible exact codicillaw29_large.mono _ _ _)
   | (with_reducible exact LeO.refl _)
   | (with_reducible exact LeO.none _)
   | (with_reducible refine LeO.ite ?_ ?_)
   | (with_reducible refine LeO.bind ?_ (fun _ => ?_))
   | exact ih0 _ _ _ _ _ _ _ _ _ _
   | exact ih1 _ _ _ _ _ _ _ _ _ _ _
   | exact ih2 _ _ _ _ _
   | exact ih3 _ _ _ _ _ _ _
   | exact codicillaw29_Requests.mono _ _ _ _ _ _ _ _ _
   | exact codicillaw29_Responses.mono _ _ _ _ _ _ _
   | exact codicillaw29_alive.mono _
   | exact codicillaw29_large.mono _ _ _
   | exact LeO.none _
   | refine LeO.ite ?_ ?_
   | refine LeO.bind ?_ (fun _ => ?_)
theorem codicillaw29_HttpBack.mono : ∀ a0 a1 a2 a3 a4 a5 a6 a7 a8 k, LeO (codicillaw29_HttpBack.f k a0 a1 a2 a3 a4 a5 a6 a7 a8) (codicillaw29_HttpBack.f (k + 1) a0 a1 a2 a3 a4 a5 a6 a7 a8) := by
 intro a0 a1 a2 a3 a4 a5 a6 a7 a8 k
 obtain ⟨ih0, ih1, ih2, ih3⟩ := codicillaw29_HttpBack.mono_l k
 unfold codicillaw29_HttpBack.f
 repeat' first
   | (with_reducible exact ih0 _ _ _ _ _ _ _ _ _ _)
   | (with_reducible exact ih1 _ _ _ _ _ _ _ _ _ _ _)
   | (with_reducible exact ih2 _ _ _ _ _)
   | (with_reducible exact ih3 _ _ _ _ _ _ _)
   | (with_reducible exact codicillaw29_Requests.mono _ _ _ _ _ _ _ _ _)
   | (with_reducible exact codicillaw29_Responses.mono _ _ _ _ _ _ _)
   | (with_reducible exact codicillaw29_alive.mono _)
   | (with_reducible exact codicillaw29_large.mono _ _ _)
   | (with_reducible exact LeO.refl _)
   | (with_reducible exact LeO.none _)
   | (with_reducible refine LeO.ite ?_ ?_)
   | (with_reducible refine LeO.bind ?_ (fun _ => ?_))
   | exact ih0 _ _ _ _ _ _ _ _ _ _
   | exact ih1 _ _ _ _ _ _ _ _ _ _ _
   | exact ih2 _ _ _ _ _
   | exact ih3 _ _ _ _ _ _ _
   | exact codicillaw29_Requests.mono _ _ _ _ _ _ _ _ _
   | exact codicillaw29_Responses.mono _ _ _ _ _ _ _
   | exact codicillaw29_alive.mono _
   | exact codicillaw29_large.mono _ _ _
   | exact LeO.none _
   | refine LeO.ite ?_ ?_
   | refine LeO.bind ?_ (fun _ => ?_)
set_option maxHeartbeats 8000000 in
set_option maxRecDepth 100000 in
theorem codicillaw29_HttpBack.calls1 (k : Nat) (a0_0 : ByteArray) (a0_1 : ByteArray) (A0_2 : Option Addr) (c0_2 : Nat) (l0_2 : List (S59)) (a0_3 : ByteArray) (a1_0 : Int) (A1_1 : Option Addr) (c1_1 : Nat) (l1_1 : List (S59)) (a1_2 : ByteArray) (a2 : Int) (a3 : ByteArray) (r : Bool) (w : World) (hr0_2 : Kd.C k59 w A0_2 l0_2.length l0_2) (hc0_2 : l0_2.length ≤ c0_2) (hr1_1 : Kd.C k59 w A1_1 l1_1.length l1_1) (hc1_1 : l1_1.length ≤ c1_1) (h : codicillaw29_HttpBack.f k a0_0 a0_1 l0_2 a0_3 a1_0 l1_1 a1_2 a2 a3 = some r) (hTrue : Aside0 (r = true)) (HL : Laid0 w) :
  Calls Tryz.prog 7 #[.agg #[.string a0_0, .string a0_1, .slice A0_2 l0_2.length c0_2, .string a0_3], .agg #[.int .i64 a1_0, .slice A1_1 l1_1.length c1_1, .string a1_2], .int .u16 a2, .string a3] w fun e w' => e = .returned (.bool r) ∧ Below w.heap.size w w' := by
 have hu25 := Tryz.underlying25
 have hu32 := Tryz.underlying32
 have HR0_2 := qH hr0_2
 have HC0_2 := qH hc0_2
 clear hr0_2 hc0_2
 have HR1_1 := qH hr1_1
 have HC1_1 := qH hc1_1
 clear hr1_1 hc1_1
 have HB := qH (Below.refl w.heap.size w)
 have H : ((codicillaw29_large.f k l0_2 a0_3).bind fun t163 => (if t163 = true then (codicillaw29_HttpBack.j0 k a2 a3 true a0_0 a0_1 l0_2 a0_3 a1_0 l1_1 a1_2) else ((codicillaw29_large.f k l1_1 a1_2).bind fun t164 => (if t164 = true then (codicillaw29_HttpBack.j0 k a2 a3 true a0_0 a0_1 l0_2 a0_3 a1_0 l1_1 a1_2) else (if (wrap64 ((a0_0.size : Int) + (a0_1.size : Int))) > 4096 then (codicillaw29_HttpBack.j0 k a2 a3 true a0_0 a0_1 l0_2 a0_3 a1_0 l1_1 a1_2) else (codicillaw29_HttpBack.j0 k a2 a3 (decide ((a3.size : Int) > 4096)) a0_0 a0_1 l0_2 a0_3 a1_0 l1_1 a1_2)))))) = some r := h
 clear h
 have HC5 := qH H
 clear H
 go_enter Tryz.func7, Tryz.ntmps7
 go_upto_region 1 with (first | ((with_reducible refine gate_dst (N := 4) rfl ?_); (try (refine gate_guard (by rfl) ?_; dsimp only)); refine box_event ?hg (N := 4) ?hd (cs := #[.string a0_0, .string a0_1, .slice A0_2 l0_2.length c0_2, .string a0_3]) (t := 25) ?hr ?_; (case hd => rfl); (case hg => rfl); (case hr => first | (go_simp; done) | (go_simp; rfl) | (go_simp; simp [IntKind.wrap_u32]; done)); intro gb161 hg w6 hbox hb; have n0_ := qH (below_step zz1 hb); have n1_ := qH (hbox); have n2_ := qH ((by rw [hg]; exact (below_size zz1) : w.heap.size ≤ gb161)); have n3_ := n2_; clear HB; have HB := n0_; have BK161 := n1_; have GW161 := n2_; have GE161 := n3_; clear n0_ n1_ n2_ n3_; clear hb hbox hg) | ((with_reducible refine gate_dst (N := 5) rfl ?_); (try (refine gate_guard (by rfl) ?_; dsimp only)); refine box_event ?hg (N := 5) ?hd (cs := #[.int .i64 a1_0, .slice A1_1 l1_1.length c1_1, .string a1_2]) (t := 32) ?hr ?_; (case hd => rfl); (case hg => rfl); (case hr => first | (go_simp; done) | (go_simp; rfl) | (go_simp; simp [IntKind.wrap_u32]; done)); intro gb162 hg w7 hbox hb; have n0_ := qH (qD (g := gb161) zz4 hb); have n1_ := qH (below_step (by repeat (first | (with_reducible first | exact HB.out | apply qL | apply qJ | apply qK | refine qI ?_ GE161.out) | exact HB.out)) hb); have n2_ := qH (hbox); have n3_ := qH ((by rw [hg]; exact (below_size (by repeat (first | (with_reducible first | exact HB.out | apply qL | apply qJ | apply qK | refine qI ?_ GE161.out) | exact HB.out))) : w.heap.size ≤ gb162)); have n4_ := n3_; have n5_ := qH ((by rw [hg]; exact qN (blk_lt (g := gb161) zz4) : gb161 ≠ gb162)); have n6_ := qH ((by rw [hg]; exact Nat.ne_of_gt (blk_lt (g := gb161) zz4) : gb162 ≠ gb161)); clear BK161; clear HB; have BK161 := n0_; have HB := n1_; have BK162 := n2_; have GW162 := n3_; have GE162 := n4_; have NB161_162 := n5_; have NB162_161 := n6_; clear n0_ n1_ n2_ n3_ n4_ n5_ n6_; clear hb hbox hg))
 (try simp only [Act.put, List.setIfInBounds_toArray, List.set_cons_zero, List.set_cons_succ])
 go_cut [49] (fun v49 wc => ∃ (kq : Nat) (x49_4 : Bool), v49 = .bool x49_4 ∧ Aside0 (codicillaw29_HttpBack.j0 kq a2 a3 x49_4 a0_0 a0_1 l0_2 a0_3 a1_0 l1_1 a1_2 = some r) ∧ Aside0 (kq ≤ k) ∧ Aside0 (wc.heap[gb161]? = some (.cells #[.string a0_0, .string a0_1, (.slice A0_2 l0_2.length c0_2), .string a0_3] 25 (0, 0))) ∧ Aside0 (wc.heap[gb162]? = some (.cells #[.int .i64 a1_0, (.slice A1_1 l1_1.length c1_1), .string a1_2] 32 (0, 0))) ∧ Aside0 (Below w.heap.size w wc))
 case first =>
  have H := HC5.out
  clear HC5
  replace H := Option.bind_eq_some_iff.mp H
  obtain ⟨t163, A80, H⟩ := H
  (try dsimp only at H)
  have A8 := qH A80
  clear A80
  by_cases c9 : t163 = true
  ·subst c9
   have H1 : (codicillaw29_HttpBack.j0 k a2 a3 true a0_0 a0_1 l0_2 a0_3 a1_0 l1_1 a1_2) = some r := by rw [if_pos rfl] at H; exact H
   clear H
   have H := H1
   clear H1
   have H' := qH H
   clear H
   have hnb10 := NB161_162.out
   have hnc10 := NB162_161.out
   have hcz11_0 : w7.cell? ⟨gb161, 0, none⟩ = some (.string a0_0) := (qE BK161.out 0).trans rfl
   have hcz11_1 : w7.cell? ⟨gb161, 1, none⟩ = some (.string a0_1) := (qE BK161.out 1).trans rfl
   have hcz11_2 : w7.cell? ⟨gb161, 2, none⟩ = some (.slice A0_2 l0_2.length c0_2) := (qE BK161.out 2).trans rfl
   have hcz11_3 : w7.cell? ⟨gb161, 3, none⟩ = some (.string a0_3) := (qE BK161.out 3).trans rfl
   have hfz11_0 := qF BK161.out 0
   have hfz11_1 := qF BK161.out 1
   have hfz11_2 := qF BK161.out 2
   have hfz11_3 := qF BK161.out 3
   go_wp2_with (first | ((with_reducible refine gate_callee (f := 19) rfl ?_); refine goesL_ (some 27) rfl rfl Tryz.func19 (by kernel_rfl) rfl #[.slice A0_2 l0_2.length c0_2, .string a0_3] rfl zz0 ?_; (with_reducible refine (codicillaw29_large.calls k _ _ l0_2 a0_3 true _ ?side1 ?side2 A8.out).mono ?_); (case side1 => repeat (first | exact (Kd.C_below HR0_2.out HB.out) | (with_reducible refine Kd.C_alloc ?_ _) | (with_reducible refine Kd.C_drewN ?_ _) | (with_reducible refine Kd.C_drew ?_))); (case side2 => exact HC0_2.out); rintro e w' ⟨rfl, ⟨nd, rfl⟩⟩; refine ⟨_, rfl, ?_⟩))
   go_meet
   case rel => exact ⟨_, (true), zz9, H', ⟨by first | omega | exact Nat.le_refl _⟩, ⟨by (with_reducible repeat first | apply qA | apply qC | apply qB); exact BK161.out⟩, ⟨by (with_reducible repeat first | apply qA | apply qC | apply qB); exact BK162.out⟩, ⟨by repeat (first | (with_reducible first | exact HB.out | apply qL | apply qJ | apply qK | refine qI ?_ GE161.out | refine qI ?_ GE162.out) | exact HB.out)⟩⟩
  ·replace c9 := Bool.eq_false_iff.mpr c9
   subst c9
   have H1 : ((codicillaw29_large.f k l1_1 a1_2).bind fun t164 => (if t164 = true then (codicillaw29_HttpBack.j0 k a2 a3 true a0_0 a0_1 l0_2 a0_3 a1_0 l1_1 a1_2) else (if (wrap64 ((a0_0.size : Int) + (a0_1.size : Int))) > 4096 then (codicillaw29_HttpBack.j0 k a2 a3 true a0_0 a0_1 l0_2 a0_3 a1_0 l1_1 a1_2) else (codicillaw29_HttpBack.j0 k a2 a3 (decide ((a3.size : Int) > 4096)) a0_0 a0_1 l0_2 a0_3 a1_0 l1_1 a1_2)))) = some r := by rw [if_neg (show ¬ (false = true) by decide)] at H; exact H
   clear H
   have H := H1
   clear H1
   replace H := Option.bind_eq_some_iff.mp H
   obtain ⟨t164, A120, H⟩ := H
   (try dsimp only at H)
   have A12 := qH A120
   clear A120
   by_cases c13 : t164 = true
   ·subst c13
    have H1 : (codicillaw29_HttpBack.j0 k a2 a3 true a0_0 a0_1 l0_2 a0_3 a1_0 l1_1 a1_2) = some r := by rw [if_pos rfl] at H; exact H
    clear H
    have H := H1
    clear H1
    have H' := qH H
    clear H
    have hnb14 := NB161_162.out
    have hnc14 := NB162_161.out
    have hcz15_0 : w7.cell? ⟨gb161, 0, none⟩ = some (.string a0_0) := (qE BK161.out 0).trans rfl
    have hcz15_1 : w7.cell? ⟨gb161, 1, none⟩ = some (.string a0_1) := (qE BK161.out 1).trans rfl
    have hcz15_2 : w7.cell? ⟨gb161, 2, none⟩ = some (.slice A0_2 l0_2.length c0_2) := (qE BK161.out 2).trans rfl
    have hcz15_3 : w7.cell? ⟨gb161, 3, none⟩ = some (.string a0_3) := (qE BK161.out 3).trans rfl
    have hfz15_0 := qF BK161.out 0
    have hfz15_1 := qF BK161.out 1
    have hfz15_2 := qF BK161.out 2
    have hfz15_3 := qF BK161.out 3
    go_wp2_with (first | ((with_reducible refine gate_callee (f := 19) rfl ?_); refine goesL_ (some 27) rfl rfl Tryz.func19 (by kernel_rfl) rfl #[.slice A0_2 l0_2.length c0_2, .string a0_3] rfl zz0 ?_; (with_reducible refine (codicillaw29_large.calls k _ _ l0_2 a0_3 false _ ?side1 ?side2 A8.out).mono ?_); (case side1 => repeat (first | exact (Kd.C_below HR0_2.out HB.out) | (with_reducible refine Kd.C_alloc ?_ _) | (with_reducible refine Kd.C_drewN ?_ _) | (with_reducible refine Kd.C_drew ?_))); (case side2 => exact HC0_2.out); rintro e w' ⟨rfl, ⟨nd, rfl⟩⟩; refine ⟨_, rfl, ?_⟩; obtain ⟨hcz16_0, hcz16_1, hcz16_2⟩ := qc3 BK162.out; obtain ⟨hfz16_0, hfz16_1, hfz16_2⟩ := qf3 BK162.out) | (go_at_call 19; (with_reducible refine (codicillaw29_large.calls k _ _ l1_1 a1_2 true _ ?side1 ?side2 A12.out).mono ?_); (case side1 => repeat (first | exact (Kd.C_below HR1_1.out zz2) | (with_reducible refine Kd.C_alloc ?_ _) | (with_reducible refine Kd.C_drewN ?_ _) | (with_reducible refine Kd.C_drew ?_))); (case side2 => exact HC1_1.out); rintro e w' ⟨rfl, ⟨nd, rfl⟩⟩))
    go_meet
    case rel => exact ⟨_, (true), zz9, H', ⟨by first | omega | exact Nat.le_refl _⟩, ⟨by (with_reducible repeat first | apply qA | apply qC | apply qB); exact BK161.out⟩, ⟨by (with_reducible repeat first | apply qA | apply qC | apply qB); exact BK162.out⟩, ⟨by repeat (first | (with_reducible first | exact HB.out | apply qL | apply qJ | apply qK | refine qI ?_ GE161.out | refine qI ?_ GE162.out) | exact HB.out)⟩⟩
   ·replace c13 := Bool.eq_false_iff.mpr c13
    subst c13
    have H1 : (if (wrap64 ((a0_0.size : Int) + (a0_1.size : Int))) > 4096 then (codicillaw29_HttpBack.j0 k a2 a3 true a0_0 a0_1 l0_2 a0_3 a1_0 l1_1 a1_2) else (codicillaw29_HttpBack.j0 k a2 a3 (decide ((a3.size : Int) > 4096)) a0_0 a0_1 l0_2 a0_3 a1_0 l1_1 a1_2)) = some r := by rw [if_neg (show ¬ (false = true) by decide)] at H; exact H
    clear H
    have H := H1
    clear H1
    by_cases c17 : (wrap64 ((a0_0.size : Int) + (a0_1.size : Int))) > 4096
    ·rw [if_pos c17] at H
     have c17b0 : decide (4096 < (wrap64 ((a0_0.size : Int) + (a0_1.size : Int)))) = true := decide_eq_true c17
     clear c17
     (first | rw [c17b0] | (simp only [i64_w, i32_w]; rw [c17b0]) | skip)
     have H' := qH H
     clear H
     have hnb18 := NB161_162.out
     have hnc18 := NB162_161.out
     have hcz19_0 : w7.cell? ⟨gb161, 0, none⟩ = some (.string a0_0) := (qE BK161.out 0).trans rfl
     have hcz19_1 : w7.cell? ⟨gb161, 1, none⟩ = some (.string a0_1) := (qE BK161.out 1).trans rfl
     have hcz19_2 : w7.cell? ⟨gb161, 2, none⟩ = some (.slice A0_2 l0_2.length c0_2) := (qE BK161.out 2).trans rfl
     have hcz19_3 : w7.cell? ⟨gb161, 3, none⟩ = some (.string a0_3) := (qE BK161.out 3).trans rfl
     have hfz19_0 := qF BK161.out 0
     have hfz19_1 := qF BK161.out 1
     have hfz19_2 := qF BK161.out 2
     have hfz19_3 := qF BK161.out 3
     go_wp2_with (first | ((with_reducible refine gate_callee (f := 19) rfl ?_); refine goesL_ (some 27) rfl rfl Tryz.func19 (by kernel_rfl) rfl #[.slice A0_2 l0_2.length c0_2, .string a0_3] rfl zz0 ?_; (with_reducible refine (codicillaw29_large.calls k _ _ l0_2 a0_3 false _ ?side1 ?side2 A8.out).mono ?_); (case side1 => repeat (first | exact (Kd.C_below HR0_2.out HB.out) | (with_reducible refine Kd.C_alloc ?_ _) | (with_reducible refine Kd.C_drewN ?_ _) | (with_reducible refine Kd.C_drew ?_))); (case side2 => exact HC0_2.out); rintro e w' ⟨rfl, ⟨nd, rfl⟩⟩; refine ⟨_, rfl, ?_⟩; obtain ⟨hcz20_0, hcz20_1, hcz20_2⟩ := qc3 BK162.out; obtain ⟨hfz20_0, hfz20_1, hfz20_2⟩ := qf3 BK162.out) | (go_at_call 19; (with_reducible refine (codicillaw29_large.calls k _ _ l1_1 a1_2 false _ ?side1 ?side2 A12.out).mono ?_); (case side1 => repeat (first | exact (Kd.C_below HR1_1.out zz2) | (with_reducible refine Kd.C_alloc ?_ _) | (with_reducible refine Kd.C_drewN ?_ _) | (with_reducible refine Kd.C_drew ?_))); (case side2 => exact HC1_1.out); rintro e w' ⟨rfl, ⟨nd, rfl⟩⟩))
     go_meet
     case rel => exact ⟨_, (true), zz9, H', ⟨by first | omega | exact Nat.le_refl _⟩, ⟨by (with_reducible repeat first | apply qA | apply qC | apply qB); exact BK161.out⟩, ⟨by (with_reducible repeat first | apply qA | apply qC | apply qB); exact BK162.out⟩, ⟨by repeat (first | (with_reducible first | exact HB.out | apply qL | apply qJ | apply qK | refine qI ?_ GE161.out | refine qI ?_ GE162.out) | exact HB.out)⟩⟩
    ·rw [if_neg c17] at H
     have c17b0 : decide (4096 < (wrap64 ((a0_0.size : Int) + (a0_1.size : Int)))) = false := decide_eq_false c17
     clear c17
     (first | rw [c17b0] | (simp only [i64_w, i32_w]; rw [c17b0]) | skip)
     have H' := qH H
     clear H
     have hnb21 := NB161_162.out
     have hnc21 := NB162_161.out
     have hcz22_0 : w7.cell? ⟨gb161, 0, none⟩ = some (.string a0_0) := (qE BK161.out 0).trans rfl
     have hcz22_1 : w7.cell? ⟨gb161, 1, none⟩ = some (.string a0_1) := (qE BK161.out 1).trans rfl
     have hcz22_2 : w7.cell? ⟨gb161, 2, none⟩ = some (.slice A0_2 l0_2.length c0_2) := (qE BK161.out 2).trans rfl
     have hcz22_3 : w7.cell? ⟨gb161, 3, none⟩ = some (.string a0_3) := (qE BK161.out 3).trans rfl
     have hfz22_0 := qF BK161.out 0
     have hfz22_1 := qF BK161.out 1
     have hfz22_2 := qF BK161.out 2
     have hfz22_3 := qF BK161.out 3
     go_wp2_with (first | ((with_reducible refine gate_callee (f := 19) rfl ?_); refine goesL_ (some 27) rfl rfl Tryz.func19 (by kernel_rfl) rfl #[.slice A0_2 l0_2.length c0_2, .string a0_3] rfl zz0 ?_; (with_reducible refine (codicillaw29_large.calls k _ _ l0_2 a0_3 false _ ?side1 ?side2 A8.out).mono ?_); (case side1 => repeat (first | exact (Kd.C_below HR0_2.out HB.out) | (with_reducible refine Kd.C_alloc ?_ _) | (with_reducible refine Kd.C_drewN ?_ _) | (with_reducible refine Kd.C_drew ?_))); (case side2 => exact HC0_2.out); rintro e w' ⟨rfl, ⟨nd, rfl⟩⟩; refine ⟨_, rfl, ?_⟩; obtain ⟨hcz23_0, hcz23_1, hcz23_2⟩ := qc3 BK162.out; obtain ⟨hfz23_0, hfz23_1, hfz23_2⟩ := qf3 BK162.out) | (go_at_call 19; (with_reducible refine (codicillaw29_large.calls k _ _ l1_1 a1_2 false _ ?side1 ?side2 A12.out).mono ?_); (case side1 => repeat (first | exact (Kd.C_below HR1_1.out zz2) | (with_reducible refine Kd.C_alloc ?_ _) | (with_reducible refine Kd.C_drewN ?_ _) | (with_reducible refine Kd.C_drew ?_))); (case side2 => exact HC1_1.out); rintro e w' ⟨rfl, ⟨nd, rfl⟩⟩))
     go_meet
     case rel => exact ⟨_, (decide ((a3.size : Int) > 4096)), zz9, H', ⟨by first | omega | exact Nat.le_refl _⟩, ⟨by (with_reducible repeat first | apply qA | apply qC | apply qB); exact BK161.out⟩, ⟨by (with_reducible repeat first | apply qA | apply qC | apply qB); exact BK162.out⟩, ⟨by repeat (first | (with_reducible first | exact HB.out | apply qL | apply qJ | apply qK | refine qI ?_ GE161.out | refine qI ?_ GE162.out) | exact HB.out)⟩⟩
 case rest =>
  clear HC5
  try clear c1
  try clear c2
  try clear p2
  try clear p6
  try clear c7
  try clear c9
  try clear c10
  try clear c13
  try clear c14
  try clear c17
  try clear c17b0
  try clear c18
  try clear c19
  try clear c21
  try clear hcz11_0
  try clear hcz11_1
  try clear hcz11_2
  try clear hcz11_3
  try clear hcz15_0
  try clear hcz15_1
  try clear hcz15_2
  try clear hcz15_3
  try clear hcz16_0
  try clear hcz16_1
  try clear hcz16_2
  try clear hcz19_0
  try clear hcz19_1
  try clear hcz19_2
  try clear hcz19_3
  try clear hcz20_0
  try clear hcz20_1
  try clear hcz20_2
  try clear hcz22_0
  try clear hcz22_1
  try clear hcz22_2
  try clear hcz22_3
  try clear hcz23_0
  try clear hcz23_1
  try clear hcz23_2
  try clear hfz11_0
  try clear hfz11_1
  try clear hfz11_2
  try clear hfz11_3
  try clear hfz15_0
  try clear hfz15_1
  try clear hfz15_2
  try clear hfz15_3
  try clear hfz16_0
  try clear hfz16_1
  try clear hfz16_2
  try clear hfz19_0
  try clear hfz19_1
  try clear hfz19_2
  try clear hfz19_3
  try clear hfz20_0
  try clear hfz20_1
  try clear hfz20_2
  try clear hfz22_0
  try clear hfz22_1
  try clear hfz22_2
  try clear hfz22_3
  try clear hfz23_0
  try clear hfz23_1
  try clear hfz23_2
  obtain ⟨kq, x49_4, rfl, HA, HJ4, BK161, BK162, HB⟩ := hcut
  cases kq with
  | zero => exact absurd HA.out (by simp [codicillaw29_HttpBack.j0])
  | succ kj4 =>
   have H := HA.out
   clear HA
   simp only [codicillaw29_HttpBack.j0] at H
   by_cases c24 : x49_4 = true
   ·subst c24
    have H1 : ((codicillaw29_alive.f kj4).bind fun t165 => (some t165)) = some r := by rw [if_pos rfl] at H; exact H
    clear H
    have H := H1
    clear H1
    replace H := Option.bind_eq_some_iff.mp H
    obtain ⟨t165, A250, H⟩ := H
    (try dsimp only at H)
    have A25 := qH A250
    clear A250
    obtain rfl := Option.some.inj H
    simp only [Option.some.injEq, Prod.mk.injEq] at H
    obtain ⟨rfl⟩ := H
    go_wp2_with (first | ((with_reducible refine gate_callee (f := 9) rfl ?_); refine goesL_ (some 50) rfl rfl Tryz.func9 (by kernel_rfl) rfl #[] rfl zz0 ?_; (with_reducible refine (codicillaw29_alive.calls kj4  t165 _ A25.out (HL.later zz3)).mono ?_); rintro e w26 ⟨rfl, hb⟩; refine ⟨_, rfl, ?_⟩; have n0_ := qH (qD (g := gb161) zz4 hb); have n1_ := qH (qD (g := gb162) zz5 hb); have n2_ := qH (below_step zz2 hb); clear BK161; clear BK162; clear HB; have BK161 := n0_; have BK162 := n1_; have HB := n2_; clear n0_ n1_ n2_; (try clear hb); (try clear hb2); (try clear hk); (try clear hi)))
    go_ret
    exact ⟨by first | rfl | (simp [errW_none, errW_some] <;> rfl) | (simp [*, errW_none, errW_some] <;> rfl), by repeat (first | (with_reducible first | exact HB.out | apply qL | apply qJ | apply qK | refine qI ?_ GE161.out | refine qI ?_ GE162.out) | exact HB.out)⟩
   ·replace c24 := Bool.eq_false_iff.mpr c24
    subst c24
    have H1 : ((http_Ask.f a0_0 a0_1 l0_2 a0_3).bind fun bt166 => (if bt166.2 = 0 then (codicillaw29_HttpBack.j1 kj4 a2 a3 bt166.1 (bt166.1.toList != ([] : List UInt8)) a0_0 a0_1 l0_2 a0_3 a1_0 l1_1 a1_2) else (codicillaw29_HttpBack.j1 kj4 a2 a3 bt166.1 false a0_0 a0_1 l0_2 a0_3 a1_0 l1_1 a1_2))) = some r := by rw [if_neg (show ¬ (false = true) by decide)] at H; exact H
    clear H
    have H := H1
    clear H1
    replace H := Option.bind_eq_some_iff.mp H
    obtain ⟨⟨t166, t167⟩, A270, H⟩ := H
    (try dsimp only at H)
    have A27 := qH A270
    clear A270
    have HC28 := qH H
    clear H
    have hnb29 := NB161_162.out
    have hnc29 := NB162_161.out
    have hcz30_0 : wc.cell? ⟨gb161, 0, none⟩ = some (.string a0_0) := (qE BK161.out 0).trans rfl
    have hcz30_1 : wc.cell? ⟨gb161, 1, none⟩ = some (.string a0_1) := (qE BK161.out 1).trans rfl
    have hcz30_2 : wc.cell? ⟨gb161, 2, none⟩ = some (.slice A0_2 l0_2.length c0_2) := (qE BK161.out 2).trans rfl
    have hcz30_3 : wc.cell? ⟨gb161, 3, none⟩ = some (.string a0_3) := (qE BK161.out 3).trans rfl
    have hfz30_0 := qF BK161.out 0
    have hfz30_1 := qF BK161.out 1
    have hfz30_2 := qF BK161.out 2
    have hfz30_3 := qF BK161.out 3
    go_upto_region 4 with (first | ((with_reducible refine gate_callee (f := 20) rfl ?_); refine goesL_ (some 53) rfl rfl Tryz.func20 (by kernel_rfl) rfl #[.agg #[.string a0_0, .string a0_1, .slice A0_2 l0_2.length c0_2, .string a0_3]] rfl zz0 ?_; (with_reducible refine (http_Ask.calls a0_0 a0_1 _ _ l0_2 a0_3 t166 t167 _ ?side1 ?side2 A27.out (HL.later zz3)).mono ?_); (case side1 => repeat (first | exact (Kd.C_below HR0_2.out HB.out) | (with_reducible refine Kd.C_alloc ?_ _) | (with_reducible refine Kd.C_drewN ?_ _) | (with_reducible refine Kd.C_drew ?_))); (case side2 => exact HC0_2.out); rintro e w31 ⟨rfl, hb⟩; refine ⟨_, rfl, ?_⟩; have n0_ := qH (qD (g := gb161) zz4 hb); have n1_ := qH (qD (g := gb162) zz5 hb); have n2_ := qH (below_step zz2 hb); clear BK161; clear BK162; clear HB; have BK161 := n0_; have BK162 := n1_; have HB := n2_; clear n0_ n1_ n2_; (try clear hb); (try clear hb2); (try clear hk); (try clear hi)))
    (try simp only [Act.put, List.setIfInBounds_toArray, List.set_cons_zero, List.set_cons_succ])
    go_cut [61] (fun v61 wc => ∃ (kq : Nat) (x61_27 : Bool), v61 = .bool x61_27 ∧ Aside0 (codicillaw29_HttpBack.j1 kq a2 a3 t166 x61_27 a0_0 a0_1 l0_2 a0_3 a1_0 l1_1 a1_2 = some r) ∧ Aside0 (kq ≤ kj4) ∧ Aside0 (wc.heap[gb161]? = some (.cells #[.string a0_0, .string a0_1, (.slice A0_2 l0_2.length c0_2), .string a0_3] 25 (0, 0))) ∧ Aside0 (wc.heap[gb162]? = some (.cells #[.int .i64 a1_0, (.slice A1_1 l1_1.length c1_1), .string a1_2] 32 (0, 0))) ∧ Aside0 (Below w.heap.size w wc))
    case first =>
     have H := HC28.out
     clear HC28
     by_cases c32 : t167 = 0
     ·rw [if_pos c32] at H
      have c32b0 : (t167 == 0) = true := beq_iff_eq.mpr c32
      have c32b1 : (t167 != 0) = false := bne_eq_false_iff_eq.mpr c32
      clear c32
      (first | rw [c32b0] | (simp only [i64_w, i32_w]; rw [c32b0]) | skip)
      have H' := qH H
      clear H
      go_wp2
      go_meet
      case rel => exact ⟨_, ((t166.toList != ([] : List UInt8))), zz9, H', ⟨by have := HJ4.out; first | omega | exact Nat.le_refl _⟩, ⟨by (with_reducible repeat first | apply qA | apply qC | apply qB); exact BK161.out⟩, ⟨by (with_reducible repeat first | apply qA | apply qC | apply qB); exact BK162.out⟩, ⟨by repeat (first | (with_reducible first | exact HB.out | apply qL | apply qJ | apply qK | refine qI ?_ GE161.out | refine qI ?_ GE162.out) | exact HB.out)⟩⟩
     ·rw [if_neg c32] at H
      have c32b0 : (t167 == 0) = false := beq_eq_false_iff_ne.mpr c32
      have c32b1 : (t167 != 0) = true := bne_iff_ne.mpr c32
      (first | rw [c32b0] | (simp only [i64_w, i32_w]; rw [c32b0]) | skip)
      have H' := qH H
      clear H
      go_wp2
      go_meet
      case rel => exact ⟨_, (false), zz9, H', ⟨by have := HJ4.out; first | omega | exact Nat.le_refl _⟩, ⟨by (with_reducible repeat first | apply qA | apply qC | apply qB); exact BK161.out⟩, ⟨by (with_reducible repeat first | apply qA | apply qC | apply qB); exact BK162.out⟩, ⟨by repeat (first | (with_reducible first | exact HB.out | apply qL | apply qJ | apply qK | refine qI ?_ GE161.out | refine qI ?_ GE162.out) | exact HB.out)⟩⟩
    case rest =>
     clear HC28
     try clear c1
     try clear c2
     try clear p2
     try clear c3
     try clear p6
     try clear c7
     try clear c9
     try clear c10
     try clear c13
     try clear c14
     try clear c17
     try clear c17b0
     try clear c18
     try clear c19
     try clear c20
     try clear c21
     try clear c24
     try clear c29
     try clear c32
     try clear c32b0
     try clear c32b1
     try clear hcz11_0
     try clear hcz11_1
     try clear hcz11_2
     try clear hcz11_3
     try clear hcz15_0
     try clear hcz15_1
     try clear hcz15_2
     try clear hcz15_3
     try clear hcz16_0
     try clear hcz16_1
     try clear hcz16_2
     try clear hcz19_0
     try clear hcz19_1
     try clear hcz19_2
     try clear hcz19_3
     try clear hcz20_0
     try clear hcz20_1
     try clear hcz20_2
     try clear hcz22_0
     try clear hcz22_1
     try clear hcz22_2
     try clear hcz22_3
     try clear hcz23_0
     try clear hcz23_1
     try clear hcz23_2
     try clear hcz30_0
     try clear hcz30_1
     try clear hcz30_2
     try clear hcz30_3
     try clear hfz11_0
     try clear hfz11_1
     try clear hfz11_2
     try clear hfz11_3
     try clear hfz15_0
     try clear hfz15_1
     try clear hfz15_2
     try clear hfz15_3
     try clear hfz16_0
     try clear hfz16_1
     try clear hfz16_2
     try clear hfz19_0
     try clear hfz19_1
     try clear hfz19_2
     try clear hfz19_3
     try clear hfz20_0
     try clear hfz20_1
     try clear hfz20_2
     try clear hfz22_0
     try clear hfz22_1
     try clear hfz22_2
     try clear hfz22_3
     try clear hfz23_0
     try clear hfz23_1
     try clear hfz23_2
     try clear hfz30_0
     try clear hfz30_1
     try clear hfz30_2
     try clear hfz30_3
     try clear p2
     try clear p6
     obtain ⟨kq, x61_27, rfl, HA, HJ27, BK161, BK162, HB⟩ := hcut
     cases kq with
     | zero => exact absurd HA.out (by simp [codicillaw29_HttpBack.j1])
     | succ kj27 =>
      have H := HA.out
      clear HA
      simp only [codicillaw29_HttpBack.j1] at H
      have HC33 := qH H
      clear H
      go_upto_if 61 with (fail)
      go_cut [] (fun wc => ∃ (kq : Nat), Aside0 (codicillaw29_HttpBack.j2 kq a2 a3 a1_0 l1_1 a1_2 = some r) ∧ Aside0 (kq ≤ kj27) ∧ Aside0 (wc.heap[gb161]? = some (.cells #[.string a0_0, .string a0_1, (.slice A0_2 l0_2.length c0_2), .string a0_3] 25 (0, 0))) ∧ Aside0 (wc.heap[gb162]? = some (.cells #[.int .i64 a1_0, (.slice A1_1 l1_1.length c1_1), .string a1_2] 32 (0, 0))) ∧ Aside0 (Below w.heap.size w wc))
      case first =>
       have H := HC33.out
       clear HC33
       by_cases c34 : x61_27 = true
       ·subst c34
        have H1 : (if t166.size + a3.size ≤ 9223372036854775807 then ((http_Read.f (t166 ++ a3)).bind fun bt168 => (if (t166.size : Int) = 0 then (none) else (if 0 ≤ (Int.tmod (wrap64 (a2)) (t166.size : Int)) then (if (Int.tmod (wrap64 (a2)) (t166.size : Int)) ≤ (t166.size : Int) then ((http_Read.f (t166.extract 0 ((Int.tmod (wrap64 (a2)) (t166.size : Int)) : Int).toNat)).bind fun bt177 => ((codicillaw29_Requests.f kj27 bt168.1 bt168.2.1 bt168.2.2.1 bt168.2.2.2.1 a0_0 a0_1 l0_2 a0_3).bind fun t186 => (if t186 = true then (if bt168.2.2.2.2.1 = (t166.size : Int) then (if bt168.2.2.2.2.2 = 0 then (if bt177.2.2.2.2.1 = 0 then (if bt177.2.2.2.2.2 = 290 then (codicillaw29_HttpBack.j2 kj27 a2 a3 a1_0 l1_1 a1_2) else (some false)) else (some false)) else (some false)) else (some false)) else (some false)))) else (none)) else (none)))) else (none)) = some r := by rw [if_pos rfl] at H; exact H
        clear H
        have H := H1
        clear H1
        by_cases c35 : t166.size + a3.size ≤ 9223372036854775807
        ·rw [if_pos c35] at H
         have c35b0 := eq_true c35
         have c35b1 : decide (t166.size + a3.size ≤ 9223372036854775807) = true := decide_eq_true c35
         try have c35b2 : (9223372036854775807 < t166.size + a3.size) = False := eq_false (Nat.not_lt.2 c35)
         replace H := Option.bind_eq_some_iff.mp H
         obtain ⟨⟨t168, t169, t170, t173, t174, t175⟩, A360, H⟩ := H
         (try dsimp only at H)
         have A36 := qH A360
         clear A360
         by_cases c37 : (t166.size : Int) = 0
         ·rw [if_pos c37] at H
          exact absurd H (by simp)
         ·rw [if_neg c37] at H
          have c37b0 : ((t166.size : Int) == 0) = false := beq_eq_false_iff_ne.mpr c37
          have c37b1 : ((t166.size : Int) != 0) = true := bne_iff_ne.mpr c37
          (first | rw [c37b0] | (simp only [i64_w, i32_w]; rw [c37b0]) | skip)
          obtain ⟨ji38, hji38⟩ : ∃ j_ : Int, (Int.tmod (wrap64 (a2)) (t166.size : Int)) = j_ := ⟨_, rfl⟩
          replace H : (if 0 ≤ (ji38) then (if (ji38) ≤ (t166.size : Int) then ((http_Read.f (t166.extract 0 ((ji38) : Int).toNat)).bind fun bt177 => ((codicillaw29_Requests.f kj27 t168 t169 t170 t173 a0_0 a0_1 l0_2 a0_3).bind fun t186 => (if t186 = true then (if t174 = (t166.size : Int) then (if t175 = 0 then (if bt177.2.2.2.2.1 = 0 then (if bt177.2.2.2.2.2 = 290 then (codicillaw29_HttpBack.j2 kj27 a2 a3 a1_0 l1_1 a1_2) else (some false)) else (some false)) else (some false)) else (some false)) else (some false)))) else (none)) else (none)) = some r := by first | (rw [hji38] at H; exact H) | (simp only [hji38] at H ⊢; exact H)
          (try rw [hji38] at A36)
          by_cases c39 : 0 ≤ (ji38)
          ·rw [if_pos c39] at H
           have c39b0 := eq_true c39
           have c39b1 : decide (0 ≤ (ji38)) = true := decide_eq_true c39
           clear c39
           by_cases c40 : (ji38) ≤ (t166.size : Int)
           ·rw [if_pos c40] at H
            have c40b0 := eq_true c40
            have c40b1 : decide ((ji38) ≤ (t166.size : Int)) = true := decide_eq_true c40
            clear c40
            replace H := Option.bind_eq_some_iff.mp H
            obtain ⟨⟨t177, t178, t179, t182, t183, t184⟩, A410, H⟩ := H
            (try dsimp only at H)
            have A41 := qH A410
            clear A410
            replace H := Option.bind_eq_some_iff.mp H
            obtain ⟨t186, A420, H⟩ := H
            (try dsimp only at H)
            have A42 := qH A420
            clear A420
            by_cases c43 : t186 = true
            ·subst c43
             have H1 : (if t174 = (t166.size : Int) then (if t175 = 0 then (if t183 = 0 then (if t184 = 290 then (codicillaw29_HttpBack.j2 kj27 a2 a3 a1_0 l1_1 a1_2) else (some false)) else (some false)) else (some false)) else (some false)) = some r := by rw [if_pos rfl] at H; exact H
             clear H
             have H := H1
             clear H1
             by_cases c44 : t174 = (t166.size : Int)
             ·rw [if_pos c44] at H
              have c44b0 : (t174 == (t166.size : Int)) = true := beq_iff_eq.mpr c44
              have c44b1 : (t174 != (t166.size : Int)) = false := bne_eq_false_iff_eq.mpr c44
              clear c44
              by_cases c45 : t175 = 0
              ·rw [if_pos c45] at H
               have c45b0 : (t175 == 0) = true := beq_iff_eq.mpr c45
               have c45b1 : (t175 != 0) = false := bne_eq_false_iff_eq.mpr c45
               clear c45
               by_cases c46 : t183 = 0
               ·rw [if_pos c46] at H
                have c46b0 : (t183 == 0) = true := beq_iff_eq.mpr c46
                have c46b1 : (t183 != 0) = false := bne_eq_false_iff_eq.mpr c46
                clear c46
                by_cases c47 : t184 = 290
                ·rw [if_pos c47] at H
                 have c47b0 : (t184 == 290) = true := beq_iff_eq.mpr c47
                 have c47b1 : (t184 != 290) = false := bne_eq_false_iff_eq.mpr c47
                 clear c47
                 have H' := qH H
                 clear H
                 go_wp2_with (first | ((with_reducible refine gate_callee (f := 10) rfl ?_); refine goesL_ (some 66) rfl rfl Tryz.func10 (by kernel_rfl) rfl #[.string (t166 ++ a3)] rfl zz0 ?_; (with_reducible refine (http_Read.calls (t166 ++ a3) t168 t169 t170 t173 t174 t175 _ A36.out (HL.later zz3)).mono ?_); rintro e w48 ⟨v171, rfl, ho0, hb⟩; refine ⟨_, rfl, ?_⟩; have n0_ := qH (Kd.R_lower ho0 (below_size zz2)); have n1_ := qH (qD (g := gb161) zz4 hb); have n2_ := qH (qD (g := gb162) zz5 hb); have n3_ := qH (below_step zz2 hb); clear BK161; clear BK162; clear HB; have HO172 := n0_; have BK161 := n1_; have BK162 := n2_; have HB := n3_; clear n0_ n1_ n2_ n3_; (try clear hb); (try clear hb2); (try clear hk); (try clear hi); (try clear ho0)) | ((with_reducible refine gate_dst (N := 11) rfl ?_); (try (refine gate_guard (by rfl) ?_; dsimp only)); refine box_event ?hg (N := 11) ?hd (cs := #[.string (⟨#[]⟩ : ByteArray), .string (⟨#[]⟩ : ByteArray), .slice none 0 0, .string (⟨#[]⟩ : ByteArray)]) (t := 25) ?hr ?_; (case hd => rfl); (case hg => rfl); (case hr => first | (go_simp; done) | (go_simp; rfl) | (go_simp; simp [IntKind.wrap_u32]; done)); intro gb176 hg w49 hbox hb; have n0_ := qH (Kd.R_below (by (with_reducible repeat (first | apply Kd.R_alloc | apply Kd.R_drewN | apply Kd.R_drew)); exact HO172.out) hb); have n1_ := qH (qD (g := gb161) zz4 hb); have n2_ := qH (qD (g := gb162) zz5 hb); have n3_ := qH (below_step zz2 hb); have n4_ := qH (hbox); have n5_ := qH ((by rw [hg]; exact (below_size zz2) : w.heap.size ≤ gb176)); have n6_ := n5_; have n7_ := qH ((by rw [hg]; exact qN (blk_lt (g := gb161) zz4) : gb161 ≠ gb176)); have n8_ := qH ((by rw [hg]; exact Nat.ne_of_gt (blk_lt (g := gb161) zz4) : gb176 ≠ gb161)); have n9_ := qH ((by rw [hg]; exact qN (blk_lt (g := gb162) zz5) : gb162 ≠ gb176)); have n10_ := qH ((by rw [hg]; exact Nat.ne_of_gt (blk_lt (g := gb162) zz5) : gb176 ≠ gb162)); clear HO172; clear BK161; clear BK162; clear HB; have HO172 := n0_; have BK161 := n1_; have BK162 := n2_; have HB := n3_; have BK176 := n4_; have GW176 := n5_; have GE176 := n6_; have NB161_176 := n7_; have NB176_161 := n8_; have NB162_176 := n9_; have NB176_162 := n10_; clear n0_ n1_ n2_ n3_ n4_ n5_ n6_ n7_ n8_ n9_ n10_; clear hb hbox hg; have hnb50 := NB176_161.out; have hnc50 := NB161_176.out; have hnb51 := NB176_162.out; have hnc51 := NB162_176.out; obtain ⟨hcz52_0, hcz52_1, hcz52_2, hcz52_3⟩ := qc4 BK176.out; obtain ⟨hfz52_0, hfz52_1, hfz52_2, hfz52_3⟩ := qf4 BK176.out; obtain ⟨Ao53, co53, eo53⟩ := Kd.R_slice HO172.out; subst eo53) | ((with_reducible refine gate_callee (f := 10) rfl ?_); refine goesL_ (some 78) rfl rfl Tryz.func10 (by kernel_rfl) rfl #[.string (t166.extract 0 ((ji38) : Int).toNat)] rfl (by (try simp only [List.map_toArray, List.map_cons, List.map_nil]); first | done | (simp only [hji38]; rfl) | rfl | (simp only [List.length_drop, List.length_take]; rfl)) ?_; (with_reducible refine (http_Read.calls (t166.extract 0 ((ji38) : Int).toNat) t177 t178 t179 t182 t183 t184 _ A41.out (HL.later zz3)).mono ?_); rintro e w54 ⟨v180, rfl, ho0, hb⟩; refine ⟨_, rfl, ?_⟩; have n0_ := qH (Kd.R_elder' zz26 (Kd.R_base ho0) hb); have n1_ := qH (Kd.R_lower (Kd.R_new' ho0 (Kd.R_lt zz26)) (below_size zz17)); have n2_ := qH (qD (g := gb161) (o := .cells #[.string a0_0, .string a0_1, .slice A0_2 l0_2.length c0_2, .string a0_3] 25 (0, 0)) (by (with_reducible repeat first | apply qA | apply qC | apply qB); refine qG ?_ NB161_176.out _; (with_reducible repeat first | apply qA | apply qC | apply qB); refine qG ?_ NB161_176.out _; (with_reducible repeat first | apply qA | apply qC | apply qB); refine qG ?_ NB161_176.out _; (with_reducible repeat first | apply qA | apply qC | apply qB); refine qG ?_ NB161_176.out _; (with_reducible repeat first | apply qA | apply qC | apply qB); exact BK161.out) hb); have n3_ := qH (qD (g := gb162) (o := .cells #[.int .i64 a1_0, .slice A1_1 l1_1.length c1_1, .string a1_2] 32 (0, 0)) (by (with_reducible repeat first | apply qA | apply qC | apply qB); refine qG ?_ NB162_176.out _; (with_reducible repeat first | apply qA | apply qC | apply qB); refine qG ?_ NB162_176.out _; (with_reducible repeat first | apply qA | apply qC | apply qB); refine qG ?_ NB162_176.out _; (with_reducible repeat first | apply qA | apply qC | apply qB); refine qG ?_ NB162_176.out _; (with_reducible repeat first | apply qA | apply qC | apply qB); exact BK162.out) hb); have n4_ := qH (qD (g := gb176) (o := .cells #[.string t168, .string t169, .slice Ao53 t170.length co53, .string t173] 25 (0, 0)) (by (with_reducible repeat first | apply qA | apply qC | apply qB); refine blk_put (cs := #[.string t168, .string t169, .slice Ao53 t170.length co53, .string (⟨#[]⟩ : ByteArray)]) ?_ 3 _ rfl; (with_reducible repeat first | apply qA | apply qC | apply qB); refine blk_put (cs := #[.string t168, .string t169, .slice none 0 0, .string (⟨#[]⟩ : ByteArray)]) ?_ 2 _ rfl; (with_reducible repeat first | apply qA | apply qC | apply qB); refine blk_put (cs := #[.string t168, .string (⟨#[]⟩ : ByteArray), .slice none 0 0, .string (⟨#[]⟩ : ByteArray)]) ?_ 1 _ rfl; (with_reducible repeat first | apply qA | apply qC | apply qB); refine blk_put (cs := #[.string (⟨#[]⟩ : ByteArray), .string (⟨#[]⟩ : ByteArray), .slice none 0 0, .string (⟨#[]⟩ : ByteArray)]) ?_ 0 _ rfl; (with_reducible repeat first | apply qA | apply qC | apply qB); exact BK176.out) hb); have n5_ := qH (below_step zz17 hb); clear HO172; clear BK161; clear BK162; clear BK176; clear HB; have HO172 := n0_; have HO181 := n1_; have BK161 := n2_; have BK162 := n3_; have BK176 := n4_; have HB := n5_; clear n0_ n1_ n2_ n3_ n4_ n5_; (try clear hb); (try clear hb2); (try clear hk); (try clear hi); (try clear ho0)) | ((with_reducible refine gate_dst (N := 14) rfl ?_); (try (refine gate_guard (by rfl) ?_; dsimp only)); refine box_event ?hg (N := 14) ?hd (cs := #[.string (⟨#[]⟩ : ByteArray), .string (⟨#[]⟩ : ByteArray), .slice none 0 0, .string (⟨#[]⟩ : ByteArray)]) (t := 25) ?hr ?_; (case hd => rfl); (case hg => rfl); (case hr => first | (go_simp; done) | (go_simp; rfl) | (go_simp; simp [IntKind.wrap_u32]; done)); intro gb185 hg w55 hbox hb; have n0_ := qH (Kd.R_below (by (with_reducible repeat (first | apply Kd.R_alloc | apply Kd.R_drewN | apply Kd.R_drew)); exact HO172.out) hb); have n1_ := qH (Kd.R_below (by (with_reducible repeat (first | apply Kd.R_alloc | apply Kd.R_drewN | apply Kd.R_drew)); exact HO181.out) hb); have n2_ := qH (qD (g := gb161) zz4 hb); have n3_ := qH (qD (g := gb162) zz5 hb); have n4_ := qH (qD (g := gb176) (by (with_reducible repeat first | apply qA | apply qC | apply qB); exact BK176.out) hb); have n5_ := qH (below_step zz17 hb); have n6_ := qH (hbox); have n7_ := qH ((by rw [hg]; exact (below_size zz17) : w.heap.size ≤ gb185)); have n8_ := n7_; have n9_ := qH ((by rw [hg]; exact qN (blk_lt (g := gb161) zz4) : gb161 ≠ gb185)); have n10_ := qH ((by rw [hg]; exact Nat.ne_of_gt (blk_lt (g := gb161) zz4) : gb185 ≠ gb161)); have n11_ := qH ((by rw [hg]; exact qN (blk_lt (g := gb162) zz5) : gb162 ≠ gb185)); have n12_ := qH ((by rw [hg]; exact Nat.ne_of_gt (blk_lt (g := gb162) zz5) : gb185 ≠ gb162)); have n13_ := qH ((by rw [hg]; exact qN (blk_lt (g := gb176) (by (with_reducible repeat first | apply qA | apply qC | apply qB); exact BK176.out)) : gb176 ≠ gb185)); have n14_ := qH ((by rw [hg]; exact Nat.ne_of_gt (blk_lt (g := gb176) (by (with_reducible repeat first | apply qA | apply qC | apply qB); exact BK176.out)) : gb185 ≠ gb176)); clear HO172; clear HO181; clear BK161; clear BK162; clear BK176; clear HB; have HO172 := n0_; have HO181 := n1_; have BK161 := n2_; have BK162 := n3_; have BK176 := n4_; have HB := n5_; have BK185 := n6_; have GW185 := n7_; have GE185 := n8_; have NB161_185 := n9_; have NB185_161 := n10_; have NB162_185 := n11_; have NB185_162 := n12_; have NB176_185 := n13_; have NB185_176 := n14_; clear n0_ n1_ n2_ n3_ n4_ n5_ n6_ n7_ n8_ n9_ n10_ n11_ n12_ n13_ n14_; clear hb hbox hg; have hnb56 := NB185_161.out; have hnc56 := NB161_185.out; have hnb57 := NB185_162.out; have hnc57 := NB162_185.out; have hnb58 := NB185_176.out; have hnc58 := NB176_185.out; obtain ⟨hcz59_0, hcz59_1, hcz59_2, hcz59_3⟩ := qc4 BK185.out; obtain ⟨hfz59_0, hfz59_1, hfz59_2, hfz59_3⟩ := qf4 BK185.out; obtain ⟨Ao60, co60, eo60⟩ := Kd.R_slice HO181.out; subst eo60; obtain ⟨hcz61_0, hcz61_1, hcz61_2, hcz61_3⟩ := qc4 BK176.out; obtain ⟨hfz61_0, hfz61_1, hfz61_2, hfz61_3⟩ := qf4 BK176.out; have hnb62 := NB161_162.out; have hnc62 := NB162_161.out; obtain ⟨hcz63_0, hcz63_1, hcz63_2, hcz63_3⟩ := qc4 BK161.out; obtain ⟨hfz63_0, hfz63_1, hfz63_2, hfz63_3⟩ := qf4 BK161.out) | ((with_reducible refine gate_callee (f := 14) rfl ?_); refine goesL_ (some 84) rfl rfl Tryz.func14 (by kernel_rfl) rfl #[.agg #[.string t168, .string t169, .slice Ao53 t170.length co53, .string t173], .agg #[.string a0_0, .string a0_1, .slice A0_2 l0_2.length c0_2, .string a0_3]] rfl zz0 ?_; (with_reducible refine (codicillaw29_Requests.calls kj27 t168 t169 _ _ t170 t173 a0_0 a0_1 _ _ l0_2 a0_3 true _ ?side1 ?side2 ?side3 ?side4 A42.out).mono ?_); (case side1 => refine (Kd.R_reads' (e := 59) (base := w.heap.size) (ok := fun k_ => (True ∧ some k_ ≠ (.slice Ao60 t179.length co60 : Value).ownBlock)) (n := t170.length) (c := co53) ?_).2.2; exact zz27); (case side2 => exact (Kd.R_reads' HO172.out).2.1); (case side3 => exact Kd.C_below HR0_2.out (by repeat (first | (with_reducible first | exact HB.out | apply qL | apply qJ | apply qK | refine qI ?_ GE161.out | refine qI ?_ GE162.out | refine qI ?_ GE176.out | refine qI ?_ GE185.out) | exact HB.out))); (case side4 => exact HC0_2.out); rintro e w64 ⟨rfl, hb⟩; refine ⟨_, rfl, ?_⟩; have n0_ := qH (Kd.R_below zz27 hb); have n1_ := qH (Kd.R_below (by (with_reducible repeat (first | apply Kd.R_alloc | apply Kd.R_drewN | apply Kd.R_drew)); exact (Kd.R_mono (Kd.R_far (p := ⟨gb185, 3, none⟩) (Kd.R_far (p := ⟨gb185, 2, none⟩) (Kd.R_far (p := ⟨gb185, 1, none⟩) (Kd.R_far (p := ⟨gb185, 0, none⟩) (Kd.R_types HO181.out BK185.out (by decide)) (fun _ hk => hk.2) (.string t177)) (fun _ hk => hk.2) (.string t178)) (fun _ hk => hk.2) (.slice Ao60 t179.length co60)) (fun _ hk => hk.2) (.string t182)) (fun _ h_ => h_.1))) hb); have n2_ := qH (qD (g := gb161) (o := .cells #[.string a0_0, .string a0_1, .slice A0_2 l0_2.length c0_2, .string a0_3] 25 (0, 0)) (by (with_reducible repeat first | apply qA | apply qC | apply qB); refine qG ?_ NB161_185.out _; (with_reducible repeat first | apply qA | apply qC | apply qB); refine qG ?_ NB161_185.out _; (with_reducible repeat first | apply qA | apply qC | apply qB); refine qG ?_ NB161_185.out _; (with_reducible repeat first | apply qA | apply qC | apply qB); refine qG ?_ NB161_185.out _; (with_reducible repeat first | apply qA | apply qC | apply qB); exact BK161.out) hb); have n3_ := qH (qD (g := gb162) (o := .cells #[.int .i64 a1_0, .slice A1_1 l1_1.length c1_1, .string a1_2] 32 (0, 0)) (by (with_reducible repeat first | apply qA | apply qC | apply qB); refine qG ?_ NB162_185.out _; (with_reducible repeat first | apply qA | apply qC | apply qB); refine qG ?_ NB162_185.out _; (with_reducible repeat first | apply qA | apply qC | apply qB); refine qG ?_ NB162_185.out _; (with_reducible repeat first | apply qA | apply qC | apply qB); refine qG ?_ NB162_185.out _; (with_reducible repeat first | apply qA | apply qC | apply qB); exact BK162.out) hb); have n4_ := qH (qD (g := gb176) (o := .cells #[.string t168, .string t169, .slice Ao53 t170.length co53, .string t173] 25 (0, 0)) (by (with_reducible repeat first | apply qA | apply qC | apply qB); refine qG ?_ NB176_185.out _; (with_reducible repeat first | apply qA | apply qC | apply qB); refine qG ?_ NB176_185.out _; (with_reducible repeat first | apply qA | apply qC | apply qB); refine qG ?_ NB176_185.out _; (with_reducible repeat first | apply qA | apply qC | apply qB); refine qG ?_ NB176_185.out _; (with_reducible repeat first | apply qA | apply qC | apply qB); exact BK176.out) hb); have n5_ := qH (qD (g := gb185) (o := .cells #[.string t177, .string t178, .slice Ao60 t179.length co60, .string t182] 25 (0, 0)) (by (with_reducible repeat first | apply qA | apply qC | apply qB); refine blk_put (cs := #[.string t177, .string t178, .slice Ao60 t179.length co60, .string (⟨#[]⟩ : ByteArray)]) ?_ 3 _ rfl; (with_reducible repeat first | apply qA | apply qC | apply qB); refine blk_put (cs := #[.string t177, .string t178, .slice none 0 0, .string (⟨#[]⟩ : ByteArray)]) ?_ 2 _ rfl; (with_reducible repeat first | apply qA | apply qC | apply qB); refine blk_put (cs := #[.string t177, .string (⟨#[]⟩ : ByteArray), .slice none 0 0, .string (⟨#[]⟩ : ByteArray)]) ?_ 1 _ rfl; (with_reducible repeat first | apply qA | apply qC | apply qB); refine blk_put (cs := #[.string (⟨#[]⟩ : ByteArray), .string (⟨#[]⟩ : ByteArray), .slice none 0 0, .string (⟨#[]⟩ : ByteArray)]) ?_ 0 _ rfl; (with_reducible repeat first | apply qA | apply qC | apply qB); exact BK185.out) hb); have n6_ := qH (below_step (by repeat (first | (with_reducible first | exact HB.out | apply qL | apply qJ | apply qK | refine qI ?_ GE161.out | refine qI ?_ GE162.out | refine qI ?_ GE176.out | refine qI ?_ GE185.out) | exact HB.out)) hb); clear HO172; clear HO181; clear BK161; clear BK162; clear BK176; clear BK185; clear HB; have HO172 := n0_; have HO181 := n1_; have BK161 := n2_; have BK162 := n3_; have BK176 := n4_; have BK185 := n5_; have HB := n6_; clear n0_ n1_ n2_ n3_ n4_ n5_ n6_; (try clear hb); (try clear hb2); (try clear hk); (try clear hi)))
                 go_meet
                 case rel => exact ⟨_, H', ⟨by have := HJ4.out; have := HJ27.out; first | omega | exact Nat.le_refl _⟩, ⟨by (with_reducible repeat first | apply qA | apply qC | apply qB); exact BK161.out⟩, ⟨by (with_reducible repeat first | apply qA | apply qC | apply qB); exact BK162.out⟩, ⟨by repeat (first | (with_reducible first | exact HB.out | apply qL | apply qJ | apply qK | refine qI ?_ GE161.out | refine qI ?_ GE162.out | refine qI ?_ GE176.out | refine qI ?_ GE185.out) | exact HB.out)⟩⟩
                ·rw [if_neg c47] at H
                 have c47b0 : (t184 == 290) = false := beq_eq_false_iff_ne.mpr c47
                 have c47b1 : (t184 != 290) = true := bne_iff_ne.mpr c47
                 obtain rfl := Option.some.inj H
                 exact absurd hTrue.out (by decide)
               ·rw [if_neg c46] at H
                have c46b0 : (t183 == 0) = false := beq_eq_false_iff_ne.mpr c46
                have c46b1 : (t183 != 0) = true := bne_iff_ne.mpr c46
                obtain rfl := Option.some.inj H
                exact absurd hTrue.out (by decide)
              ·rw [if_neg c45] at H
               have c45b0 : (t175 == 0) = false := beq_eq_false_iff_ne.mpr c45
               have c45b1 : (t175 != 0) = true := bne_iff_ne.mpr c45
               obtain rfl := Option.some.inj H
               exact absurd hTrue.out (by decide)
             ·rw [if_neg c44] at H
              have c44b0 : (t174 == (t166.size : Int)) = false := beq_eq_false_iff_ne.mpr c44
              have c44b1 : (t174 != (t166.size : Int)) = true := bne_iff_ne.mpr c44
              obtain rfl := Option.some.inj H
              exact absurd hTrue.out (by decide)
            ·replace c43 := Bool.eq_false_iff.mpr c43
             subst c43
             have H1 : (some false) = some r := by rw [if_neg (show ¬ (false = true) by decide)] at H; exact H
             clear H
             have H := H1
             clear H1
             obtain rfl := Option.some.inj H
             exact absurd hTrue.out (by decide)
           ·rw [if_neg c40] at H
            exact absurd H (by simp)
          ·rw [if_neg c39] at H
           exact absurd H (by simp)
        ·rw [if_neg c35] at H
         exact absurd H (by simp)
       ·replace c34 := Bool.eq_false_iff.mpr c34
        subst c34
        have H1 : (codicillaw29_HttpBack.j2 kj27 a2 a3 a1_0 l1_1 a1_2) = some r := by rw [if_neg (show ¬ (false = true) by decide)] at H; exact H
        clear H
        have H := H1
        clear H1
        have H' := qH H
        clear H
        go_wp2
        go_meet
        case rel => exact ⟨_, H', ⟨by have := HJ4.out; have := HJ27.out; first | omega | exact Nat.le_refl _⟩, ⟨by (with_reducible repeat first | apply qA | apply qC | apply qB); exact BK161.out⟩, ⟨by (with_reducible repeat first | apply qA | apply qC | apply qB); exact BK162.out⟩, ⟨by repeat (first | (with_reducible first | exact HB.out | apply qL | apply qJ | apply qK | refine qI ?_ GE161.out | refine qI ?_ GE162.out) | exact HB.out)⟩⟩
      case rest =>
       clear HC33
       try clear c1
       try clear c2
       try clear p2
       try clear c3
       try clear c4
       try clear c5
       try clear c6
       try clear p6
       try clear c7
       try clear c9
       try clear c10
       try clear c13
       try clear c14
       try clear c17
       try clear c17b0
       try clear c18
       try clear c19
       try clear c20
       try clear c21
       try clear c24
       try clear c29
       try clear c32
       try clear c32b0
       try clear c32b1
       try clear c34
       try clear c35
       try clear c35b0
       try clear c35b1
       try clear c35b2
       try clear c37
       try clear c37b0
       try clear c37b1
       try clear c39
       try clear c39b0
       try clear c39b1
       try clear c40
       try clear c40b0
       try clear c40b1
       try clear c43
       try clear c44
       try clear c44b0
       try clear c44b1
       try clear c45
       try clear c45b0
       try clear c45b1
       try clear c46
       try clear c46b0
       try clear c46b1
       try clear c47
       try clear c47b0
       try clear c47b1
       try clear c50
       try clear c51
       try clear c56
       try clear c57
       try clear c58
       try clear c62
       try clear p64
       try clear hcz11_0
       try clear hcz11_1
       try clear hcz11_2
       try clear hcz11_3
       try clear hcz15_0
       try clear hcz15_1
       try clear hcz15_2
       try clear hcz15_3
       try clear hcz16_0
       try clear hcz16_1
       try clear hcz16_2
       try clear hcz19_0
       try clear hcz19_1
       try clear hcz19_2
       try clear hcz19_3
       try clear hcz20_0
       try clear hcz20_1
       try clear hcz20_2
       try clear hcz22_0
       try clear hcz22_1
       try clear hcz22_2
       try clear hcz22_3
       try clear hcz23_0
       try clear hcz23_1
       try clear hcz23_2
       try clear hcz30_0
       try clear hcz30_1
       try clear hcz30_2
       try clear hcz30_3
       try clear hcz52_0
       try clear hcz52_1
       try clear hcz52_2
       try clear hcz52_3
       try clear hcz59_0
       try clear hcz59_1
       try clear hcz59_2
       try clear hcz59_3
       try clear hcz61_0
       try clear hcz61_1
       try clear hcz61_2
       try clear hcz61_3
       try clear hcz63_0
       try clear hcz63_1
       try clear hcz63_2
       try clear hcz63_3
       try clear hfz11_0
       try clear hfz11_1
       try clear hfz11_2
       try clear hfz11_3
       try clear hfz15_0
       try clear hfz15_1
       try clear hfz15_2
       try clear hfz15_3
       try clear hfz16_0
       try clear hfz16_1
       try clear hfz16_2
       try clear hfz19_0
       try clear hfz19_1
       try clear hfz19_2
       try clear hfz19_3
       try clear hfz20_0
       try clear hfz20_1
       try clear hfz20_2
       try clear hfz22_0
       try clear hfz22_1
       try clear hfz22_2
       try clear hfz22_3
       try clear hfz23_0
       try clear hfz23_1
       try clear hfz23_2
       try clear hfz30_0
       try clear hfz30_1
       try clear hfz30_2
       try clear hfz30_3
       try clear hfz52_0
       try clear hfz52_1
       try clear hfz52_2
       try clear hfz52_3
       try clear hfz59_0
       try clear hfz59_1
       try clear hfz59_2
       try clear hfz59_3
       try clear hfz61_0
       try clear hfz61_1
       try clear hfz61_2
       try clear hfz61_3
       try clear hfz63_0
       try clear hfz63_1
       try clear hfz63_2
       try clear hfz63_3
       try clear p2
       try clear p6
       obtain ⟨kq, HA, HJ32, BK161, BK162, HB⟩ := hcut
       cases kq with
       | zero => exact absurd HA.out (by simp [codicillaw29_HttpBack.j2])
       | succ kj32 =>
        have H := HA.out
        clear HA
        simp only [codicillaw29_HttpBack.j2] at H
        replace H := Option.bind_eq_some_iff.mp H
        obtain ⟨⟨t187, t188⟩, A650, H⟩ := H
        (try dsimp only at H)
        have A65 := qH A650
        clear A650
        have HC66 := qH H
        clear H
        have hnb67 := NB162_161.out
        have hnc67 := NB161_162.out
        have hcz68_0 : wc.cell? ⟨gb162, 0, none⟩ = some (.int .i64 a1_0) := (qE BK162.out 0).trans rfl
        have hcz68_1 : wc.cell? ⟨gb162, 1, none⟩ = some (.slice A1_1 l1_1.length c1_1) := (qE BK162.out 1).trans rfl
        have hcz68_2 : wc.cell? ⟨gb162, 2, none⟩ = some (.string a1_2) := (qE BK162.out 2).trans rfl
        have hfz68_0 := qF BK162.out 0
        have hfz68_1 := qF BK162.out 1
        have hfz68_2 := qF BK162.out 2
        go_upto_region 10 with (first | ((with_reducible refine gate_callee (f := 22) rfl ?_); refine goesL_ (some 106) rfl rfl Tryz.func22 (by kernel_rfl) rfl #[.agg #[.int .i64 a1_0, .slice A1_1 l1_1.length c1_1, .string a1_2]] rfl zz0 ?_; (with_reducible refine (http_Write.calls a1_0 _ _ l1_1 a1_2 t187 t188 _ ?side1 ?side2 A65.out (HL.later zz3)).mono ?_); (case side1 => repeat (first | exact (Kd.C_below HR1_1.out HB.out) | (with_reducible refine Kd.C_alloc ?_ _) | (with_reducible refine Kd.C_drewN ?_ _) | (with_reducible refine Kd.C_drew ?_))); (case side2 => exact HC1_1.out); rintro e w69 ⟨rfl, hb⟩; refine ⟨_, rfl, ?_⟩; have n0_ := qH (qD (g := gb161) zz4 hb); have n1_ := qH (qD (g := gb162) zz5 hb); have n2_ := qH (below_step zz2 hb); clear BK161; clear BK162; clear HB; have BK161 := n0_; have BK162 := n1_; have HB := n2_; clear n0_ n1_ n2_; (try clear hb); (try clear hb2); (try clear hk); (try clear hi)))
        (try simp only [Act.put, List.setIfInBounds_toArray, List.set_cons_zero, List.set_cons_succ])
        go_cut [114] (fun v114 wc => ∃ (kq : Nat) (x114_65 : Bool), v114 = .bool x114_65 ∧ Aside0 (codicillaw29_HttpBack.j3 kq a2 a3 t187 x114_65 a1_0 l1_1 a1_2 = some r) ∧ Aside0 (kq ≤ kj32) ∧ Aside0 (wc.heap[gb161]? = some (.cells #[.string a0_0, .string a0_1, (.slice A0_2 l0_2.length c0_2), .string a0_3] 25 (0, 0))) ∧ Aside0 (wc.heap[gb162]? = some (.cells #[.int .i64 a1_0, (.slice A1_1 l1_1.length c1_1), .string a1_2] 32 (0, 0))) ∧ Aside0 (Below w.heap.size w wc))
        case first =>
         have H := HC66.out
         clear HC66
         by_cases c70 : t188 = 0
         ·rw [if_pos c70] at H
          have c70b0 : (t188 == 0) = true := beq_iff_eq.mpr c70
          have c70b1 : (t188 != 0) = false := bne_eq_false_iff_eq.mpr c70
          clear c70
          (first | rw [c70b0] | (simp only [i64_w, i32_w]; rw [c70b0]) | skip)
          have H' := qH H
          clear H
          go_wp2
          go_meet
          case rel => exact ⟨_, ((t187.toList != ([] : List UInt8))), zz9, H', ⟨by have := HJ4.out; have := HJ27.out; have := HJ32.out; first | omega | exact Nat.le_refl _⟩, ⟨by (with_reducible repeat first | apply qA | apply qC | apply qB); exact BK161.out⟩, ⟨by (with_reducible repeat first | apply qA | apply qC | apply qB); exact BK162.out⟩, ⟨by repeat (first | (with_reducible first | exact HB.out | apply qL | apply qJ | apply qK | refine qI ?_ GE161.out | refine qI ?_ GE162.out) | exact HB.out)⟩⟩
         ·rw [if_neg c70] at H
          have c70b0 : (t188 == 0) = false := beq_eq_false_iff_ne.mpr c70
          have c70b1 : (t188 != 0) = true := bne_iff_ne.mpr c70
          (first | rw [c70b0] | (simp only [i64_w, i32_w]; rw [c70b0]) | skip)
          have H' := qH H
          clear H
          go_wp2
          go_meet
          case rel => exact ⟨_, (false), zz9, H', ⟨by have := HJ4.out; have := HJ27.out; have := HJ32.out; first | omega | exact Nat.le_refl _⟩, ⟨by (with_reducible repeat first | apply qA | apply qC | apply qB); exact BK161.out⟩, ⟨by (with_reducible repeat first | apply qA | apply qC | apply qB); exact BK162.out⟩, ⟨by repeat (first | (with_reducible first | exact HB.out | apply qL | apply qJ | apply qK | refine qI ?_ GE161.out | refine qI ?_ GE162.out) | exact HB.out)⟩⟩
        case rest =>
         clear HC66
         try clear c1
         try clear c2
         try clear p2
         try clear c3
         try clear c4
         try clear c5
         try clear c6
         try clear p6
         try clear c7
         try clear c9
         try clear c10
         try clear c13
         try clear c14
         try clear c17
         try clear c17b0
         try clear c18
         try clear c19
         try clear c20
         try clear c21
         try clear c22
         try clear c24
         try clear c29
         try clear c32
         try clear c32b0
         try clear c32b1
         try clear c34
         try clear c35
         try clear c35b0
         try clear c35b1
         try clear c35b2
         try clear c37
         try clear c37b0
         try clear c37b1
         try clear c39
         try clear c39b0
         try clear c39b1
         try clear c40
         try clear c40b0
         try clear c40b1
         try clear c43
         try clear c44
         try clear c44b0
         try clear c44b1
         try clear c45
         try clear c45b0
         try clear c45b1
         try clear c46
         try clear c46b0
         try clear c46b1
         try clear c47
         try clear c47b0
         try clear c47b1
         try clear c50
         try clear c51
         try clear c56
         try clear c57
         try clear c58
         try clear c62
         try clear p64
         try clear c67
         try clear c70
         try clear c70b0
         try clear c70b1
         try clear hcz11_0
         try clear hcz11_1
         try clear hcz11_2
         try clear hcz11_3
         try clear hcz15_0
         try clear hcz15_1
         try clear hcz15_2
         try clear hcz15_3
         try clear hcz16_0
         try clear hcz16_1
         try clear hcz16_2
         try clear hcz19_0
         try clear hcz19_1
         try clear hcz19_2
         try clear hcz19_3
         try clear hcz20_0
         try clear hcz20_1
         try clear hcz20_2
         try clear hcz22_0
         try clear hcz22_1
         try clear hcz22_2
         try clear hcz22_3
         try clear hcz23_0
         try clear hcz23_1
         try clear hcz23_2
         try clear hcz30_0
         try clear hcz30_1
         try clear hcz30_2
         try clear hcz30_3
         try clear hcz52_0
         try clear hcz52_1
         try clear hcz52_2
         try clear hcz52_3
         try clear hcz59_0
         try clear hcz59_1
         try clear hcz59_2
         try clear hcz59_3
         try clear hcz61_0
         try clear hcz61_1
         try clear hcz61_2
         try clear hcz61_3
         try clear hcz63_0
         try clear hcz63_1
         try clear hcz63_2
         try clear hcz63_3
         try clear hcz68_0
         try clear hcz68_1
         try clear hcz68_2
         try clear hfz11_0
         try clear hfz11_1
         try clear hfz11_2
         try clear hfz11_3
         try clear hfz15_0
         try clear hfz15_1
         try clear hfz15_2
         try clear hfz15_3
         try clear hfz16_0
         try clear hfz16_1
         try clear hfz16_2
         try clear hfz19_0
         try clear hfz19_1
         try clear hfz19_2
         try clear hfz19_3
         try clear hfz20_0
         try clear hfz20_1
         try clear hfz20_2
         try clear hfz22_0
         try clear hfz22_1
         try clear hfz22_2
         try clear hfz22_3
         try clear hfz23_0
         try clear hfz23_1
         try clear hfz23_2
         try clear hfz30_0
         try clear hfz30_1
         try clear hfz30_2
         try clear hfz30_3
         try clear hfz52_0
         try clear hfz52_1
         try clear hfz52_2
         try clear hfz52_3
         try clear hfz59_0
         try clear hfz59_1
         try clear hfz59_2
         try clear hfz59_3
         try clear hfz61_0
         try clear hfz61_1
         try clear hfz61_2
         try clear hfz61_3
         try clear hfz63_0
         try clear hfz63_1
         try clear hfz63_2
         try clear hfz63_3
         try clear hfz68_0
         try clear hfz68_1
         try clear hfz68_2
         try clear p2
         try clear p6
         try clear p64
         obtain ⟨kq, x114_65, rfl, HA, HJ65, BK161, BK162, HB⟩ := hcut
         cases kq with
         | zero => exact absurd HA.out (by simp [codicillaw29_HttpBack.j3])
         | succ kj65 =>
          have H := HA.out
          clear HA
          simp only [codicillaw29_HttpBack.j3] at H
          by_cases c71 : x114_65 = true
          ·subst c71
           have H1 : (if t187.size + a3.size ≤ 9223372036854775807 then ((http_Told.f (t187 ++ a3)).bind fun bt189 => (if (t187.size : Int) = 0 then (none) else (if 0 ≤ (Int.tmod (wrap64 (a2)) (t187.size : Int)) then (if (Int.tmod (wrap64 (a2)) (t187.size : Int)) ≤ (t187.size : Int) then ((http_Told.f (t187.extract 0 ((Int.tmod (wrap64 (a2)) (t187.size : Int)) : Int).toNat)).bind fun bt197 => ((codicillaw29_Responses.f kj65 bt189.1 bt189.2.1 bt189.2.2.1 a1_0 l1_1 a1_2).bind fun t205 => (if t205 = true then (if bt189.2.2.2.1 = (t187.size : Int) then (if bt189.2.2.2.2 = 0 then (if bt197.2.2.2.1 = 0 then (if bt197.2.2.2.2 = 290 then ((codicillaw29_alive.f kj65).bind fun t206 => (some t206)) else (some false)) else (some false)) else (some false)) else (some false)) else (some false)))) else (none)) else (none)))) else (none)) = some r := by rw [if_pos rfl] at H; exact H
           clear H
           have H := H1
           clear H1
           by_cases c72 : t187.size + a3.size ≤ 9223372036854775807
           ·rw [if_pos c72] at H
            have c72b0 := eq_true c72
            have c72b1 : decide (t187.size + a3.size ≤ 9223372036854775807) = true := decide_eq_true c72
            try have c72b2 : (9223372036854775807 < t187.size + a3.size) = False := eq_false (Nat.not_lt.2 c72)
            replace H := Option.bind_eq_some_iff.mp H
            obtain ⟨⟨t189, t190, t193, t194, t195⟩, A730, H⟩ := H
            (try dsimp only at H)
            have A73 := qH A730
            clear A730
            by_cases c74 : (t187.size : Int) = 0
            ·rw [if_pos c74] at H
             exact absurd H (by simp)
            ·rw [if_neg c74] at H
             have c74b0 : ((t187.size : Int) == 0) = false := beq_eq_false_iff_ne.mpr c74
             have c74b1 : ((t187.size : Int) != 0) = true := bne_iff_ne.mpr c74
             obtain ⟨ji75, hji75⟩ : ∃ j_ : Int, (Int.tmod (wrap64 (a2)) (t187.size : Int)) = j_ := ⟨_, rfl⟩
             replace H : (if 0 ≤ (ji75) then (if (ji75) ≤ (t187.size : Int) then ((http_Told.f (t187.extract 0 ((ji75) : Int).toNat)).bind fun bt197 => ((codicillaw29_Responses.f kj65 t189 t190 t193 a1_0 l1_1 a1_2).bind fun t205 => (if t205 = true then (if t194 = (t187.size : Int) then (if t195 = 0 then (if bt197.2.2.2.1 = 0 then (if bt197.2.2.2.2 = 290 then ((codicillaw29_alive.f kj65).bind fun t206 => (some t206)) else (some false)) else (some false)) else (some false)) else (some false)) else (some false)))) else (none)) else (none)) = some r := by first | (rw [hji75] at H; exact H) | (simp only [hji75] at H ⊢; exact H)
             (try rw [hji75] at A73)
             by_cases c76 : 0 ≤ (ji75)
             ·rw [if_pos c76] at H
              have c76b0 := eq_true c76
              have c76b1 : decide (0 ≤ (ji75)) = true := decide_eq_true c76
              clear c76
              by_cases c77 : (ji75) ≤ (t187.size : Int)
              ·rw [if_pos c77] at H
               have c77b0 := eq_true c77
               have c77b1 : decide ((ji75) ≤ (t187.size : Int)) = true := decide_eq_true c77
               clear c77
               replace H := Option.bind_eq_some_iff.mp H
               obtain ⟨⟨t197, t198, t201, t202, t203⟩, A780, H⟩ := H
               (try dsimp only at H)
               have A78 := qH A780
               clear A780
               replace H := Option.bind_eq_some_iff.mp H
               obtain ⟨t205, A790, H⟩ := H
               (try dsimp only at H)
               have A79 := qH A790
               clear A790
               by_cases c80 : t205 = true
               ·subst c80
                have H1 : (if t194 = (t187.size : Int) then (if t195 = 0 then (if t202 = 0 then (if t203 = 290 then ((codicillaw29_alive.f kj65).bind fun t206 => (some t206)) else (some false)) else (some false)) else (some false)) else (some false)) = some r := by rw [if_pos rfl] at H; exact H
                clear H
                have H := H1
                clear H1
                by_cases c81 : t194 = (t187.size : Int)
                ·rw [if_pos c81] at H
                 have c81b0 : (t194 == (t187.size : Int)) = true := beq_iff_eq.mpr c81
                 have c81b1 : (t194 != (t187.size : Int)) = false := bne_eq_false_iff_eq.mpr c81
                 clear c81
                 by_cases c82 : t195 = 0
                 ·rw [if_pos c82] at H
                  have c82b0 : (t195 == 0) = true := beq_iff_eq.mpr c82
                  have c82b1 : (t195 != 0) = false := bne_eq_false_iff_eq.mpr c82
                  clear c82
                  by_cases c83 : t202 = 0
                  ·rw [if_pos c83] at H
                   have c83b0 : (t202 == 0) = true := beq_iff_eq.mpr c83
                   have c83b1 : (t202 != 0) = false := bne_eq_false_iff_eq.mpr c83
                   clear c83
                   by_cases c84 : t203 = 290
                   ·rw [if_pos c84] at H
                    have c84b0 : (t203 == 290) = true := beq_iff_eq.mpr c84
                    have c84b1 : (t203 != 290) = false := bne_eq_false_iff_eq.mpr c84
                    clear c84
                    replace H := Option.bind_eq_some_iff.mp H
                    obtain ⟨t206, A850, H⟩ := H
                    (try dsimp only at H)
                    have A85 := qH A850
                    clear A850
                    obtain rfl := Option.some.inj H
                    simp only [Option.some.injEq, Prod.mk.injEq] at H
                    obtain ⟨rfl⟩ := H
                    go_wp2_with (first | ((with_reducible refine gate_callee (f := 12) rfl ?_); refine goesL_ (some 119) rfl rfl Tryz.func12 (by kernel_rfl) rfl #[.string (t187 ++ a3)] rfl zz0 ?_; (with_reducible refine (http_Told.calls (t187 ++ a3) t189 t190 t193 t194 t195 _ A73.out (HL.later zz3)).mono ?_); rintro e w86 ⟨v191, rfl, ho0, hb⟩; refine ⟨_, rfl, ?_⟩; have n0_ := qH (Kd.R_lower ho0 (below_size zz2)); have n1_ := qH (qD (g := gb161) zz4 hb); have n2_ := qH (qD (g := gb162) zz5 hb); have n3_ := qH (below_step zz2 hb); clear BK161; clear BK162; clear HB; have HO192 := n0_; have BK161 := n1_; have BK162 := n2_; have HB := n3_; clear n0_ n1_ n2_ n3_; (try clear hb); (try clear hb2); (try clear hk); (try clear hi); (try clear ho0)) | ((with_reducible refine gate_dst (N := 17) rfl ?_); (try (refine gate_guard (by rfl) ?_; dsimp only)); refine box_event ?hg (N := 17) ?hd (cs := #[.int .i64 0, .slice none 0 0, .string (⟨#[]⟩ : ByteArray)]) (t := 32) ?hr ?_; (case hd => rfl); (case hg => rfl); (case hr => first | (go_simp; done) | (go_simp; rfl) | (go_simp; simp [IntKind.wrap_u32]; done)); intro gb196 hg w87 hbox hb; have n0_ := qH (Kd.R_below (by (with_reducible repeat (first | apply Kd.R_alloc | apply Kd.R_drewN | apply Kd.R_drew)); exact HO192.out) hb); have n1_ := qH (qD (g := gb161) zz4 hb); have n2_ := qH (qD (g := gb162) zz5 hb); have n3_ := qH (below_step zz2 hb); have n4_ := qH (hbox); have n5_ := qH ((by rw [hg]; exact (below_size zz2) : w.heap.size ≤ gb196)); have n6_ := n5_; have n7_ := qH ((by rw [hg]; exact qN (blk_lt (g := gb161) zz4) : gb161 ≠ gb196)); have n8_ := qH ((by rw [hg]; exact Nat.ne_of_gt (blk_lt (g := gb161) zz4) : gb196 ≠ gb161)); have n9_ := qH ((by rw [hg]; exact qN (blk_lt (g := gb162) zz5) : gb162 ≠ gb196)); have n10_ := qH ((by rw [hg]; exact Nat.ne_of_gt (blk_lt (g := gb162) zz5) : gb196 ≠ gb162)); clear HO192; clear BK161; clear BK162; clear HB; have HO192 := n0_; have BK161 := n1_; have BK162 := n2_; have HB := n3_; have BK196 := n4_; have GW196 := n5_; have GE196 := n6_; have NB161_196 := n7_; have NB196_161 := n8_; have NB162_196 := n9_; have NB196_162 := n10_; clear n0_ n1_ n2_ n3_ n4_ n5_ n6_ n7_ n8_ n9_ n10_; clear hb hbox hg; have hnb88 := NB196_161.out; have hnc88 := NB161_196.out; have hnb89 := NB196_162.out; have hnc89 := NB162_196.out; obtain ⟨hcz90_0, hcz90_1, hcz90_2⟩ := qc3 BK196.out; obtain ⟨hfz90_0, hfz90_1, hfz90_2⟩ := qf3 BK196.out; obtain ⟨Ao91, co91, eo91⟩ := Kd.R_slice HO192.out; subst eo91) | ((with_reducible refine gate_callee (f := 12) rfl ?_); refine goesL_ (some 131) rfl rfl Tryz.func12 (by kernel_rfl) rfl #[.string (t187.extract 0 ((ji75) : Int).toNat)] rfl (by (try simp only [List.map_toArray, List.map_cons, List.map_nil]); first | done | (simp only [hji75]; rfl) | rfl | (simp only [List.length_drop, List.length_take]; rfl)) ?_; (with_reducible refine (http_Told.calls (t187.extract 0 ((ji75) : Int).toNat) t197 t198 t201 t202 t203 _ A78.out (HL.later zz3)).mono ?_); rintro e w92 ⟨v199, rfl, ho0, hb⟩; refine ⟨_, rfl, ?_⟩; have n0_ := qH (Kd.R_elder' zz31 (Kd.R_base ho0) hb); have n1_ := qH (Kd.R_lower (Kd.R_new' ho0 (Kd.R_lt zz31)) (below_size zz18)); have n2_ := qH (qD (g := gb161) (o := .cells #[.string a0_0, .string a0_1, .slice A0_2 l0_2.length c0_2, .string a0_3] 25 (0, 0)) (by (with_reducible repeat first | apply qA | apply qC | apply qB); refine qG ?_ NB161_196.out _; (with_reducible repeat first | apply qA | apply qC | apply qB); refine qG ?_ NB161_196.out _; (with_reducible repeat first | apply qA | apply qC | apply qB); refine qG ?_ NB161_196.out _; (with_reducible repeat first | apply qA | apply qC | apply qB); exact BK161.out) hb); have n3_ := qH (qD (g := gb162) (o := .cells #[.int .i64 a1_0, .slice A1_1 l1_1.length c1_1, .string a1_2] 32 (0, 0)) (by (with_reducible repeat first | apply qA | apply qC | apply qB); refine qG ?_ NB162_196.out _; (with_reducible repeat first | apply qA | apply qC | apply qB); refine qG ?_ NB162_196.out _; (with_reducible repeat first | apply qA | apply qC | apply qB); refine qG ?_ NB162_196.out _; (with_reducible repeat first | apply qA | apply qC | apply qB); exact BK162.out) hb); have n4_ := qH (qD (g := gb196) (o := .cells #[.int .i64 t189, .slice Ao91 t190.length co91, .string t193] 32 (0, 0)) (by (with_reducible repeat first | apply qA | apply qC | apply qB); refine blk_put (cs := #[.int .i64 t189, .slice Ao91 t190.length co91, .string (⟨#[]⟩ : ByteArray)]) ?_ 2 _ rfl; (with_reducible repeat first | apply qA | apply qC | apply qB); refine blk_put (cs := #[.int .i64 t189, .slice none 0 0, .string (⟨#[]⟩ : ByteArray)]) ?_ 1 _ rfl; (with_reducible repeat first | apply qA | apply qC | apply qB); refine blk_put (cs := #[.int .i64 0, .slice none 0 0, .string (⟨#[]⟩ : ByteArray)]) ?_ 0 _ rfl; (with_reducible repeat first | apply qA | apply qC | apply qB); exact BK196.out) hb); have n5_ := qH (below_step zz18 hb); clear HO192; clear BK161; clear BK162; clear BK196; clear HB; have HO192 := n0_; have HO200 := n1_; have BK161 := n2_; have BK162 := n3_; have BK196 := n4_; have HB := n5_; clear n0_ n1_ n2_ n3_ n4_ n5_; (try clear hb); (try clear hb2); (try clear hk); (try clear hi); (try clear ho0)) | ((with_reducible refine gate_dst (N := 20) rfl ?_); (try (refine gate_guard (by rfl) ?_; dsimp only)); refine box_event ?hg (N := 20) ?hd (cs := #[.int .i64 0, .slice none 0 0, .string (⟨#[]⟩ : ByteArray)]) (t := 32) ?hr ?_; (case hd => rfl); (case hg => rfl); (case hr => first | (go_simp; done) | (go_simp; rfl) | (go_simp; simp [IntKind.wrap_u32]; done)); intro gb204 hg w93 hbox hb; have n0_ := qH (Kd.R_below (by (with_reducible repeat (first | apply Kd.R_alloc | apply Kd.R_drewN | apply Kd.R_drew)); exact HO192.out) hb); have n1_ := qH (Kd.R_below (by (with_reducible repeat (first | apply Kd.R_alloc | apply Kd.R_drewN | apply Kd.R_drew)); exact HO200.out) hb); have n2_ := qH (qD (g := gb161) zz4 hb); have n3_ := qH (qD (g := gb162) zz5 hb); have n4_ := qH (qD (g := gb196) (by (with_reducible repeat first | apply qA | apply qC | apply qB); exact BK196.out) hb); have n5_ := qH (below_step zz18 hb); have n6_ := qH (hbox); have n7_ := qH ((by rw [hg]; exact (below_size zz18) : w.heap.size ≤ gb204)); have n8_ := n7_; have n9_ := qH ((by rw [hg]; exact qN (blk_lt (g := gb161) zz4) : gb161 ≠ gb204)); have n10_ := qH ((by rw [hg]; exact Nat.ne_of_gt (blk_lt (g := gb161) zz4) : gb204 ≠ gb161)); have n11_ := qH ((by rw [hg]; exact qN (blk_lt (g := gb162) zz5) : gb162 ≠ gb204)); have n12_ := qH ((by rw [hg]; exact Nat.ne_of_gt (blk_lt (g := gb162) zz5) : gb204 ≠ gb162)); have n13_ := qH ((by rw [hg]; exact qN (blk_lt (g := gb196) (by (with_reducible repeat first | apply qA | apply qC | apply qB); exact BK196.out)) : gb196 ≠ gb204)); have n14_ := qH ((by rw [hg]; exact Nat.ne_of_gt (blk_lt (g := gb196) (by (with_reducible repeat first | apply qA | apply qC | apply qB); exact BK196.out)) : gb204 ≠ gb196)); clear HO192; clear HO200; clear BK161; clear BK162; clear BK196; clear HB; have HO192 := n0_; have HO200 := n1_; have BK161 := n2_; have BK162 := n3_; have BK196 := n4_; have HB := n5_; have BK204 := n6_; have GW204 := n7_; have GE204 := n8_; have NB161_204 := n9_; have NB204_161 := n10_; have NB162_204 := n11_; have NB204_162 := n12_; have NB196_204 := n13_; have NB204_196 := n14_; clear n0_ n1_ n2_ n3_ n4_ n5_ n6_ n7_ n8_ n9_ n10_ n11_ n12_ n13_ n14_; clear hb hbox hg; have hnb94 := NB204_161.out; have hnc94 := NB161_204.out; have hnb95 := NB204_162.out; have hnc95 := NB162_204.out; have hnb96 := NB204_196.out; have hnc96 := NB196_204.out; obtain ⟨hcz97_0, hcz97_1, hcz97_2⟩ := qc3 BK204.out; obtain ⟨hfz97_0, hfz97_1, hfz97_2⟩ := qf3 BK204.out; obtain ⟨Ao98, co98, eo98⟩ := Kd.R_slice HO200.out; subst eo98; obtain ⟨hcz99_0, hcz99_1, hcz99_2⟩ := qc3 BK196.out; obtain ⟨hfz99_0, hfz99_1, hfz99_2⟩ := qf3 BK196.out; have hnb100 := NB162_161.out; have hnc100 := NB161_162.out; obtain ⟨hcz101_0, hcz101_1, hcz101_2⟩ := qc3 BK162.out; obtain ⟨hfz101_0, hfz101_1, hfz101_2⟩ := qf3 BK162.out) | ((with_reducible refine gate_callee (f := 15) rfl ?_); refine goesL_ (some 137) rfl rfl Tryz.func15 (by kernel_rfl) rfl #[.agg #[.int .i64 t189, .slice Ao91 t190.length co91, .string t193], .agg #[.int .i64 a1_0, .slice A1_1 l1_1.length c1_1, .string a1_2]] rfl zz0 ?_; (with_reducible refine (codicillaw29_Responses.calls kj65 t189 _ _ t190 t193 a1_0 _ _ l1_1 a1_2 true _ ?side1 ?side2 ?side3 ?side4 A79.out).mono ?_); (case side1 => refine (Kd.R_reads' (e := 59) (base := w.heap.size) (ok := fun k_ => (True ∧ some k_ ≠ (.slice Ao98 t198.length co98 : Value).ownBlock)) (n := t190.length) (c := co91) ?_).2.2; exact zz32); (case side2 => exact (Kd.R_reads' HO192.out).2.1); (case side3 => exact Kd.C_below HR1_1.out zz33); (case side4 => exact HC1_1.out); rintro e w102 ⟨rfl, hb⟩; refine ⟨_, rfl, ?_⟩; have n0_ := qH (Kd.R_below zz32 hb); have n1_ := qH (Kd.R_below (by (with_reducible repeat (first | apply Kd.R_alloc | apply Kd.R_drewN | apply Kd.R_drew)); exact (Kd.R_mono (Kd.R_far (p := ⟨gb204, 2, none⟩) (Kd.R_far (p := ⟨gb204, 1, none⟩) (Kd.R_far (p := ⟨gb204, 0, none⟩) (Kd.R_types HO200.out BK204.out (by decide)) (fun _ hk => hk.2) (.int .i64 t197)) (fun _ hk => hk.2) (.slice Ao98 t198.length co98)) (fun _ hk => hk.2) (.string t201)) (fun _ h_ => h_.1))) hb); have n2_ := qH (qD (g := gb161) (o := .cells #[.string a0_0, .string a0_1, .slice A0_2 l0_2.length c0_2, .string a0_3] 25 (0, 0)) (by (with_reducible repeat first | apply qA | apply qC | apply qB); refine qG ?_ NB161_204.out _; (with_reducible repeat first | apply qA | apply qC | apply qB); refine qG ?_ NB161_204.out _; (with_reducible repeat first | apply qA | apply qC | apply qB); refine qG ?_ NB161_204.out _; (with_reducible repeat first | apply qA | apply qC | apply qB); exact BK161.out) hb); have n3_ := qH (qD (g := gb162) (o := .cells #[.int .i64 a1_0, .slice A1_1 l1_1.length c1_1, .string a1_2] 32 (0, 0)) (by (with_reducible repeat first | apply qA | apply qC | apply qB); refine qG ?_ NB162_204.out _; (with_reducible repeat first | apply qA | apply qC | apply qB); refine qG ?_ NB162_204.out _; (with_reducible repeat first | apply qA | apply qC | apply qB); refine qG ?_ NB162_204.out _; (with_reducible repeat first | apply qA | apply qC | apply qB); exact BK162.out) hb); have n4_ := qH (qD (g := gb196) (o := .cells #[.int .i64 t189, .slice Ao91 t190.length co91, .string t193] 32 (0, 0)) (by (with_reducible repeat first | apply qA | apply qC | apply qB); refine qG ?_ NB196_204.out _; (with_reducible repeat first | apply qA | apply qC | apply qB); refine qG ?_ NB196_204.out _; (with_reducible repeat first | apply qA | apply qC | apply qB); refine qG ?_ NB196_204.out _; (with_reducible repeat first | apply qA | apply qC | apply qB); exact BK196.out) hb); have n5_ := qH (qD (g := gb204) (o := .cells #[.int .i64 t197, .slice Ao98 t198.length co98, .string t201] 32 (0, 0)) (by (with_reducible repeat first | apply qA | apply qC | apply qB); refine blk_put (cs := #[.int .i64 t197, .slice Ao98 t198.length co98, .string (⟨#[]⟩ : ByteArray)]) ?_ 2 _ rfl; (with_reducible repeat first | apply qA | apply qC | apply qB); refine blk_put (cs := #[.int .i64 t197, .slice none 0 0, .string (⟨#[]⟩ : ByteArray)]) ?_ 1 _ rfl; (with_reducible repeat first | apply qA | apply qC | apply qB); refine blk_put (cs := #[.int .i64 0, .slice none 0 0, .string (⟨#[]⟩ : ByteArray)]) ?_ 0 _ rfl; (with_reducible repeat first | apply qA | apply qC | apply qB); exact BK204.out) hb); have n6_ := qH (below_step zz33 hb); clear HO192; clear HO200; clear BK161; clear BK162; clear BK196; clear BK204; clear HB; have HO192 := n0_; have HO200 := n1_; have BK161 := n2_; have BK162 := n3_; have BK196 := n4_; have BK204 := n5_; have HB := n6_; clear n0_ n1_ n2_ n3_ n4_ n5_ n6_; (try clear hb); (try clear hb2); (try clear hk); (try clear hi)) | ((with_reducible refine gate_callee (f := 9) rfl ?_); refine goesL_ (some 157) rfl rfl Tryz.func9 (by kernel_rfl) rfl #[] rfl zz0 ?_; (with_reducible refine (codicillaw29_alive.calls kj65  t206 _ A85.out (HL.later zz3)).mono ?_); rintro e w103 ⟨rfl, hb⟩; refine ⟨_, rfl, ?_⟩; have n0_ := qH (Kd.R_below (by (with_reducible repeat (first | apply Kd.R_alloc | apply Kd.R_drewN | apply Kd.R_drew)); exact HO192.out) hb); have n1_ := qH (Kd.R_below (by (with_reducible repeat (first | apply Kd.R_alloc | apply Kd.R_drewN | apply Kd.R_drew)); exact HO200.out) hb); have n2_ := qH (qD (g := gb161) zz4 hb); have n3_ := qH (qD (g := gb162) zz5 hb); have n4_ := qH (qD (g := gb196) (by (with_reducible repeat first | apply qA | apply qC | apply qB); exact BK196.out) hb); have n5_ := qH (qD (g := gb204) (by (with_reducible repeat first | apply qA | apply qC | apply qB); exact BK204.out) hb); have n6_ := qH (below_step zz33 hb); clear HO192; clear HO200; clear BK161; clear BK162; clear BK196; clear BK204; clear HB; have HO192 := n0_; have HO200 := n1_; have BK161 := n2_; have BK162 := n3_; have BK196 := n4_; have BK204 := n5_; have HB := n6_; clear n0_ n1_ n2_ n3_ n4_ n5_ n6_; (try clear hb); (try clear hb2); (try clear hk); (try clear hi)))
                    go_ret
                    exact ⟨by first | rfl | (simp [errW_none, errW_some] <;> rfl) | (simp only [← hji75]; first | rfl | (simp [errW_none, errW_some] <;> rfl)) | (simp [*, errW_none, errW_some] <;> rfl), by repeat (first | (with_reducible first | exact HB.out | apply qL | apply qJ | apply qK | refine qI ?_ GE161.out | refine qI ?_ GE162.out | refine qI ?_ GE196.out | refine qI ?_ GE204.out) | exact HB.out)⟩
                   ·rw [if_neg c84] at H
                    have c84b0 : (t203 == 290) = false := beq_eq_false_iff_ne.mpr c84
                    have c84b1 : (t203 != 290) = true := bne_iff_ne.mpr c84
                    obtain rfl := Option.some.inj H
                    exact absurd hTrue.out (by decide)
                  ·rw [if_neg c83] at H
                   have c83b0 : (t202 == 0) = false := beq_eq_false_iff_ne.mpr c83
                   have c83b1 : (t202 != 0) = true := bne_iff_ne.mpr c83
                   obtain rfl := Option.some.inj H
                   exact absurd hTrue.out (by decide)
                 ·rw [if_neg c82] at H
                  have c82b0 : (t195 == 0) = false := beq_eq_false_iff_ne.mpr c82
                  have c82b1 : (t195 != 0) = true := bne_iff_ne.mpr c82
                  obtain rfl := Option.some.inj H
                  exact absurd hTrue.out (by decide)
                ·rw [if_neg c81] at H
                 have c81b0 : (t194 == (t187.size : Int)) = false := beq_eq_false_iff_ne.mpr c81
                 have c81b1 : (t194 != (t187.size : Int)) = true := bne_iff_ne.mpr c81
                 obtain rfl := Option.some.inj H
                 exact absurd hTrue.out (by decide)
               ·replace c80 := Bool.eq_false_iff.mpr c80
                subst c80
                have H1 : (some false) = some r := by rw [if_neg (show ¬ (false = true) by decide)] at H; exact H
                clear H
                have H := H1
                clear H1
                obtain rfl := Option.some.inj H
                exact absurd hTrue.out (by decide)
              ·rw [if_neg c77] at H
               exact absurd H (by simp)
             ·rw [if_neg c76] at H
              exact absurd H (by simp)
           ·rw [if_neg c72] at H
            exact absurd H (by simp)
          ·replace c71 := Bool.eq_false_iff.mpr c71
           subst c71
           have H1 : ((codicillaw29_alive.f kj65).bind fun t207 => (some t207)) = some r := by rw [if_neg (show ¬ (false = true) by decide)] at H; exact H
           clear H
           have H := H1
           clear H1
           replace H := Option.bind_eq_some_iff.mp H
           obtain ⟨t207, A1040, H⟩ := H
           (try dsimp only at H)
           have A104 := qH A1040
           clear A1040
           obtain rfl := Option.some.inj H
           simp only [Option.some.injEq, Prod.mk.injEq] at H
           obtain ⟨rfl⟩ := H
           go_wp2_with (first | ((with_reducible refine gate_callee (f := 9) rfl ?_); refine goesL_ (some 157) rfl rfl Tryz.func9 (by kernel_rfl) rfl #[] rfl zz0 ?_; (with_reducible refine (codicillaw29_alive.calls kj65  t207 _ A104.out (HL.later zz3)).mono ?_); rintro e w105 ⟨rfl, hb⟩; refine ⟨_, rfl, ?_⟩; have n0_ := qH (qD (g := gb161) zz4 hb); have n1_ := qH (qD (g := gb162) zz5 hb); have n2_ := qH (below_step zz2 hb); clear BK161; clear BK162; clear HB; have BK161 := n0_; have BK162 := n1_; have HB := n2_; clear n0_ n1_ n2_; (try clear hb); (try clear hb2); (try clear hk); (try clear hi)))
           go_ret
           exact ⟨by first | rfl | (simp [errW_none, errW_some] <;> rfl) | (simp [*, errW_none, errW_some] <;> rfl), by repeat (first | (with_reducible first | exact HB.out | apply qL | apply qJ | apply qK | refine qI ?_ GE161.out | refine qI ?_ GE162.out) | exact HB.out)⟩

end Go.Proofs.YtddjhmelniphgaaGreatDoor.Print
