-- Written by wip/tools/xprint.py of this session's repo (the kit's print, run with external functions). Lean checks it.
import Derived.Test.YtddjhmelniphgaaGreatDoorHAm
import Derived.Test.YtddjhmelniphgaaGreatDoorPrint0
import Derived.Test.YtddjhmelniphgaaGreatDoorPrint2
import Derived.Test.YtddjhmelniphgaaGreatDoorPrint8
import Derived.Test.YtddjhmelniphgaaGreatDoorPrint9
import Derived.Test.YtddjhmelniphgaaGreatDoorHAlive29
import Derived.Test.YtddjhmelniphgaaGreatDoorHTAsk
import Derived.Test.YtddjhmelniphgaaGreatDoorHTReq
namespace Go.Proofs.YtddjhmelniphgaaGreatDoor.Print
open Go.RowKit Go.Proofs.YtddjhmelniphgaaGreatDoorW.PrintWords Go.Proofs.YtddjhmelniphgaaGreatDoorW.PrintLast Go.Proofs.YtddjhmelniphgaaGreatDoorW.PrintMore
attribute [local go_sem] max2_int min2_int max_two min_two max_three min_three max_four min_four   -- for this text's walks alone
set_option linter.unusedVariables false
set_option linter.unusedSimpArgs false

/-! ### codicillaw29_HttpLong: function 6 -/
mutual
def codicillaw29_HttpLong.j2 : Nat → Int → Int → ByteArray → ByteArray → List (S59) → ByteArray → Option (Bool)
 | 0, _, _, _, _, _, _ => none
 | k + 1, x1, x5, x244000, x244001, x244002, x244003 => (http_Ask.f x244000 x244001 x244002 x244003).bind fun bt257 => ((codicilref29_Ask.f k x244000 x244001 x244002 x244003).bind fun bt259 => (if bt257.1.toList = bt259.1.toList then (if bt257.2 = bt259.2 then (codicillaw29_HttpLong.j3 k x1 bt257.1 bt257.2 ((bt257.2 == 0) != (decide (x5 ≤ 0))) x244000 x244001 x244002 x244003) else (codicillaw29_HttpLong.j3 k x1 bt257.1 bt257.2 true x244000 x244001 x244002 x244003)) else (codicillaw29_HttpLong.j3 k x1 bt257.1 bt257.2 true x244000 x244001 x244002 x244003)))
def codicillaw29_HttpLong.j3 : Nat → Int → ByteArray → Int → Bool → ByteArray → ByteArray → List (S59) → ByteArray → Option (Bool)
 | 0, _, _, _, _, _, _, _, _ => none
 | k + 1, x1, x10, x11, x99, x244000, x244001, x244002, x244003 => if x99 = true then (some false) else (if x11 = 0 then ((http_Read.f x10).bind fun bt261 => ((codicillaw29_Requests.f k bt261.1 bt261.2.1 bt261.2.2.1 bt261.2.2.2.1 x244000 x244001 x244002 x244003).bind fun t270 => (if t270 = true then (if bt261.2.2.2.2.1 = (x10.size : Int) then (if bt261.2.2.2.2.2 = 0 then ((codicillaw29_alive.f k).bind fun t271 => (some t271)) else (some false)) else (some false)) else (some false)))) else (codicillaw29_HttpLong.l2 k x1 (⟨#[71, 69, 84, 32, 47, 32, 72, 84, 84, 80, 47, 49, 46, 49, 13, 10]⟩ : ByteArray) 0 x244000 x244001 x244002 x244003))
def codicillaw29_HttpLong.l2 : Nat → Int → ByteArray → Int → ByteArray → ByteArray → List (S59) → ByteArray → Option (Bool)
 | 0, _, _, _, _, _, _, _ => none
 | k + 1, x1, x17, x18, x244000, x244001, x244002, x244003 => if x18 < (x244002.length : Int) then (if 0 ≤ x18 then (if x17.size + ((rd_T59 x244002 x18).f0).size ≤ 9223372036854775807 then (if (x17 ++ ((rd_T59 x244002 x18).f0)).size + 2 ≤ 9223372036854775807 then (if ((x17 ++ ((rd_T59 x244002 x18).f0)) ++ (⟨#[58, 32]⟩ : ByteArray)).size + ((rd_T59 x244002 x18).f1).size ≤ 9223372036854775807 then (if (((x17 ++ ((rd_T59 x244002 x18).f0)) ++ (⟨#[58, 32]⟩ : ByteArray)) ++ ((rd_T59 x244002 x18).f1)).size + 2 ≤ 9223372036854775807 then (codicillaw29_HttpLong.l2 k x1 ((((x17 ++ ((rd_T59 x244002 x18).f0)) ++ (⟨#[58, 32]⟩ : ByteArray)) ++ ((rd_T59 x244002 x18).f1)) ++ (⟨#[13, 10]⟩ : ByteArray)) (wrap64 (x18 + 1)) x244000 x244001 x244002 x244003) else (none)) else (none)) else (none)) else (none)) else (none)) else (if (Int.tmod x1 3) = 0 then (if x17.size + 23 ≤ 9223372036854775807 then (if (x17 ++ (⟨#[99, 111, 110, 116, 101, 110, 116, 45, 108, 101, 110, 103, 116, 104, 58, 32, 54, 53, 53, 51, 55, 13, 10]⟩ : ByteArray)).size + 2 ≤ 9223372036854775807 then (if ((x17 ++ (⟨#[99, 111, 110, 116, 101, 110, 116, 45, 108, 101, 110, 103, 116, 104, 58, 32, 54, 53, 53, 51, 55, 13, 10]⟩ : ByteArray)) ++ (⟨#[13, 10]⟩ : ByteArray)).size + x244003.size ≤ 9223372036854775807 then ((http_Read.f (((x17 ++ (⟨#[99, 111, 110, 116, 101, 110, 116, 45, 108, 101, 110, 103, 116, 104, 58, 32, 54, 53, 53, 51, 55, 13, 10]⟩ : ByteArray)) ++ (⟨#[13, 10]⟩ : ByteArray)) ++ x244003)).bind fun bt274 => ((codicilref29_Read.f k (((x17 ++ (⟨#[99, 111, 110, 116, 101, 110, 116, 45, 108, 101, 110, 103, 116, 104, 58, 32, 54, 53, 53, 51, 55, 13, 10]⟩ : ByteArray)) ++ (⟨#[13, 10]⟩ : ByteArray)) ++ x244003)).bind fun bt283 => (if bt274.2.2.2.2.2 = bt283.2.2.2.2.2 then ((codicillaw29_alive.f k).bind fun t292 => (some t292)) else (some false)))) else (none)) else (none)) else (none)) else (if x17.size + 2 ≤ 9223372036854775807 then (if (x17 ++ (⟨#[13, 10]⟩ : ByteArray)).size + x244003.size ≤ 9223372036854775807 then ((http_Read.f ((x17 ++ (⟨#[13, 10]⟩ : ByteArray)) ++ x244003)).bind fun bt293 => ((codicilref29_Read.f k ((x17 ++ (⟨#[13, 10]⟩ : ByteArray)) ++ x244003)).bind fun bt302 => (if bt293.2.2.2.2.2 = bt302.2.2.2.2.2 then ((codicillaw29_alive.f k).bind fun t311 => (some t311)) else (some false)))) else (none)) else (none)))
def codicillaw29_HttpLong.l0 : Nat → Int → Int → Int → ByteArray → ByteArray → List (S59) → ByteArray → Option (Bool)
 | 0, _, _, _, _, _, _, _ => none
 | k + 1, x1, x5, x7, x244000, x244001, x244002, x244003 => if x7 < (mx (wrap64 (63 + x5)) 0) then (if x7 < 200 then (if x244002.length < 4398046511104 then (codicillaw29_HttpLong.l0 k x1 x5 (wrap64 (x7 + 1)) x244000 x244001 (x244002 ++ [(⟨(⟨#[120]⟩ : ByteArray), (⟨#[121]⟩ : ByteArray)⟩ : S59)]) x244003) else (none)) else (codicillaw29_HttpLong.j2 k x1 x5 x244000 x244001 x244002 x244003)) else (codicillaw29_HttpLong.j2 k x1 x5 x244000 x244001 x244002 x244003)
def codicillaw29_HttpLong.l1 : Nat → Int → Int → List Int → Int → ByteArray → ByteArray → ByteArray → Option (Bool)
 | 0, _, _, _, _, _, _, _ => none
 | k + 1, x1, x5, x8, x9, x244000, x244001, x244003 => if x9 < (x8.length : Int) then (if 0 ≤ x9 then (codicillaw29_HttpLong.l1 k x1 x5 (x8.set (x9 : Int).toNat 118) (wrap64 (x9 + 1)) x244000 x244001 x244003) else (none)) else (codicillaw29_HttpLong.j2 k x1 x5 x244000 x244001 (([(⟨(⟨#[120]⟩ : ByteArray), strOfNums x8⟩ : S59)] : List (S59))) x244003)
end
def codicillaw29_HttpLong.f (k : Nat) (a0 : Int) (a1 : Int) : Option (Bool) := if (Int.tmod a1 3) = 0 then (if 0 ≤ (wrap64 (65536 + (wrap64 (a0)))) then (if (wrap64 (65536 + (wrap64 (a0))) : Int).toNat ≤ 281474976710656 then (codicillaw29_HttpLong.j2 k a1 (wrap64 (a0)) (⟨#[71, 69, 84]⟩ : ByteArray) (⟨#[47]⟩ : ByteArray) ([] : List (S59)) (strOfNums (List.replicate (wrap64 (65536 + (wrap64 (a0))) : Int).toNat 0))) else (none)) else (none)) else (if (Int.tmod a1 3) = 1 then (codicillaw29_HttpLong.l0 k a1 (wrap64 (a0)) 0 (⟨#[71, 69, 84]⟩ : ByteArray) (⟨#[47]⟩ : ByteArray) ([] : List (S59)) (⟨#[]⟩ : ByteArray)) else (if (Int.tmod a1 3) = 2 then (if 0 ≤ (wrap64 (8150 + (wrap64 (a0)))) then (if (wrap64 (8150 + (wrap64 (a0))) : Int).toNat ≤ 281474976710656 then (codicillaw29_HttpLong.l1 k a1 (wrap64 (a0)) (List.replicate (wrap64 (8150 + (wrap64 (a0))) : Int).toNat 0) 0 (⟨#[71, 69, 84]⟩ : ByteArray) (⟨#[47]⟩ : ByteArray) (⟨#[]⟩ : ByteArray)) else (none)) else (none)) else (codicillaw29_HttpLong.j2 k a1 (wrap64 (a0)) (⟨#[71, 69, 84]⟩ : ByteArray) (⟨#[47]⟩ : ByteArray) ([] : List (S59)) (⟨#[]⟩ : ByteArray))))
theorem codicillaw29_HttpLong.mono_l : ∀ k, (∀ y0 y1 y2 y3 y4 y5, LeO (codicillaw29_HttpLong.j2 k y0 y1 y2 y3 y4 y5) (codicillaw29_HttpLong.j2 (k + 1) y0 y1 y2 y3 y4 y5)) ∧ (∀ y0 y1 y2 y3 y4 y5 y6 y7, LeO (codicillaw29_HttpLong.j3 k y0 y1 y2 y3 y4 y5 y6 y7) (codicillaw29_HttpLong.j3 (k + 1) y0 y1 y2 y3 y4 y5 y6 y7)) ∧ (∀ y0 y1 y2 y3 y4 y5 y6, LeO (codicillaw29_HttpLong.l2 k y0 y1 y2 y3 y4 y5 y6) (codicillaw29_HttpLong.l2 (k + 1) y0 y1 y2 y3 y4 y5 y6)) ∧ (∀ y0 y1 y2 y3 y4 y5 y6, LeO (codicillaw29_HttpLong.l0 k y0 y1 y2 y3 y4 y5 y6) (codicillaw29_HttpLong.l0 (k + 1) y0 y1 y2 y3 y4 y5 y6)) ∧ (∀ y0 y1 y2 y3 y4 y5 y6, LeO (codicillaw29_HttpLong.l1 k y0 y1 y2 y3 y4 y5 y6) (codicillaw29_HttpLong.l1 (k + 1) y0 y1 y2 y3 y4 y5 y6))
 | 0 => ⟨fun _ _ _ _ _ _ r h => by simp [codicillaw29_HttpLong.j2] at h, fun _ _ _ _ _ _ _ _ r h => by simp [codicillaw29_HttpLong.j3] at h, fun _ _ _ _ _ _ _ r h => by simp [codicillaw29_HttpLong.l2] at h, fun _ _ _ _ _ _ _ r h => by simp [codicillaw29_HttpLong.l0] at h, fun _ _ _ _ _ _ _ r h => by simp [codicillaw29_HttpLong.l1] at h⟩
 | k + 1 => by
  obtain ⟨ih0, ih1, ih2, ih3, ih4⟩ := codicillaw29_HttpLong.mono_l k
  refine ⟨?_, ?_, ?_, ?_, ?_⟩
  ·intro y0 y1 y2 y3 y4 y5
   unfold codicillaw29_HttpLong.j2
   repeat' first
   | (with_reducible exact ih0 _ _ _ _ _ _)
   | (with_reducible exact ih1 _ _ _ _ _ _ _ _)
   | (with_reducible exact ih2 _ _ _ _ _ _ _)
   | (with_reducible exact ih3 _ _ _ _ _ _ _)
   | (with_reducible exact ih4 _ _ _ _ _ _ _)
   | (with_reducible exact codicillaw29_Requests.mono _ _ _ _ _ _ _ _ _)
   | (with_reducible exact codicillaw29_alive.mono _)
   | (with_reducible exact codicilref29_Ask.mono _ _ _ _ _)
   | (with_reducible exact codicilref29_Read.mono _ _)
   | (with_reducible exact LeO.refl _)
   | (with_reducible exact LeO.none _)
   | (with_reducible refine LeO.ite ?_ ?_)
   | (with_reducible refine LeO.bind ?_ (fun _ => ?_))
   | exact ih0 _ _ _ _ _ _
   | exact ih1 _ _ _ _ _ _ _ _
   | exact ih2 _ _ _ _ _ _ _
   | exact ih3 _ _ _ _ _ _ _
   | exact ih4 _ _ _ _ _ _ _
   | exact codicillaw29_Requests.mono _ _ _ _ _ _ _ _ _
   | exact codicillaw29_alive.mono _
   | exact codicilref29_Ask.mono _ _ _ _ _
   | exact codicilref29_Read.mono _ _
   | exact LeO.none _
   | refine LeO.ite ?_ ?_
   | refine LeO.bind ?_ (fun _ => ?_)
  ·intro y0 y1 y2 y3 y4 y5 y6 y7
   unfold codicillaw29_HttpLong.j3
   repeat' first
   | (with_reducible exact ih0 _ _ _ _ _ _)
   | (with_reducible exact ih1 _ _ _ _ _ _ _ _)
   | (with_reducible exact ih2 _ _ _ _ _ _ _)
   | (with_reducible exact ih3 _ _ _ _ _ _ _)
   | (with_reducible exact ih4 _ _ _ _ _ _ _)
   | (with_reducible exact codicillaw29_Requests.mono _ _ _ _ _ _ _ _ _)
   | (with_reducible exact codicillaw29_alive.mono _)
   | (with_reducible exact codicilref29_Ask.mono _ _ _ _ _)
   | (with_reducible exact codicilref29_Read.mono _ _)
   | (with_reducible exact LeO.refl _)
   | (with_reducible exact LeO.none _)
   | (with_reducible refine LeO.ite ?_ ?_)
   | (with_reducible refine LeO.bind ?_ (fun _ => ?_))
   | exact ih0 _ _ _ _ _ _
   | exact ih1 _ _ _ _ _ _ _ _
   | exact ih2 _ _ _ _ _ _ _
   | exact ih3 _ _ _ _ _ _ _
   | exact ih4 _ _ _ _ _ _ _
   | exact codicillaw29_Requests.mono _ _ _ _ _ _ _ _ _
   | exact codicillaw29_alive.mono _
   | exact codicilref29_Ask.mono _ _ _ _ _
   | exact codicilref29_Read.mono _ _
   | exact LeO.none _
   | refine LeO.ite ?_ ?_
   | refine LeO.bind ?_ (fun _ => ?_)
  ·intro y0 y1 y2 y3 y4 y5 y6
   unfold codicillaw29_HttpLong.l2
   repeat' first
   | (with_reducible exact ih0 _ _ _ _ _ _)
   | (with_reducible exact ih1 _ _ _ _ _ _ _ _)
   | (with_reducible exact ih2 _ _ _ _ _ _ _)
   | (with_reducible exact ih3 _ _ _ _ _ _ _)
   | (with_reducible exact ih4 _ _ _ _ _ _ _)
   | (with_reducible exact codicillaw29_Requests.mono _ _ _ _ _ _ _ _ _)
   | (with_reducible exact codicillaw29_alive.mono _)
   | (with_reducible exact codicilref29_Ask.mono _ _ _ _ _)
   | (with_reducible exact codicilref29_Read.mono _ _)
   | (with_reducible exact LeO.refl _)
   | (with_reducible exact LeO.none _)
   | (with_reducible refine LeO.ite ?_ ?_)
   | (with_reducible refine LeO.bind ?_ (fun _ => ?_))
   | exact ih0 _ _ _ _ _ _
   | exact ih1 _ _ _ _ _ _ _ _
   | exact ih2 _ _ _ _ _ _ _
   | exact ih3 _ _ _ _ _ _ _
   | exact ih4 _ _ _ _ _ _ _
   | exact codicillaw29_Requests.mono _ _ _ _ _ _ _ _ _
   | exact codicillaw29_alive.mono _
   | exact codicilref29_Ask.mono _ _ _ _ _
   | exact codicilref29_Read.mono _ _
   | exact LeO.none _
   | refine LeO.ite ?_ ?_
   | refine LeO.bind ?_ (fun _ => ?_)
  ·intro y0 y1 y2 y3 y4 y5 y6
   unfold codicillaw29_HttpLong.l0
   repeat' first
   | (with_reducible exact ih0 _ _ _ _ _ _)
   | (with_reducible exact ih1 _ _ _ _ _ _ _ _)
   | (with_reducible exact ih2 _ _ _ _ _ _ _)
   | (with_reducible exact ih3 _ _ _ _ _ _ _)
   | (with_reducible exact ih4 _ _ _ _ _ _ _)
   | (with_reducible exact codicillaw29_Requests.mono _ _ _ _ _ _ _ _ _)
   | (with_reducible exact codicillaw29_alive.mono _)
   | (with_reducible exact codicilref29_Ask.mono _ _ _ _ _)
   | (with_reducible exact codicilref29_Read.mono _ _)
   | (with_reducible exact LeO.refl _)
   | (with_reducible exact LeO.none _)
   | (with_reducible refine LeO.ite ?_ ?_)
   | (with_reducible refine LeO.bind ?_ (fun _ => ?_))
   | exact ih0 _ _ _ _ _ _
   | exact ih1 _ _ _ _ _ _ _ _
   | exact ih2 _ _ _ _ _ _ _
   | exact ih3 _ _ _ _ _ _ _
   | exact ih4 _ _ _ _ _ _ _
   | exact codicillaw29_Requests.mono _ _ _ _ _ _ _ _ _
   | exact codicillaw29_alive.mono _
   | exact codicilref29_Ask.mono _ _ _ _ _
   | exact codicilref29_Read.mono _ _
   | exact LeO.none _
   | refine LeO.ite ?_ ?_
   | refine LeO.bind ?_ (fun _ => ?_)
  ·intro y0 y1 y2 y3 y4 y5 y6
   unfold codicillaw29_HttpLong.l1
   repeat' first
   | (with_reducible exact ih0 _ _ _ _ _ _)
   | (with_reducible exact ih1 _ _ _ _ _ _ _ _)
   | (with_reducible exact ih2 _ _ _ _ _ _ _)
   | (with_reducible exact ih3 _ _ _ _ _ _ _)
   | (with_reducible exact ih4 _ _ _ _ _ _ _)
   | (with_reducible exact codicillaw29_Requests.mono _ _ _ _ _ _ _ _ _)
   | (with_reducible exact codicillaw29_alive.mono _)
   | (with_reducible exact codicilref29_Ask.mono _ _ _ _ _)
   | (with_reducible exact codicilref29_Read.mono _ _)
   | (with_reducible exact LeO.refl _)
   | (with_reducible exact LeO.none _)
   | (with_reducible refine LeO.ite ?_ ?_)
   | (with_reducible refine LeO.bind ?_ (fun _ => ?_))
   | exact ih0 _ _ _ _ _ _
   | exact ih1 _ _ _ _ _ _ _ _
   | exact ih2 _ _ _ _ _ _ _
   | exact ih3 _ _ _ _ _ _ _
   | exact ih4 _ _ _ _ _ _ _
   | exact codicillaw29_Requests.mono _ _ _ _ _ _ _ _ _
   | exact codicillaw29_alive.mono _
   | exact codicilref29_Ask.mono _ _ _ _ _
   | exact codicilref29_Read.mono _ _
   | exact LeO.none _
   | refine LeO.ite ?_ ?_
   | refine LeO.bind ?_ (fun _ => ?_)
theorem codicillaw29_HttpLong.mono : ∀ a0 a1 k, LeO (codicillaw29_HttpLong.f k a0 a1) (codicillaw29_HttpLong.f (k + 1) a0 a1) := by
 intro a0 a1 k
 obtain ⟨ih0, ih1, ih2, ih3, ih4⟩ := codicillaw29_HttpLong.mono_l k
 unfold codicillaw29_HttpLong.f
 repeat' first
   | (with_reducible exact ih0 _ _ _ _ _ _)
   | (with_reducible exact ih1 _ _ _ _ _ _ _ _)
   | (with_reducible exact ih2 _ _ _ _ _ _ _)
   | (with_reducible exact ih3 _ _ _ _ _ _ _)
   | (with_reducible exact ih4 _ _ _ _ _ _ _)
   | (with_reducible exact codicillaw29_Requests.mono _ _ _ _ _ _ _ _ _)
   | (with_reducible exact codicillaw29_alive.mono _)
   | (with_reducible exact codicilref29_Ask.mono _ _ _ _ _)
   | (with_reducible exact codicilref29_Read.mono _ _)
   | (with_reducible exact LeO.refl _)
   | (with_reducible exact LeO.none _)
   | (with_reducible refine LeO.ite ?_ ?_)
   | (with_reducible refine LeO.bind ?_ (fun _ => ?_))
   | exact ih0 _ _ _ _ _ _
   | exact ih1 _ _ _ _ _ _ _ _
   | exact ih2 _ _ _ _ _ _ _
   | exact ih3 _ _ _ _ _ _ _
   | exact ih4 _ _ _ _ _ _ _
   | exact codicillaw29_Requests.mono _ _ _ _ _ _ _ _ _
   | exact codicillaw29_alive.mono _
   | exact codicilref29_Ask.mono _ _ _ _ _
   | exact codicilref29_Read.mono _ _
   | exact LeO.none _
   | refine LeO.ite ?_ ?_
   | refine LeO.bind ?_ (fun _ => ?_)
set_option maxHeartbeats 8000000 in
set_option maxRecDepth 100000 in
theorem codicillaw29_HttpLong.calls1 (k : Nat) (a0 : Int) (a1 : Int) (r : Bool) (w : World) (h : codicillaw29_HttpLong.f k a0 a1 = some r) (hTrue : Aside0 (r = true)) (HL : Laid0 w) :
  Calls Tryz.prog 6 #[.int .i8 a0, .int .u8 a1] w fun e w' => e = .returned (.bool r) ∧ Below w.heap.size w w' := by
 have hu25 := Tryz.underlying25
 have hu59 := Tryz.underlying59
 have HB := qH (Below.refl w.heap.size w)
 have H : (if (Int.tmod a1 3) = 0 then (if 0 ≤ (wrap64 (65536 + (wrap64 (a0)))) then (if (wrap64 (65536 + (wrap64 (a0))) : Int).toNat ≤ 281474976710656 then (codicillaw29_HttpLong.j2 k a1 (wrap64 (a0)) (⟨#[71, 69, 84]⟩ : ByteArray) (⟨#[47]⟩ : ByteArray) ([] : List (S59)) (strOfNums (List.replicate (wrap64 (65536 + (wrap64 (a0))) : Int).toNat 0))) else (none)) else (none)) else (if (Int.tmod a1 3) = 1 then (codicillaw29_HttpLong.l0 k a1 (wrap64 (a0)) 0 (⟨#[71, 69, 84]⟩ : ByteArray) (⟨#[47]⟩ : ByteArray) ([] : List (S59)) (⟨#[]⟩ : ByteArray)) else (if (Int.tmod a1 3) = 2 then (if 0 ≤ (wrap64 (8150 + (wrap64 (a0)))) then (if (wrap64 (8150 + (wrap64 (a0))) : Int).toNat ≤ 281474976710656 then (codicillaw29_HttpLong.l1 k a1 (wrap64 (a0)) (List.replicate (wrap64 (8150 + (wrap64 (a0))) : Int).toNat 0) 0 (⟨#[71, 69, 84]⟩ : ByteArray) (⟨#[47]⟩ : ByteArray) (⟨#[]⟩ : ByteArray)) else (none)) else (none)) else (codicillaw29_HttpLong.j2 k a1 (wrap64 (a0)) (⟨#[71, 69, 84]⟩ : ByteArray) (⟨#[47]⟩ : ByteArray) ([] : List (S59)) (⟨#[]⟩ : ByteArray))))) = some r := h
 clear h
 have HC3 := qH H
 clear H
 go_enter Tryz.func6, Tryz.ntmps6
 go_upto_block 0 with (first | ((with_reducible refine gate_dst (N := 6) rfl ?_); (try (refine gate_guard (by rfl) ?_; dsimp only)); refine box_event ?hg (N := 6) ?hd (cs := #[.string (⟨#[]⟩ : ByteArray), .string (⟨#[]⟩ : ByteArray), .slice none 0 0, .string (⟨#[]⟩ : ByteArray)]) (t := 25) ?hr ?_; (case hd => rfl); (case hg => rfl); (case hr => first | (go_simp; done) | (go_simp; rfl) | (go_simp; simp [IntKind.wrap_u32]; done)); intro gb243 hg w4 hbox hb; have n0_ := qH (below_step zz2 hb); have n1_ := qH (hbox); have n2_ := qH ((by rw [hg]; exact (below_size zz2) : w.heap.size ≤ gb243)); have n3_ := n2_; clear HB; have HB := n0_; have BK243 := n1_; have GW243 := n2_; have GE243 := n3_; clear n0_ n1_ n2_ n3_; clear hb hbox hg; obtain ⟨hcz5_0, hcz5_1, hcz5_2, hcz5_3⟩ := qc4 BK243.out; obtain ⟨hfz5_0, hfz5_1, hfz5_2, hfz5_3⟩ := qf4 BK243.out))
 (try simp only [Act.put, List.setIfInBounds_toArray, List.set_cons_zero, List.set_cons_succ])
 go_cut [] (fun wc => ∃ (kq : Nat) (x244002_2 : List (S59)) (x244003_2 : ByteArray) (u244002 : Value), Aside0 (codicillaw29_HttpLong.j2 kq a1 (wrap64 (a0)) (⟨#[71, 69, 84]⟩ : ByteArray) (⟨#[47]⟩ : ByteArray) x244002_2 x244003_2 = some r) ∧ Aside0 (kq ≤ k) ∧ Aside0 (Kd.R k59 59 wc w.heap.size (fun _ => True) u244002 x244002_2) ∧ Aside0 (wc.heap[gb243]? = some (.cells #[.string (⟨#[71, 69, 84]⟩ : ByteArray), .string (⟨#[47]⟩ : ByteArray), u244002, .string x244003_2] 25 (0, 0))) ∧ Aside0 (Below w.heap.size w wc))
 case first =>
  have H := HC3.out
  clear HC3
  by_cases c6 : (Int.tmod a1 3) = 0
  ·rw [if_pos c6] at H
   have c6b0 : ((Int.tmod a1 3) == 0) = true := beq_iff_eq.mpr c6
   have c6b1 : ((Int.tmod a1 3) != 0) = false := bne_eq_false_iff_eq.mpr c6
   clear c6
   (first | rw [c6b0] | (simp only [i64_w, i32_w]; rw [c6b0]) | skip)
   obtain ⟨ji7, hji7⟩ : ∃ j_ : Int, (wrap64 (65536 + (wrap64 (a0)))) = j_ := ⟨_, rfl⟩
   replace H : (if 0 ≤ (ji7) then (if (ji7 : Int).toNat ≤ 281474976710656 then (codicillaw29_HttpLong.j2 k a1 (wrap64 (a0)) (⟨#[71, 69, 84]⟩ : ByteArray) (⟨#[47]⟩ : ByteArray) ([] : List (S59)) (strOfNums (List.replicate (ji7 : Int).toNat 0))) else (none)) else (none)) = some r := by first | (rw [hji7] at H; exact H) | (simp only [hji7] at H ⊢; exact H)
   have hji7w : (IntKind.i64.wrap (65536 + (wrap64 (a0)))) = ji7 := (i64_w _).trans hji7
   by_cases c8 : 0 ≤ (ji7)
   ·rw [if_pos c8] at H
    have c8b0 := eq_true c8
    have c8b1 : decide (0 ≤ (ji7)) = true := decide_eq_true c8
    clear c8
    by_cases c9 : (ji7 : Int).toNat ≤ 281474976710656
    ·rw [if_pos c9] at H
     have c9b0 := eq_true c9
     have c9b1 : decide ((ji7 : Int).toNat ≤ 281474976710656) = true := decide_eq_true c9
     clear c9
     obtain ⟨y244, hy244⟩ : ∃ y_ : List Int, y_ = (List.replicate (ji7 : Int).toNat 0) := ⟨_, rfl⟩
     replace H : (codicillaw29_HttpLong.j2 k a1 (wrap64 (a0)) (⟨#[71, 69, 84]⟩ : ByteArray) (⟨#[47]⟩ : ByteArray) ([] : List (S59)) (strOfNums y244)) = some r := by first | (rw [hy244]; with_reducible exact H) | (have H2_ := (Option.bind_some _ _).symm.trans H; rw [hy244]; with_reducible exact H2_) | (have H2_ := (Option.bind_some _ _).symm.trans H; with_reducible exact H2_) | with_reducible exact H | (rw [hy244]; exact H) | exact H
     have Ny244 := qH hy244
     clear hy244
     have H' := qH H
     clear H
     go_wp2_with (first | ((with_reducible refine gate_dst (N := 34) rfl ?_); (try (refine gate_guard (by rfl) ?_; dsimp only)); refine Kd.R_make (Kd.int .u8) _ 5 rfl (N := 34) rfl 57 _ _ rfl ji7 rfl rfl Tryz.underlying57 (.int .u8 0) 1 info5 rfl zz73 zz42 0 (ok := fun _ => True) (okp := fun _ => True) rfl (fun _ hk => hk) trivial (of_decide_eq_true zz0) (Nat.le_trans (Nat.mul_le_mul_right _ (of_decide_eq_true zz0 : ji7.toNat ≤ 281474976710656)) zz42) (Below.refl _ _) (Nat.le_refl _) ?_; intro v245 w10 ho11 hb hg_ hnew_; clear hg_ hnew_; (first | rw [← Ny244.out] at ho11 | (simp only [Int.reduceToNat] at ho11; rw [← Ny244.out] at ho11)); have n0_ := qH (Kd.R_lower ho11 (below_size zz1)); have n1_ := qH (qD (g := gb243) (o := .cells #[.string (⟨#[71, 69, 84]⟩ : ByteArray), .string (⟨#[47]⟩ : ByteArray), .slice none 0 0, .string (⟨#[]⟩ : ByteArray)] 25 (0, 0)) zz7 hb); have n2_ := qH (below_step zz1 hb); clear BK243; clear HB; have HO246 := n0_; have BK243 := n1_; have HB := n2_; clear n0_ n1_ n2_; clear hb ho11; have hcv12 := own_string (P := Tryz.prog) Tryz.underlying57 Tryz.underlying5 Tryz.underlying9 (Kd.own_of_R HO246.out); obtain ⟨hcz13_0, hcz13_1, hcz13_2, hcz13_3⟩ := qc4 BK243.out; obtain ⟨hfz13_0, hfz13_1, hfz13_2, hfz13_3⟩ := qf4 BK243.out))
     go_meet
     case rel => exact ⟨_, (([] : List (S59))), (strOfNums y244), (.slice none 0 0), H', ⟨by first | omega | exact Nat.le_refl _⟩, ⟨by first | exact Kd.R_nil _ _ _ _ _ | exact Kd.N_nil _ _ _ _ _ | exact Kd.V_nil _ _ _ _ _ | exact Kd.Q_nil _ _ _ _ _ | exact Kd.S_nil _ _ _ _ _⟩, ⟨by (with_reducible repeat first | apply qA | apply qC | apply qB); refine blk_put (cs := #[.string (⟨#[71, 69, 84]⟩ : ByteArray), .string (⟨#[47]⟩ : ByteArray), .slice none 0 0, .string (⟨#[]⟩ : ByteArray)]) ?_ 3 _ rfl; (with_reducible repeat first | apply qA | apply qC | apply qB); exact BK243.out⟩, ⟨by repeat (first | (with_reducible first | exact HB.out | apply qL | apply qJ | apply qK | refine qI ?_ GE243.out) | exact HB.out)⟩⟩
    ·rw [if_neg c9] at H
     exact absurd H zz65
   ·rw [if_neg c8] at H
    exact absurd H zz65
  ·rw [if_neg c6] at H
   have c6b0 : ((Int.tmod a1 3) == 0) = false := beq_eq_false_iff_ne.mpr c6
   have c6b1 : ((Int.tmod a1 3) != 0) = true := bne_iff_ne.mpr c6
   (first | rw [c6b0] | (simp only [i64_w, i32_w]; rw [c6b0]) | skip)
   by_cases c14 : (Int.tmod a1 3) = 1
   ·rw [if_pos c14] at H
    have c14b0 : ((Int.tmod a1 3) == 1) = true := beq_iff_eq.mpr c14
    have c14b1 : ((Int.tmod a1 3) != 1) = false := bne_eq_false_iff_eq.mpr c14
    clear c14
    have H' := qH H
    clear H
    go_wp2
    repeat (go_quiet (fail); try go_wp2)
    go_loopg [7] k (fun kq v7 w' => ∃ (x7_1 : Int) (x244002_1 : List (S59)) (u244002 : Value), v7 = .int .i64 x7_1 ∧ Aside0 (codicillaw29_HttpLong.l0 kq a1 (wrap64 (a0)) x7_1 (⟨#[71, 69, 84]⟩ : ByteArray) (⟨#[47]⟩ : ByteArray) x244002_1 (⟨#[]⟩ : ByteArray) = some r) ∧ Aside0 (kq ≤ k) ∧ Aside0 (Kd.R k59 59 w' w.heap.size (fun _ => True) u244002 x244002_1) ∧ Aside0 (w'.heap[gb243]? = some (.cells #[.string (⟨#[71, 69, 84]⟩ : ByteArray), .string (⟨#[47]⟩ : ByteArray), u244002, .string (⟨#[]⟩ : ByteArray)] 25 (0, 0))) ∧ Aside0 (Below w.heap.size w w'))
    case atStart => exact ⟨(0), (([] : List (S59))), (.slice none 0 0), zz3, H', ⟨Nat.le_refl _⟩, ⟨by first | exact Kd.R_nil _ _ _ _ _ | exact Kd.N_nil _ _ _ _ _ | exact Kd.V_nil _ _ _ _ _ | exact Kd.Q_nil _ _ _ _ _ | exact Kd.S_nil _ _ _ _ _⟩, ⟨by (with_reducible repeat first | apply qA | apply qC | apply qB); refine blk_put (cs := #[.string (⟨#[71, 69, 84]⟩ : ByteArray), .string (⟨#[47]⟩ : ByteArray), .slice none 0 0, .string (⟨#[]⟩ : ByteArray)]) ?_ 3 _ rfl; (with_reducible repeat first | apply qA | apply qC | apply qB); refine blk_put (cs := #[.string (⟨#[71, 69, 84]⟩ : ByteArray), .string (⟨#[47]⟩ : ByteArray), .slice none 0 0, .string (⟨#[]⟩ : ByteArray)]) ?_ 2 _ rfl; (with_reducible repeat first | apply qA | apply qC | apply qB); refine blk_put (cs := #[.string (⟨#[71, 69, 84]⟩ : ByteArray), .string (⟨#[]⟩ : ByteArray), .slice none 0 0, .string (⟨#[]⟩ : ByteArray)]) ?_ 1 _ rfl; (with_reducible repeat first | apply qA | apply qC | apply qB); refine blk_put (cs := #[.string (⟨#[]⟩ : ByteArray), .string (⟨#[]⟩ : ByteArray), .slice none 0 0, .string (⟨#[]⟩ : ByteArray)]) ?_ 0 _ rfl; (with_reducible repeat first | apply qA | apply qC | apply qB); exact BK243.out⟩, ⟨by repeat (first | (with_reducible first | exact HB.out | apply qL | apply qJ | apply qK | refine qI ?_ GE243.out) | exact HB.out)⟩⟩
    case round =>
     clear H'
     try clear c1
     try clear hcv1
     try clear p2
     try clear c6
     try clear c6b0
     try clear c6b1
     try clear p6
     try clear c8
     try clear c8b0
     try clear c8b1
     try clear c9
     try clear c9b0
     try clear c9b1
     try clear hcv12
     try clear c14
     try clear c14b0
     try clear c14b1
     try clear hcz13_0
     try clear hcz13_1
     try clear hcz13_2
     try clear hcz13_3
     try clear hcz5_0
     try clear hcz5_1
     try clear hcz5_2
     try clear hcz5_3
     try clear hfz13_0
     try clear hfz13_1
     try clear hfz13_2
     try clear hfz13_3
     try clear hfz5_0
     try clear hfz5_1
     try clear hfz5_2
     try clear hfz5_3
     obtain ⟨x7_1, x244002_1, u244002, rfl, HA, HK1, HO_244002, BK243, HB⟩ := hrel
     cases gk with
     | zero => exact absurd HA.out (by simp [codicillaw29_HttpLong.l0])
     | succ k1 =>
      have H := HA.out
      clear HA
      simp only [codicillaw29_HttpLong.l0] at H
      obtain ⟨ji15, hji15⟩ : ∃ j_ : Int, (mx (wrap64 (63 + (wrap64 (a0)))) 0) = j_ := ⟨_, rfl⟩
      replace H : (if x7_1 < (ji15) then (if x7_1 < 200 then (if x244002_1.length < 4398046511104 then (codicillaw29_HttpLong.l0 k1 a1 (wrap64 (a0)) (wrap64 (x7_1 + 1)) (⟨#[71, 69, 84]⟩ : ByteArray) (⟨#[47]⟩ : ByteArray) (x244002_1 ++ [(⟨(⟨#[120]⟩ : ByteArray), (⟨#[121]⟩ : ByteArray)⟩ : S59)]) (⟨#[]⟩ : ByteArray)) else (none)) else (codicillaw29_HttpLong.j2 k1 a1 (wrap64 (a0)) (⟨#[71, 69, 84]⟩ : ByteArray) (⟨#[47]⟩ : ByteArray) x244002_1 (⟨#[]⟩ : ByteArray))) else (codicillaw29_HttpLong.j2 k1 a1 (wrap64 (a0)) (⟨#[71, 69, 84]⟩ : ByteArray) (⟨#[47]⟩ : ByteArray) x244002_1 (⟨#[]⟩ : ByteArray))) = some r := by first | (rw [hji15] at H; exact H) | (simp only [hji15] at H ⊢; exact H)
      have hji15_ : (if (wrap64 (63 + (wrap64 (a0)))) < 0 then 0 else (wrap64 (63 + (wrap64 (a0))))) = ji15 := hji15
      by_cases c16 : x7_1 < (ji15)
      ·rw [if_pos c16] at H
       have c16b0 : decide (x7_1 < (ji15)) = true := decide_eq_true c16
       clear c16
       by_cases c17 : x7_1 < 200
       ·rw [if_pos c17] at H
        have c17b0 : decide (x7_1 < 200) = true := decide_eq_true c17
        clear c17
        by_cases c18 : x244002_1.length < 4398046511104
        ·rw [if_pos c18] at H
         have LMc18 := qH c18
         clear c18
         obtain ⟨y247, hy247⟩ : ∃ y_ : List (S59), y_ = (x244002_1 ++ [(⟨(⟨#[120]⟩ : ByteArray), (⟨#[121]⟩ : ByteArray)⟩ : S59)]) := ⟨_, rfl⟩
         replace H : (codicillaw29_HttpLong.l0 k1 a1 (wrap64 (a0)) (wrap64 (x7_1 + 1)) (⟨#[71, 69, 84]⟩ : ByteArray) (⟨#[47]⟩ : ByteArray) y247 (⟨#[]⟩ : ByteArray)) = some r := by first | (rw [hy247]; with_reducible exact H) | (have H2_ := (Option.bind_some _ _).symm.trans H; rw [hy247]; with_reducible exact H2_) | (have H2_ := (Option.bind_some _ _).symm.trans H; with_reducible exact H2_) | with_reducible exact H | (rw [hy247]; exact H) | exact H
         have Ny247 := qH hy247
         clear hy247
         have H' := qH H
         clear H
         have hcz19_0 : wr.cell? ⟨gb243, 0, none⟩ = some (.string (⟨#[71, 69, 84]⟩ : ByteArray)) := (qE BK243.out 0).trans rfl
         have hcz19_1 : wr.cell? ⟨gb243, 1, none⟩ = some (.string (⟨#[47]⟩ : ByteArray)) := (qE BK243.out 1).trans rfl
         have hcz19_2 : wr.cell? ⟨gb243, 2, none⟩ = some (u244002) := (qE BK243.out 2).trans rfl
         have hcz19_3 : wr.cell? ⟨gb243, 3, none⟩ = some (.string (⟨#[]⟩ : ByteArray)) := (qE BK243.out 3).trans rfl
         have hfz19_0 := qF BK243.out 0
         have hfz19_1 := qF BK243.out 1
         have hfz19_2 := qF BK243.out 2
         have hfz19_3 := qF BK243.out 3
         go_wp2_with (first | ((with_reducible refine gate_builtin (b := .append) (xs := #[.tmp 51, .tmp 53]) rfl ?_); (try (refine gate_guard (by rfl) ?_; dsimp only)); at_builtin; refine Kd.R_append k59 (w0 := w) w.heap.size rfl (.tmp 51) (.tmp 53) 23 59 (.agg #[(.string ⟨#[]⟩), (.string ⟨#[]⟩)]) 32 rfl Tryz.underlying23 info59 rfl zz73 zz42 u244002 x244002_1 (⟨(⟨#[120]⟩ : ByteArray), (⟨#[121]⟩ : ByteArray)⟩ : S59) [.string (⟨#[120]⟩ : ByteArray), .string (⟨#[121]⟩ : ByteArray)] (fun _ => True) (fun _ => False) rfl rfl ?aP (fun _ hk => hk.elim) ?aF ?aO ?aB ?aS ?aL ?_; (case aP => exact k59_mkM _ _ _ (⟨(⟨#[120]⟩ : ByteArray), (⟨#[121]⟩ : ByteArray)⟩ : S59)); (case aB => exact zz1); (case aF => exact (fun _ _ => trivial)); (case aO => exact zz8); (case aS => exact (below_size zz1)); (case aL => have := LMc18.out; omega); intro v248 w20 ho hb hg hat; rw [← Ny247.out] at ho; have n0_ := qH (blk_grown (g := gb243) (o := .cells #[.string (⟨#[71, 69, 84]⟩ : ByteArray), .string (⟨#[47]⟩ : ByteArray), u244002, .string (⟨#[]⟩ : ByteArray)] 25 (0, 0)) zz6 hg (Kd.R_ne HO_244002.out BK243.out zz73)); have n1_ := qH (hb); have n2_ := qH (ho); clear BK243; clear HB; clear HO_244002; have BK243 := n0_; have HB := n1_; have HO249 := n2_; clear n0_ n1_ n2_; clear ho hb hg hat; obtain ⟨Ao21, co21, eo21⟩ := Kd.R_slice HO249.out; subst eo21; obtain ⟨hcz22_0, hcz22_1, hcz22_2, hcz22_3⟩ := qc4 BK243.out; obtain ⟨hfz22_0, hfz22_1, hfz22_2, hfz22_3⟩ := qf4 BK243.out))
         go_roundg k1
         case measure => have := HK1.out; omega
         case rel => exact ⟨(wrap64 (x7_1 + 1)), (y247), (.slice Ao21 y247.length co21), zz3, H', ⟨by have := HK1.out; omega⟩, ⟨by (with_reducible repeat (first | apply Kd.R_alloc | apply Kd.R_drewN | apply Kd.R_drew)); exact Kd.R_mono (Kd.R_far (p := ⟨gb243, 2, none⟩) (Kd.R_types HO249.out BK243.out zz73) (fun _ hk => hk.2) (.slice Ao21 y247.length co21)) (fun _ hk => trivial)⟩, ⟨by (with_reducible repeat first | apply qA | apply qC | apply qB); refine blk_put (cs := #[.string (⟨#[71, 69, 84]⟩ : ByteArray), .string (⟨#[47]⟩ : ByteArray), u244002, .string (⟨#[]⟩ : ByteArray)]) ?_ 2 _ rfl; (with_reducible repeat first | apply qA | apply qC | apply qB); exact BK243.out⟩, ⟨by repeat (first | (with_reducible first | exact HB.out | apply qL | apply qJ | apply qK | refine qI ?_ GE243.out) | exact HB.out)⟩⟩
        ·rw [if_neg c18] at H
         exact absurd H zz65
       ·rw [if_neg c17] at H
        have c17b0 : decide (x7_1 < 200) = false := decide_eq_false c17
        clear c17
        have H' := qH H
        clear H
        go_wp2
        repeat (go_quiet (fail); try go_wp2)
        go_meet
        case rel => exact ⟨_, (x244002_1), ((⟨#[]⟩ : ByteArray)), (u244002), H', ⟨by have := HK1.out; first | omega | exact Nat.le_refl _⟩, ⟨by (with_reducible repeat (first | apply Kd.R_alloc | apply Kd.R_drewN | apply Kd.R_drew)); exact HO_244002.out⟩, ⟨by (with_reducible repeat first | apply qA | apply qC | apply qB); exact BK243.out⟩, ⟨by repeat (first | (with_reducible first | exact HB.out | apply qL | apply qJ | apply qK | refine qI ?_ GE243.out) | exact HB.out)⟩⟩
      ·rw [if_neg c16] at H
       have c16b0 : decide (x7_1 < (ji15)) = false := decide_eq_false c16
       clear c16
       have H' := qH H
       clear H
       go_wp2
       repeat (go_quiet (fail); try go_wp2)
       go_meet
       case rel => exact ⟨_, (x244002_1), ((⟨#[]⟩ : ByteArray)), (u244002), H', ⟨by have := HK1.out; first | omega | exact Nat.le_refl _⟩, ⟨by (with_reducible repeat (first | apply Kd.R_alloc | apply Kd.R_drewN | apply Kd.R_drew)); exact HO_244002.out⟩, ⟨by (with_reducible repeat first | apply qA | apply qC | apply qB); exact BK243.out⟩, ⟨by repeat (first | (with_reducible first | exact HB.out | apply qL | apply qJ | apply qK | refine qI ?_ GE243.out) | exact HB.out)⟩⟩
   ·rw [if_neg c14] at H
    have c14b0 : ((Int.tmod a1 3) == 1) = false := beq_eq_false_iff_ne.mpr c14
    have c14b1 : ((Int.tmod a1 3) != 1) = true := bne_iff_ne.mpr c14
    by_cases c23 : (Int.tmod a1 3) = 2
    ·rw [if_pos c23] at H
     have c23b0 : ((Int.tmod a1 3) == 2) = true := beq_iff_eq.mpr c23
     have c23b1 : ((Int.tmod a1 3) != 2) = false := bne_eq_false_iff_eq.mpr c23
     clear c23
     obtain ⟨ji24, hji24⟩ : ∃ j_ : Int, (wrap64 (8150 + (wrap64 (a0)))) = j_ := ⟨_, rfl⟩
     replace H : (if 0 ≤ (ji24) then (if (ji24 : Int).toNat ≤ 281474976710656 then (codicillaw29_HttpLong.l1 k a1 (wrap64 (a0)) (List.replicate (ji24 : Int).toNat 0) 0 (⟨#[71, 69, 84]⟩ : ByteArray) (⟨#[47]⟩ : ByteArray) (⟨#[]⟩ : ByteArray)) else (none)) else (none)) = some r := by first | (rw [hji24] at H; exact H) | (simp only [hji24] at H ⊢; exact H)
     have hji24w : (IntKind.i64.wrap (8150 + (wrap64 (a0)))) = ji24 := (i64_w _).trans hji24
     by_cases c25 : 0 ≤ (ji24)
     ·rw [if_pos c25] at H
      have c25b0 := eq_true c25
      have c25b1 : decide (0 ≤ (ji24)) = true := decide_eq_true c25
      clear c25
      by_cases c26 : (ji24 : Int).toNat ≤ 281474976710656
      ·rw [if_pos c26] at H
       have c26b0 := eq_true c26
       have c26b1 : decide ((ji24 : Int).toNat ≤ 281474976710656) = true := decide_eq_true c26
       clear c26
       obtain ⟨y250, hy250⟩ : ∃ y_ : List Int, y_ = (List.replicate (ji24 : Int).toNat 0) := ⟨_, rfl⟩
       replace H : (codicillaw29_HttpLong.l1 k a1 (wrap64 (a0)) y250 0 (⟨#[71, 69, 84]⟩ : ByteArray) (⟨#[47]⟩ : ByteArray) (⟨#[]⟩ : ByteArray)) = some r := by first | (rw [hy250]; with_reducible exact H) | (have H2_ := (Option.bind_some _ _).symm.trans H; rw [hy250]; with_reducible exact H2_) | (have H2_ := (Option.bind_some _ _).symm.trans H; with_reducible exact H2_) | with_reducible exact H | (rw [hy250]; exact H) | exact H
       have Ny250 := qH hy250
       clear hy250
       have H' := qH H
       clear H
       go_wp2_with (first | ((with_reducible refine gate_dst (N := 60) rfl ?_); (try (refine gate_guard (by rfl) ?_; dsimp only)); refine Kd.R_make (Kd.int .u8) _ 5 rfl (N := 60) rfl 57 _ _ rfl ji24 rfl rfl Tryz.underlying57 (.int .u8 0) 1 info5 rfl zz73 zz42 0 (ok := fun _ => True) (okp := fun _ => True) rfl (fun _ hk => hk) trivial (of_decide_eq_true zz0) (Nat.le_trans (Nat.mul_le_mul_right _ (of_decide_eq_true zz0 : ji24.toNat ≤ 281474976710656)) zz42) (Below.refl _ _) (Nat.le_refl _) ?_; intro v251 w27 ho28 hb hg_ hnew_; clear hg_ hnew_; (first | rw [← Ny250.out] at ho28 | (simp only [Int.reduceToNat] at ho28; rw [← Ny250.out] at ho28)); have n0_ := qH (Kd.R_lower ho28 (below_size zz1)); have n1_ := qH (qD (g := gb243) (o := .cells #[.string (⟨#[71, 69, 84]⟩ : ByteArray), .string (⟨#[47]⟩ : ByteArray), .slice none 0 0, .string (⟨#[]⟩ : ByteArray)] 25 (0, 0)) zz7 hb); have n2_ := qH (below_step zz1 hb); clear BK243; clear HB; have HO252 := n0_; have BK243 := n1_; have HB := n2_; clear n0_ n1_ n2_; clear hb ho28))
       go_loopg [9] k (fun kq v9 w' => ∃ (x8_1 : List Int) (x9_1 : Int), v9 = .int .i64 x9_1 ∧ Aside0 (codicillaw29_HttpLong.l1 kq a1 (wrap64 (a0)) x8_1 x9_1 (⟨#[71, 69, 84]⟩ : ByteArray) (⟨#[47]⟩ : ByteArray) (⟨#[]⟩ : ByteArray) = some r) ∧ Aside0 (kq ≤ k) ∧ Aside0 (Kd.R (Kd.int .u8) 5 w' w.heap.size (fun _ => True) v251 x8_1) ∧ Aside0 (w'.heap[gb243]? = some (.cells #[.string (⟨#[71, 69, 84]⟩ : ByteArray), .string (⟨#[47]⟩ : ByteArray), (.slice none 0 0), .string (⟨#[]⟩ : ByteArray)] 25 (0, 0))) ∧ Aside0 (Below w.heap.size w w'))
       case atStart => exact ⟨(y250), (0), zz3, H', ⟨Nat.le_refl _⟩, ⟨by (with_reducible repeat (first | apply Kd.R_alloc | apply Kd.R_drewN | apply Kd.R_drew)); exact HO252.out⟩, ⟨by (with_reducible repeat first | apply qA | apply qC | apply qB); exact BK243.out⟩, ⟨by repeat (first | (with_reducible first | exact HB.out | apply qL | apply qJ | apply qK | refine qI ?_ GE243.out) | exact HB.out)⟩⟩
       case round =>
        clear H'
        try clear c1
        try clear hcv1
        try clear c2
        try clear p2
        try clear c6
        try clear c6b0
        try clear c6b1
        try clear p6
        try clear c8
        try clear c8b0
        try clear c8b1
        try clear c9
        try clear c9b0
        try clear c9b1
        try clear hcv12
        try clear c14
        try clear c14b0
        try clear c14b1
        try clear c16
        try clear c16b0
        try clear c17
        try clear c17b0
        try clear c18
        try clear c23
        try clear c23b0
        try clear c23b1
        try clear c25
        try clear c25b0
        try clear c25b1
        try clear c26
        try clear c26b0
        try clear c26b1
        try clear hcz13_0
        try clear hcz13_1
        try clear hcz13_2
        try clear hcz13_3
        try clear hcz19_0
        try clear hcz19_1
        try clear hcz19_2
        try clear hcz19_3
        try clear hcz22_0
        try clear hcz22_1
        try clear hcz22_2
        try clear hcz22_3
        try clear hcz5_0
        try clear hcz5_1
        try clear hcz5_2
        try clear hcz5_3
        try clear hfz13_0
        try clear hfz13_1
        try clear hfz13_2
        try clear hfz13_3
        try clear hfz19_0
        try clear hfz19_1
        try clear hfz19_2
        try clear hfz19_3
        try clear hfz22_0
        try clear hfz22_1
        try clear hfz22_2
        try clear hfz22_3
        try clear hfz5_0
        try clear hfz5_1
        try clear hfz5_2
        try clear hfz5_3
        try clear p2
        try clear p6
        obtain ⟨x8_1, x9_1, rfl, HA, HK1, HO_8, BK243, HB⟩ := hrel
        cases gk with
        | zero => exact absurd HA.out (by simp [codicillaw29_HttpLong.l1])
        | succ k1 =>
         have H := HA.out
         clear HA
         simp only [codicillaw29_HttpLong.l1] at H
         by_cases c29 : x9_1 < (x8_1.length : Int)
         ·rw [if_pos c29] at H
          have c29b0 : decide (x9_1 < (x8_1.length : Int)) = true := decide_eq_true c29
          clear c29
          by_cases c30 : 0 ≤ x9_1
          ·rw [if_pos c30] at H
           have c30b0 : decide (0 ≤ x9_1) = true := decide_eq_true c30
           clear c30
           obtain ⟨y253, hy253⟩ : ∃ y_ : List Int, y_ = (x8_1.set (x9_1 : Int).toNat 118) := ⟨_, rfl⟩
           replace H : (codicillaw29_HttpLong.l1 k1 a1 (wrap64 (a0)) y253 (wrap64 (x9_1 + 1)) (⟨#[71, 69, 84]⟩ : ByteArray) (⟨#[47]⟩ : ByteArray) (⟨#[]⟩ : ByteArray)) = some r := by first | (rw [hy253]; with_reducible exact H) | (have H2_ := (Option.bind_some _ _).symm.trans H; rw [hy253]; with_reducible exact H2_) | (have H2_ := (Option.bind_some _ _).symm.trans H; with_reducible exact H2_) | with_reducible exact H | (rw [hy253]; exact H) | exact H
           have Ny253 := qH hy253
           clear hy253
           have H' := qH H
           clear H
           obtain ⟨Ao32, co32, eo32⟩ := Kd.R_slice HO_8.out
           subst eo32
           have p31 : 0 ≤ (x9_1 : Int) := of_decide_eq_true zz0
           have q31 : (x9_1 : Int) < ((x8_1.length : Int) : Int) := of_decide_eq_true zz0
           obtain ⟨go31, co31, eo31, gb31, gl31, cl31, HG31⟩ := Kd.R_form HO_8.out zz42
           (first | cases eo31 | (injection eo31 with ea_ en_ ec_; (first | subst ea_ | (injection ea_ with ea_; subst ea_)); subst ec_; clear en_))
           have GB31 := qH gb31
           have GG31 := qH HG31
           clear gb31 gl31 HG31
           obtain ⟨hx31_0, hf31_0⟩ := Kd.R_celln 0 HO_8.out (x9_1 : Int) p31 q31
           replace p31 := eq_true p31
           replace q31 := eq_true q31
           have HP33 := Kd.R_putg HO_8.out (x9_1 : Int) 118
           go_wp2_with (first | ((with_reducible refine gate_store (t := 5) (p := 69) rfl ?_); (try (rw [drewN_self wr]; generalize hq_ : World.drewN wr _ = wr; have n0_ := qH (Kd.R_at hq_ HO_8.out); have n1_ := qH (blk_at hq_ BK243.out); have n2_ := qH (below_at hq_ HB.out); clear hq_ HO_8 BK243 HB; have HO_8 := n0_; have BK243 := n1_; have HB := n2_; clear n0_ n1_ n2_; (try (have HP33 := Kd.R_putg HO_8.out (x9_1 : Int) 118)))); refine store_event (t := 5) (p := 69) (v := ?vo_w34) (w1 := (wr.setCell ⟨go31, (x9_1 : Int).toNat, none⟩ (.int .u8 118))) ?hg ?ho ?hn ?hr ?_; (case ho => rfl); (case hg => rfl); (case hn => rfl); (case hr => first | (go_simp; done) | (go_simp; rfl) | (go_simp; simp [IntKind.wrap_u32]; done)); intro w34 hw; have hg : wr.grownBy w34 (some go31) := (by rw [hw]; exact HP33.2); have hp_ : Kd.R (Kd.int .u8) 5 w34 w.heap.size (fun _ => True) (.slice (some ⟨go31, 0, none⟩) x8_1.length co32) y253 := (by rw [hw, Ny253.out]; exact HP33.1); clear HP33; have n0_ := qH (hp_); have n1_ := qH (blk_grown (g := gb243) (o := .cells #[.string (⟨#[71, 69, 84]⟩ : ByteArray), .string (⟨#[47]⟩ : ByteArray), .slice none 0 0, .string (⟨#[]⟩ : ByteArray)] 25 (0, 0)) zz6 hg (Kd.R_ne HO_8.out BK243.out zz73)); have n2_ := qH ((by rw [hw]; exact qI (HB.out) GB31.out : Below w.heap.size w w34)); clear HO_8; clear BK243; clear HB; have HO_8 := n0_; have BK243 := n1_; have HB := n2_; clear n0_ n1_ n2_; clear hg hw hp_))
           go_roundg k1
           case measure => have := HK1.out; omega
           case rel => exact ⟨(y253), (wrap64 (x9_1 + 1)), zz3, H', ⟨by have := HK1.out; omega⟩, ⟨by (with_reducible repeat (first | apply Kd.R_alloc | apply Kd.R_drewN | apply Kd.R_drew)); exact HO_8.out⟩, ⟨by (with_reducible repeat first | apply qA | apply qC | apply qB); exact BK243.out⟩, ⟨by repeat (first | (with_reducible first | exact HB.out | apply qL | apply qJ | apply qK | refine qI ?_ GE243.out) | exact HB.out)⟩⟩
          ·rw [if_neg c30] at H
           exact absurd H zz65
         ·rw [if_neg c29] at H
          have c29b0 : decide (x9_1 < (x8_1.length : Int)) = false := decide_eq_false c29
          clear c29
          obtain ⟨y254, hy254⟩ : ∃ y_ : List (S59), y_ = (([(⟨(⟨#[120]⟩ : ByteArray), strOfNums x8_1⟩ : S59)] : List (S59))) := ⟨_, rfl⟩
          replace H : (codicillaw29_HttpLong.j2 k1 a1 (wrap64 (a0)) (⟨#[71, 69, 84]⟩ : ByteArray) (⟨#[47]⟩ : ByteArray) y254 (⟨#[]⟩ : ByteArray)) = some r := by first | (rw [hy254]; with_reducible exact H) | (have H2_ := (Option.bind_some _ _).symm.trans H; rw [hy254]; with_reducible exact H2_) | (have H2_ := (Option.bind_some _ _).symm.trans H; with_reducible exact H2_) | with_reducible exact H | (rw [hy254]; exact H) | exact H
          have Ny254 := qH hy254
          clear hy254
          have H' := qH H
          clear H
          obtain ⟨Ao35, co35, eo35⟩ := Kd.R_slice HO_8.out
          subst eo35
          have hcv36 := own_string (P := Tryz.prog) Tryz.underlying57 Tryz.underlying5 Tryz.underlying9 (Kd.own_of_R HO_8.out)
          go_wp2_with (first | ((with_reducible refine gate_dst (N := 73) rfl ?_); (try (refine gate_guard (by rfl) ?_; dsimp only)); refine Kd.R_lit k59 _ 59 ?hg (N := 73) ?hd (xs := ([(⟨(⟨#[120]⟩ : ByteArray), strOfNums x8_1⟩ : S59)] : List (S59))) (inner := [.string (⟨#[120]⟩ : ByteArray), .string (strOfNums x8_1)]) (ok := fun _ => True) (okp := fun _ => True) ?hr ?hp (fun _ hk => hk) trivial (Below.refl _ _) (Nat.le_refl _) zz65 ?_; (case hd => rfl); (case hg => rfl); (case hr => first | (go_simp; done) | (go_simp; rfl) | (go_simp; simp [IntKind.wrap_u32]; done)); (case hp => exact (Reps.c2 (show Kd.M k59 _ _ _ (⟨(⟨#[120]⟩ : ByteArray), strOfNums x8_1⟩ : S59) [.string (⟨#[120]⟩ : ByteArray), .string (strOfNums x8_1)] from (k59_mkM _ _ _ (⟨(⟨#[120]⟩ : ByteArray), strOfNums x8_1⟩ : S59) )) (Reps.none _ _))); intro v255 w37 ho38 hb hg_ hnew_; clear hg_ hnew_; (first | rw [← Ny254.out] at ho38 | (simp only [Int.reduceToNat] at ho38; rw [← Ny254.out] at ho38)); have n0_ := qH (Kd.R_below zz79 hb); have n1_ := qH (Kd.R_lower ho38 (below_size zz1)); have n2_ := qH (qD (g := gb243) (o := .cells #[.string (⟨#[71, 69, 84]⟩ : ByteArray), .string (⟨#[47]⟩ : ByteArray), .slice none 0 0, .string (⟨#[]⟩ : ByteArray)] 25 (0, 0)) zz6 hb); have n3_ := qH (below_step zz1 hb); clear HO_8; clear BK243; clear HB; have HO_8 := n0_; have HO256 := n1_; have BK243 := n2_; have HB := n3_; clear n0_ n1_ n2_ n3_; clear hb ho38; obtain ⟨Ao39, co39, eo39⟩ := Kd.R_slice HO256.out; subst eo39; obtain ⟨hcz40_0, hcz40_1, hcz40_2, hcz40_3⟩ := qc4 BK243.out; obtain ⟨hfz40_0, hfz40_1, hfz40_2, hfz40_3⟩ := qf4 BK243.out))
          go_meet
          case rel => exact ⟨_, (y254), ((⟨#[]⟩ : ByteArray)), (.slice Ao39 y254.length co39), H', ⟨by have := HK1.out; first | omega | exact Nat.le_refl _⟩, ⟨by (with_reducible repeat (first | apply Kd.R_alloc | apply Kd.R_drewN | apply Kd.R_drew)); exact Kd.R_mono (Kd.R_far (p := ⟨gb243, 2, none⟩) (Kd.R_types HO256.out BK243.out zz73) (fun _ hk => hk.2) (.slice Ao39 y254.length co39)) (fun _ hk => trivial)⟩, ⟨by (with_reducible repeat first | apply qA | apply qC | apply qB); refine blk_put (cs := #[.string (⟨#[71, 69, 84]⟩ : ByteArray), .string (⟨#[47]⟩ : ByteArray), .slice none 0 0, .string (⟨#[]⟩ : ByteArray)]) ?_ 2 _ rfl; (with_reducible repeat first | apply qA | apply qC | apply qB); exact BK243.out⟩, ⟨by repeat (first | (with_reducible first | exact HB.out | apply qL | apply qJ | apply qK | refine qI ?_ GE243.out) | exact HB.out)⟩⟩
      ·rw [if_neg c26] at H
       exact absurd H zz65
     ·rw [if_neg c25] at H
      exact absurd H zz65
    ·rw [if_neg c23] at H
     have c23b0 : ((Int.tmod a1 3) == 2) = false := beq_eq_false_iff_ne.mpr c23
     have c23b1 : ((Int.tmod a1 3) != 2) = true := bne_iff_ne.mpr c23
     have H' := qH H
     clear H
     go_wp2
     repeat (go_quiet (fail); try go_wp2)
     go_meet
     case rel => exact ⟨_, (([] : List (S59))), ((⟨#[]⟩ : ByteArray)), (.slice none 0 0), H', ⟨by first | omega | exact Nat.le_refl _⟩, ⟨by first | exact Kd.R_nil _ _ _ _ _ | exact Kd.N_nil _ _ _ _ _ | exact Kd.V_nil _ _ _ _ _ | exact Kd.Q_nil _ _ _ _ _ | exact Kd.S_nil _ _ _ _ _⟩, ⟨by (with_reducible repeat first | apply qA | apply qC | apply qB); refine blk_put (cs := #[.string (⟨#[71, 69, 84]⟩ : ByteArray), .string (⟨#[47]⟩ : ByteArray), .slice none 0 0, .string (⟨#[]⟩ : ByteArray)]) ?_ 3 _ rfl; (with_reducible repeat first | apply qA | apply qC | apply qB); refine blk_put (cs := #[.string (⟨#[71, 69, 84]⟩ : ByteArray), .string (⟨#[47]⟩ : ByteArray), .slice none 0 0, .string (⟨#[]⟩ : ByteArray)]) ?_ 2 _ rfl; (with_reducible repeat first | apply qA | apply qC | apply qB); refine blk_put (cs := #[.string (⟨#[71, 69, 84]⟩ : ByteArray), .string (⟨#[]⟩ : ByteArray), .slice none 0 0, .string (⟨#[]⟩ : ByteArray)]) ?_ 1 _ rfl; (with_reducible repeat first | apply qA | apply qC | apply qB); refine blk_put (cs := #[.string (⟨#[]⟩ : ByteArray), .string (⟨#[]⟩ : ByteArray), .slice none 0 0, .string (⟨#[]⟩ : ByteArray)]) ?_ 0 _ rfl; (with_reducible repeat first | apply qA | apply qC | apply qB); exact BK243.out⟩, ⟨by repeat (first | (with_reducible first | exact HB.out | apply qL | apply qJ | apply qK | refine qI ?_ GE243.out) | exact HB.out)⟩⟩
 case rest =>
  clear HC3
  try clear c1
  try clear hcv1
  try clear c2
  try clear p2
  try clear c3
  try clear p3
  try clear q3
  try clear hx3
  try clear hcv3
  try clear hf3
  try clear c6
  try clear c6b0
  try clear c6b1
  try clear p6
  try clear c8
  try clear c8b0
  try clear c8b1
  try clear c9
  try clear c9b0
  try clear c9b1
  try clear hcv12
  try clear c14
  try clear c14b0
  try clear c14b1
  try clear c16
  try clear c16b0
  try clear c17
  try clear c17b0
  try clear c18
  try clear c23
  try clear c23b0
  try clear c23b1
  try clear c25
  try clear c25b0
  try clear c25b1
  try clear c26
  try clear c26b0
  try clear c26b1
  try clear c29
  try clear c29b0
  try clear c30
  try clear c30b0
  try clear p31
  try clear q31
  try clear hx31
  try clear hf31
  try clear hcv36
  try clear hcz13_0
  try clear hcz13_1
  try clear hcz13_2
  try clear hcz13_3
  try clear hcz19_0
  try clear hcz19_1
  try clear hcz19_2
  try clear hcz19_3
  try clear hcz22_0
  try clear hcz22_1
  try clear hcz22_2
  try clear hcz22_3
  try clear hcz40_0
  try clear hcz40_1
  try clear hcz40_2
  try clear hcz40_3
  try clear hcz5_0
  try clear hcz5_1
  try clear hcz5_2
  try clear hcz5_3
  try clear hfz13_0
  try clear hfz13_1
  try clear hfz13_2
  try clear hfz13_3
  try clear hfz19_0
  try clear hfz19_1
  try clear hfz19_2
  try clear hfz19_3
  try clear hfz22_0
  try clear hfz22_1
  try clear hfz22_2
  try clear hfz22_3
  try clear hfz40_0
  try clear hfz40_1
  try clear hfz40_2
  try clear hfz40_3
  try clear hfz5_0
  try clear hfz5_1
  try clear hfz5_2
  try clear hfz5_3
  try clear hx31_0
  try clear p2
  try clear p31
  try clear p6
  try clear q31
  obtain ⟨kq, x244002_2, x244003_2, u244002, HA, HJ2, HO_244002, BK243, HB⟩ := hcut
  cases kq with
  | zero => exact absurd HA.out (by simp [codicillaw29_HttpLong.j2])
  | succ kj2 =>
   have H := HA.out
   clear HA
   simp only [codicillaw29_HttpLong.j2] at H
   replace H := Option.bind_eq_some_iff.mp H
   obtain ⟨⟨t257, t258⟩, A410, H⟩ := H
   (try dsimp only at H)
   have A41 := qH A410
   clear A410
   replace H := Option.bind_eq_some_iff.mp H
   obtain ⟨⟨t259, t260⟩, A420, H⟩ := H
   (try dsimp only at H)
   have A42 := qH A420
   clear A420
   have HC43 := qH H
   clear H
   have hcz44_0 : wc.cell? ⟨gb243, 0, none⟩ = some (.string (⟨#[71, 69, 84]⟩ : ByteArray)) := (qE BK243.out 0).trans rfl
   have hcz44_1 : wc.cell? ⟨gb243, 1, none⟩ = some (.string (⟨#[47]⟩ : ByteArray)) := (qE BK243.out 1).trans rfl
   have hcz44_2 : wc.cell? ⟨gb243, 2, none⟩ = some (u244002) := (qE BK243.out 2).trans rfl
   have hcz44_3 : wc.cell? ⟨gb243, 3, none⟩ = some (.string x244003_2) := (qE BK243.out 3).trans rfl
   have hfz44_0 := qF BK243.out 0
   have hfz44_1 := qF BK243.out 1
   have hfz44_2 := qF BK243.out 2
   have hfz44_3 := qF BK243.out 3
   obtain ⟨Ao45, co45, eo45⟩ := Kd.R_slice HO_244002.out
   subst eo45
   go_upto_region 20 with (first | (go_at_call 20; (with_reducible refine (http_Ask.calls (⟨#[71, 69, 84]⟩ : ByteArray) (⟨#[47]⟩ : ByteArray) _ _ x244002_2 x244003_2 t257 t258 _ ?side1 ?side2 A41.out (HL.later zz5)).mono ?_); (case side1 => repeat (first | exact (Kd.R_reads' HO_244002.out).2.2 | (with_reducible refine Kd.C_alloc ?_ _) | (with_reducible refine Kd.C_drewN ?_ _) | (with_reducible refine Kd.C_drew ?_))); (case side2 => exact (Kd.R_reads' HO_244002.out).2.1); rintro e w46 ⟨rfl, hb⟩; have n0_ := qH (Kd.R_below zz8 hb); have n1_ := qH (qD (g := gb243) (o := .cells #[.string (⟨#[71, 69, 84]⟩ : ByteArray), .string (⟨#[47]⟩ : ByteArray), .slice Ao45 x244002_2.length co45, .string x244003_2] 25 (0, 0)) zz6 hb); have n2_ := qH (below_step zz1 hb); clear HO_244002; clear BK243; clear HB; have HO_244002 := n0_; have BK243 := n1_; have HB := n2_; clear n0_ n1_ n2_; (try clear hb); (try clear hb2); (try clear hk); (try clear hi); obtain ⟨hcz47_0, hcz47_1, hcz47_2, hcz47_3⟩ := qc4 BK243.out; obtain ⟨hfz47_0, hfz47_1, hfz47_2, hfz47_3⟩ := qf4 BK243.out) | (go_at_call 21; (with_reducible refine (codicilref29_Ask.calls kj2 (⟨#[71, 69, 84]⟩ : ByteArray) (⟨#[47]⟩ : ByteArray) _ _ x244002_2 x244003_2 t259 t260 _ ?side1 ?side2 A42.out (HL.later zz5)).mono ?_); (case side1 => repeat (first | exact (Kd.R_reads' HO_244002.out).2.2 | (with_reducible refine Kd.C_alloc ?_ _) | (with_reducible refine Kd.C_drewN ?_ _) | (with_reducible refine Kd.C_drew ?_))); (case side2 => exact (Kd.R_reads' HO_244002.out).2.1); rintro e w48 ⟨rfl, hb⟩; have n0_ := qH (Kd.R_below zz8 hb); have n1_ := qH (qD (g := gb243) (o := .cells #[.string (⟨#[71, 69, 84]⟩ : ByteArray), .string (⟨#[47]⟩ : ByteArray), .slice Ao45 x244002_2.length co45, .string x244003_2] 25 (0, 0)) zz6 hb); have n2_ := qH (below_step zz1 hb); clear HO_244002; clear BK243; clear HB; have HO_244002 := n0_; have BK243 := n1_; have HB := n2_; clear n0_ n1_ n2_; (try clear hb); (try clear hb2); (try clear hk); (try clear hi)))
   (try simp only [Act.put, List.setIfInBounds_toArray, List.set_cons_zero, List.set_cons_succ])
   go_cut [99] (fun v99 wc => ∃ (kq : Nat) (x99_42 : Bool), v99 = .bool x99_42 ∧ Aside0 (codicillaw29_HttpLong.j3 kq a1 t257 t258 x99_42 (⟨#[71, 69, 84]⟩ : ByteArray) (⟨#[47]⟩ : ByteArray) x244002_2 x244003_2 = some r) ∧ Aside0 (kq ≤ kj2) ∧ Aside0 (Kd.R k59 59 wc w.heap.size (fun _ => True) (.slice Ao45 x244002_2.length co45) x244002_2) ∧ Aside0 (wc.heap[gb243]? = some (.cells #[.string (⟨#[71, 69, 84]⟩ : ByteArray), .string (⟨#[47]⟩ : ByteArray), (.slice Ao45 x244002_2.length co45), .string x244003_2] 25 (0, 0))) ∧ Aside0 (Below w.heap.size w wc))
   case first =>
    have H := HC43.out
    clear HC43
    by_cases c49 : t257.toList = t259.toList
    ·rw [if_pos c49] at H
     have c49b0 : (t257.toList == t259.toList) = true := beq_iff_eq.mpr c49
     have c49b1 : (t257.toList != t259.toList) = false := bne_eq_false_iff_eq.mpr c49
     clear c49
     (first | rw [c49b0] | (simp only [i64_w, i32_w]; rw [c49b0]) | skip)
     by_cases c50 : t258 = t260
     ·rw [if_pos c50] at H
      have c50b0 : (t258 == t260) = true := beq_iff_eq.mpr c50
      have c50b1 : (t258 != t260) = false := bne_eq_false_iff_eq.mpr c50
      clear c50
      have H' := qH H
      clear H
      go_wp2
      repeat (go_quiet (fail); try go_wp2)
      go_meet
      case rel => exact ⟨_, (((t258 == 0) != (decide ((wrap64 (a0)) ≤ 0)))), zz3, H', ⟨by have := HJ2.out; first | omega | exact Nat.le_refl _⟩, ⟨by (with_reducible repeat (first | apply Kd.R_alloc | apply Kd.R_drewN | apply Kd.R_drew)); exact HO_244002.out⟩, ⟨by (with_reducible repeat first | apply qA | apply qC | apply qB); exact BK243.out⟩, ⟨by repeat (first | (with_reducible first | exact HB.out | apply qL | apply qJ | apply qK | refine qI ?_ GE243.out) | exact HB.out)⟩⟩
     ·rw [if_neg c50] at H
      have c50b0 : (t258 == t260) = false := beq_eq_false_iff_ne.mpr c50
      have c50b1 : (t258 != t260) = true := bne_iff_ne.mpr c50
      have H' := qH H
      clear H
      go_wp2
      repeat (go_quiet (fail); try go_wp2)
      go_meet
      case rel => exact ⟨_, (true), zz3, H', ⟨by have := HJ2.out; first | omega | exact Nat.le_refl _⟩, ⟨by (with_reducible repeat (first | apply Kd.R_alloc | apply Kd.R_drewN | apply Kd.R_drew)); exact HO_244002.out⟩, ⟨by (with_reducible repeat first | apply qA | apply qC | apply qB); exact BK243.out⟩, ⟨by repeat (first | (with_reducible first | exact HB.out | apply qL | apply qJ | apply qK | refine qI ?_ GE243.out) | exact HB.out)⟩⟩
    ·rw [if_neg c49] at H
     have c49b0 : (t257.toList == t259.toList) = false := beq_eq_false_iff_ne.mpr c49
     have c49b1 : (t257.toList != t259.toList) = true := bne_iff_ne.mpr c49
     (first | rw [c49b0] | (simp only [i64_w, i32_w]; rw [c49b0]) | skip)
     have H' := qH H
     clear H
     go_wp2
     repeat (go_quiet (fail); try go_wp2)
     go_meet
     case rel => exact ⟨_, (true), zz3, H', ⟨by have := HJ2.out; first | omega | exact Nat.le_refl _⟩, ⟨by (with_reducible repeat (first | apply Kd.R_alloc | apply Kd.R_drewN | apply Kd.R_drew)); exact HO_244002.out⟩, ⟨by (with_reducible repeat first | apply qA | apply qC | apply qB); exact BK243.out⟩, ⟨by repeat (first | (with_reducible first | exact HB.out | apply qL | apply qJ | apply qK | refine qI ?_ GE243.out) | exact HB.out)⟩⟩
   case rest =>
    clear HC43
    try clear c1
    try clear hcv1
    try clear c2
    try clear p2
    try clear c3
    try clear p3
    try clear q3
    try clear hx3
    try clear hcv3
    try clear hf3
    try clear c4
    try clear c5
    try clear c6
    try clear c6b0
    try clear c6b1
    try clear p6
    try clear c8
    try clear c8b0
    try clear c8b1
    try clear c9
    try clear c9b0
    try clear c9b1
    try clear hcv12
    try clear c14
    try clear c14b0
    try clear c14b1
    try clear c16
    try clear c16b0
    try clear c17
    try clear c17b0
    try clear c18
    try clear c23
    try clear c23b0
    try clear c23b1
    try clear c25
    try clear c25b0
    try clear c25b1
    try clear c26
    try clear c26b0
    try clear c26b1
    try clear c29
    try clear c29b0
    try clear c30
    try clear c30b0
    try clear p31
    try clear q31
    try clear hx31
    try clear hf31
    try clear hcv36
    try clear c49
    try clear c49b0
    try clear c49b1
    try clear c50
    try clear c50b0
    try clear c50b1
    try clear hcz13_0
    try clear hcz13_1
    try clear hcz13_2
    try clear hcz13_3
    try clear hcz19_0
    try clear hcz19_1
    try clear hcz19_2
    try clear hcz19_3
    try clear hcz22_0
    try clear hcz22_1
    try clear hcz22_2
    try clear hcz22_3
    try clear hcz40_0
    try clear hcz40_1
    try clear hcz40_2
    try clear hcz40_3
    try clear hcz44_0
    try clear hcz44_1
    try clear hcz44_2
    try clear hcz44_3
    try clear hcz47_0
    try clear hcz47_1
    try clear hcz47_2
    try clear hcz47_3
    try clear hcz5_0
    try clear hcz5_1
    try clear hcz5_2
    try clear hcz5_3
    try clear hfz13_0
    try clear hfz13_1
    try clear hfz13_2
    try clear hfz13_3
    try clear hfz19_0
    try clear hfz19_1
    try clear hfz19_2
    try clear hfz19_3
    try clear hfz22_0
    try clear hfz22_1
    try clear hfz22_2
    try clear hfz22_3
    try clear hfz40_0
    try clear hfz40_1
    try clear hfz40_2
    try clear hfz40_3
    try clear hfz44_0
    try clear hfz44_1
    try clear hfz44_2
    try clear hfz44_3
    try clear hfz47_0
    try clear hfz47_1
    try clear hfz47_2
    try clear hfz47_3
    try clear hfz5_0
    try clear hfz5_1
    try clear hfz5_2
    try clear hfz5_3
    try clear hx31_0
    try clear p2
    try clear p3
    try clear p31
    try clear p6
    try clear q3
    try clear q31
    obtain ⟨kq, x99_42, rfl, HA, HJ42, HO_244002, BK243, HB⟩ := hcut
    cases kq with
    | zero => exact absurd HA.out (by simp [codicillaw29_HttpLong.j3])
    | succ kj42 =>
     have H := HA.out
     clear HA
     simp only [codicillaw29_HttpLong.j3] at H
     by_cases c51 : x99_42 = true
     ·subst c51
      have H1 : (some false) = some r := by rw [if_pos rfl] at H; exact H
      clear H
      have H := H1
      clear H1
      obtain rfl := Option.some.inj H
      exact absurd hTrue.out zz73
     ·replace c51 := Bool.eq_false_iff.mpr c51
      subst c51
      have H1 : (if t258 = 0 then ((http_Read.f t257).bind fun bt261 => ((codicillaw29_Requests.f kj42 bt261.1 bt261.2.1 bt261.2.2.1 bt261.2.2.2.1 (⟨#[71, 69, 84]⟩ : ByteArray) (⟨#[47]⟩ : ByteArray) x244002_2 x244003_2).bind fun t270 => (if t270 = true then (if bt261.2.2.2.2.1 = (t257.size : Int) then (if bt261.2.2.2.2.2 = 0 then ((codicillaw29_alive.f kj42).bind fun t271 => (some t271)) else (some false)) else (some false)) else (some false)))) else (codicillaw29_HttpLong.l2 kj42 a1 (⟨#[71, 69, 84, 32, 47, 32, 72, 84, 84, 80, 47, 49, 46, 49, 13, 10]⟩ : ByteArray) 0 (⟨#[71, 69, 84]⟩ : ByteArray) (⟨#[47]⟩ : ByteArray) x244002_2 x244003_2)) = some r := by rw [if_neg (show ¬ (false = true) by decide)] at H; exact H
      clear H
      have H := H1
      clear H1
      by_cases c52 : t258 = 0
      ·rw [if_pos c52] at H
       have c52b0 : (t258 == 0) = true := beq_iff_eq.mpr c52
       have c52b1 : (t258 != 0) = false := bne_eq_false_iff_eq.mpr c52
       clear c52
       replace H := Option.bind_eq_some_iff.mp H
       obtain ⟨⟨t261, t262, t263, t266, t267, t268⟩, A530, H⟩ := H
       (try dsimp only at H)
       have A53 := qH A530
       clear A530
       replace H := Option.bind_eq_some_iff.mp H
       obtain ⟨t270, A540, H⟩ := H
       (try dsimp only at H)
       have A54 := qH A540
       clear A540
       by_cases c55 : t270 = true
       ·subst c55
        have H1 : (if t267 = (t257.size : Int) then (if t268 = 0 then ((codicillaw29_alive.f kj42).bind fun t271 => (some t271)) else (some false)) else (some false)) = some r := by rw [if_pos rfl] at H; exact H
        clear H
        have H := H1
        clear H1
        by_cases c56 : t267 = (t257.size : Int)
        ·rw [if_pos c56] at H
         have c56b0 : (t267 == (t257.size : Int)) = true := beq_iff_eq.mpr c56
         have c56b1 : (t267 != (t257.size : Int)) = false := bne_eq_false_iff_eq.mpr c56
         clear c56
         by_cases c57 : t268 = 0
         ·rw [if_pos c57] at H
          have c57b0 : (t268 == 0) = true := beq_iff_eq.mpr c57
          have c57b1 : (t268 != 0) = false := bne_eq_false_iff_eq.mpr c57
          clear c57
          replace H := Option.bind_eq_some_iff.mp H
          obtain ⟨t271, A580, H⟩ := H
          (try dsimp only at H)
          have A58 := qH A580
          clear A580
          obtain rfl := Option.some.inj H
          simp only [Option.some.injEq, Prod.mk.injEq] at H
          obtain ⟨rfl⟩ := H
          go_wp2_with (first | (go_at_call 10; (with_reducible refine (http_Read.calls t257 t261 t262 t263 t266 t267 t268 _ A53.out (HL.later zz5)).mono ?_); rintro e w59 ⟨v264, rfl, ho0, hb⟩; have n0_ := qH (Kd.R_elder' zz8 (Kd.R_base ho0) hb); have n1_ := qH (Kd.R_lower (Kd.R_new' ho0 (Kd.R_lt zz8)) (below_size zz1)); have n2_ := qH (qD (g := gb243) (o := .cells #[.string (⟨#[71, 69, 84]⟩ : ByteArray), .string (⟨#[47]⟩ : ByteArray), .slice Ao45 x244002_2.length co45, .string x244003_2] 25 (0, 0)) zz6 hb); have n3_ := qH (below_step zz1 hb); clear HO_244002; clear BK243; clear HB; have HO_244002 := n0_; have HO265 := n1_; have BK243 := n2_; have HB := n3_; clear n0_ n1_ n2_ n3_; (try clear hb); (try clear hb2); (try clear hk); (try clear hi); (try clear ho0)) | ((with_reducible refine gate_dst (N := 14) rfl ?_); (try (refine gate_guard (by rfl) ?_; dsimp only)); refine box_event ?hg (N := 14) ?hd (cs := #[.string (⟨#[]⟩ : ByteArray), .string (⟨#[]⟩ : ByteArray), .slice none 0 0, .string (⟨#[]⟩ : ByteArray)]) (t := 25) ?hr ?_; (case hd => rfl); (case hg => rfl); (case hr => first | (go_simp; done) | (go_simp; rfl) | (go_simp; simp [IntKind.wrap_u32]; done)); intro gb269 hg w60 hbox hb; have n0_ := qH (Kd.R_below zz8 hb); have n1_ := qH (Kd.R_below zz50 hb); have n2_ := qH (qD (g := gb243) (o := .cells #[.string (⟨#[71, 69, 84]⟩ : ByteArray), .string (⟨#[47]⟩ : ByteArray), .slice Ao45 x244002_2.length co45, .string x244003_2] 25 (0, 0)) zz6 hb); have n3_ := qH (below_step zz1 hb); have n4_ := qH (hbox); have n5_ := qH ((by rw [hg]; exact (below_size zz1) : w.heap.size ≤ gb269)); have n6_ := n5_; have n7_ := qH ((by rw [hg]; exact qN (blk_lt (g := gb243) (o := .cells #[.string (⟨#[71, 69, 84]⟩ : ByteArray), .string (⟨#[47]⟩ : ByteArray), .slice Ao45 x244002_2.length co45, .string x244003_2] 25 (0, 0)) zz6) : gb243 ≠ gb269)); have n8_ := qH ((by rw [hg]; exact Nat.ne_of_gt (blk_lt (g := gb243) (o := .cells #[.string (⟨#[71, 69, 84]⟩ : ByteArray), .string (⟨#[47]⟩ : ByteArray), .slice Ao45 x244002_2.length co45, .string x244003_2] 25 (0, 0)) zz6) : gb269 ≠ gb243)); clear HO_244002; clear HO265; clear BK243; clear HB; have HO_244002 := n0_; have HO265 := n1_; have BK243 := n2_; have HB := n3_; have BK269 := n4_; have GW269 := n5_; have GE269 := n6_; have NB243_269 := n7_; have NB269_243 := n8_; clear n0_ n1_ n2_ n3_ n4_ n5_ n6_ n7_ n8_; clear hb hbox hg; have hnb61 := NB269_243.out; have hnc61 := NB243_269.out; obtain ⟨hcz62_0, hcz62_1, hcz62_2, hcz62_3⟩ := qc4 BK269.out; obtain ⟨hfz62_0, hfz62_1, hfz62_2, hfz62_3⟩ := qf4 BK269.out; obtain ⟨Ao63, co63, eo63⟩ := Kd.R_slice HO265.out; subst eo63; obtain ⟨hcz64_0, hcz64_1, hcz64_2, hcz64_3⟩ := qc4 BK243.out; obtain ⟨hfz64_0, hfz64_1, hfz64_2, hfz64_3⟩ := qf4 BK243.out) | (go_at_call 14; (with_reducible refine (codicillaw29_Requests.calls kj42 t261 t262 _ _ t263 t266 (⟨#[71, 69, 84]⟩ : ByteArray) (⟨#[47]⟩ : ByteArray) _ _ x244002_2 x244003_2 true _ ?side1 ?side2 ?side3 ?side4 A54.out).mono ?_); (case side1 => refine (Kd.R_reads' (e := 59) (base := w.heap.size) (ok := fun k_ => (True ∧ some k_ ≠ (.slice Ao45 x244002_2.length co45 : Value).ownBlock)) (n := t263.length) (c := co63) ?_).2.2; exact zz13); (case side2 => exact (Kd.R_reads' HO265.out).2.1); (case side3 => refine (Kd.R_reads' (e := 59) (base := w.heap.size) (ok := fun k_ => (True ∧ some k_ ≠ (.slice Ao63 t263.length co63 : Value).ownBlock)) (n := x244002_2.length) (c := co45) ?_).2.2; exact zz10); (case side4 => exact (Kd.R_reads' HO_244002.out).2.1); rintro e w65 ⟨rfl, hb⟩; have n0_ := qH (Kd.R_below zz10 hb); have n1_ := qH (Kd.R_below zz13 hb); have n2_ := qH (qD (g := gb243) (o := .cells #[.string (⟨#[71, 69, 84]⟩ : ByteArray), .string (⟨#[47]⟩ : ByteArray), .slice Ao45 x244002_2.length co45, .string x244003_2] 25 (0, 0)) zz33 hb); have n3_ := qH (qD (g := gb269) (o := .cells #[.string t261, .string t262, .slice Ao63 t263.length co63, .string t266] 25 (0, 0)) zz18 hb); have n4_ := qH (below_step zz44 hb); clear HO_244002; clear HO265; clear BK243; clear BK269; clear HB; have HO_244002 := n0_; have HO265 := n1_; have BK243 := n2_; have BK269 := n3_; have HB := n4_; clear n0_ n1_ n2_ n3_ n4_; (try clear hb); (try clear hb2); (try clear hk); (try clear hi)) | (go_at_call 9; (with_reducible refine (codicillaw29_alive.calls kj42  t271 _ A58.out (HL.later zz5)).mono ?_); rintro e w66 ⟨rfl, hb⟩; have n0_ := qH (Kd.R_below zz8 hb); have n1_ := qH (Kd.R_below zz50 hb); have n2_ := qH (qD (g := gb243) (o := .cells #[.string (⟨#[71, 69, 84]⟩ : ByteArray), .string (⟨#[47]⟩ : ByteArray), .slice Ao45 x244002_2.length co45, .string x244003_2] 25 (0, 0)) zz6 hb); have n3_ := qH (qD (g := gb269) zz80 hb); have n4_ := qH (below_step zz44 hb); clear HO_244002; clear HO265; clear BK243; clear BK269; clear HB; have HO_244002 := n0_; have HO265 := n1_; have BK243 := n2_; have BK269 := n3_; have HB := n4_; clear n0_ n1_ n2_ n3_ n4_; (try clear hb); (try clear hb2); (try clear hk); (try clear hi)))
          go_ret
          exact ⟨by first | rfl | (simp [errW_none, errW_some] <;> rfl) | (simp [*, errW_none, errW_some] <;> rfl), by repeat (first | (with_reducible first | exact HB.out | apply qL | apply qJ | apply qK | refine qI ?_ GE243.out | refine qI ?_ GE269.out) | exact HB.out)⟩
         ·rw [if_neg c57] at H
          have c57b0 : (t268 == 0) = false := beq_eq_false_iff_ne.mpr c57
          have c57b1 : (t268 != 0) = true := bne_iff_ne.mpr c57
          obtain rfl := Option.some.inj H
          exact absurd hTrue.out zz73
        ·rw [if_neg c56] at H
         have c56b0 : (t267 == (t257.size : Int)) = false := beq_eq_false_iff_ne.mpr c56
         have c56b1 : (t267 != (t257.size : Int)) = true := bne_iff_ne.mpr c56
         obtain rfl := Option.some.inj H
         exact absurd hTrue.out zz73
       ·replace c55 := Bool.eq_false_iff.mpr c55
        subst c55
        have H1 : (some false) = some r := by rw [if_neg (show ¬ (false = true) by decide)] at H; exact H
        clear H
        have H := H1
        clear H1
        obtain rfl := Option.some.inj H
        exact absurd hTrue.out zz73
      ·rw [if_neg c52] at H
       have c52b0 : (t258 == 0) = false := beq_eq_false_iff_ne.mpr c52
       have c52b1 : (t258 != 0) = true := bne_iff_ne.mpr c52
       have H' := qH H
       clear H
       go_wp2
       repeat (go_quiet (fail); try go_wp2)
       go_loopg [17, 18] kj42 (fun kq v17 v18 w' => ∃ (x17_3 : ByteArray) (x18_3 : Int), v17 = .string x17_3 ∧ v18 = .int .i64 x18_3 ∧ Aside0 (codicillaw29_HttpLong.l2 kq a1 x17_3 x18_3 (⟨#[71, 69, 84]⟩ : ByteArray) (⟨#[47]⟩ : ByteArray) x244002_2 x244003_2 = some r) ∧ Aside0 (kq ≤ kj42) ∧ Aside0 (Kd.R k59 59 w' w.heap.size (fun _ => True) (.slice Ao45 x244002_2.length co45) x244002_2) ∧ Aside0 (w'.heap[gb243]? = some (.cells #[.string (⟨#[71, 69, 84]⟩ : ByteArray), .string (⟨#[47]⟩ : ByteArray), (.slice Ao45 x244002_2.length co45), .string x244003_2] 25 (0, 0))) ∧ Aside0 (Below w.heap.size w w'))
       case atStart => exact ⟨((⟨#[71, 69, 84, 32, 47, 32, 72, 84, 84, 80, 47, 49, 46, 49, 13, 10]⟩ : ByteArray)), (0), zz3, zz3, H', ⟨Nat.le_refl _⟩, ⟨by (with_reducible repeat (first | apply Kd.R_alloc | apply Kd.R_drewN | apply Kd.R_drew)); exact HO_244002.out⟩, ⟨by (with_reducible repeat first | apply qA | apply qC | apply qB); exact BK243.out⟩, ⟨by repeat (first | (with_reducible first | exact HB.out | apply qL | apply qJ | apply qK | refine qI ?_ GE243.out) | exact HB.out)⟩⟩
       case round =>
        clear H'
        try clear c1
        try clear hcv1
        try clear c2
        try clear p2
        try clear c3
        try clear p3
        try clear q3
        try clear hx3
        try clear hcv3
        try clear hf3
        try clear c4
        try clear c5
        try clear c6
        try clear c6b0
        try clear c6b1
        try clear p6
        try clear c8
        try clear c8b0
        try clear c8b1
        try clear c9
        try clear c9b0
        try clear c9b1
        try clear hcv12
        try clear c14
        try clear c14b0
        try clear c14b1
        try clear c16
        try clear c16b0
        try clear c17
        try clear c17b0
        try clear c18
        try clear c23
        try clear c23b0
        try clear c23b1
        try clear c25
        try clear c25b0
        try clear c25b1
        try clear c26
        try clear c26b0
        try clear c26b1
        try clear c29
        try clear c29b0
        try clear c30
        try clear c30b0
        try clear p31
        try clear q31
        try clear hx31
        try clear hf31
        try clear hcv36
        try clear c49
        try clear c49b0
        try clear c49b1
        try clear c50
        try clear c50b0
        try clear c50b1
        try clear c51
        try clear c52
        try clear c52b0
        try clear c52b1
        try clear c55
        try clear c56
        try clear c56b0
        try clear c56b1
        try clear c57
        try clear c57b0
        try clear c57b1
        try clear c61
        try clear p64
        try clear hcz13_0
        try clear hcz13_1
        try clear hcz13_2
        try clear hcz13_3
        try clear hcz19_0
        try clear hcz19_1
        try clear hcz19_2
        try clear hcz19_3
        try clear hcz22_0
        try clear hcz22_1
        try clear hcz22_2
        try clear hcz22_3
        try clear hcz40_0
        try clear hcz40_1
        try clear hcz40_2
        try clear hcz40_3
        try clear hcz44_0
        try clear hcz44_1
        try clear hcz44_2
        try clear hcz44_3
        try clear hcz47_0
        try clear hcz47_1
        try clear hcz47_2
        try clear hcz47_3
        try clear hcz5_0
        try clear hcz5_1
        try clear hcz5_2
        try clear hcz5_3
        try clear hcz62_0
        try clear hcz62_1
        try clear hcz62_2
        try clear hcz62_3
        try clear hcz64_0
        try clear hcz64_1
        try clear hcz64_2
        try clear hcz64_3
        try clear hfz13_0
        try clear hfz13_1
        try clear hfz13_2
        try clear hfz13_3
        try clear hfz19_0
        try clear hfz19_1
        try clear hfz19_2
        try clear hfz19_3
        try clear hfz22_0
        try clear hfz22_1
        try clear hfz22_2
        try clear hfz22_3
        try clear hfz40_0
        try clear hfz40_1
        try clear hfz40_2
        try clear hfz40_3
        try clear hfz44_0
        try clear hfz44_1
        try clear hfz44_2
        try clear hfz44_3
        try clear hfz47_0
        try clear hfz47_1
        try clear hfz47_2
        try clear hfz47_3
        try clear hfz5_0
        try clear hfz5_1
        try clear hfz5_2
        try clear hfz5_3
        try clear hfz62_0
        try clear hfz62_1
        try clear hfz62_2
        try clear hfz62_3
        try clear hfz64_0
        try clear hfz64_1
        try clear hfz64_2
        try clear hfz64_3
        try clear hx31_0
        try clear p2
        try clear p3
        try clear p31
        try clear p6
        try clear q3
        try clear q31
        obtain ⟨x17_3, x18_3, rfl, rfl, HA, HK3, HO_244002, BK243, HB⟩ := hrel
        cases gk with
        | zero => exact absurd HA.out (by simp [codicillaw29_HttpLong.l2])
        | succ k3 =>
         have H := HA.out
         clear HA
         simp only [codicillaw29_HttpLong.l2] at H
         by_cases c67 : x18_3 < (x244002_2.length : Int)
         ·rw [if_pos c67] at H
          have c67b0 : decide (x18_3 < (x244002_2.length : Int)) = true := decide_eq_true c67
          clear c67
          by_cases c68 : 0 ≤ x18_3
          ·rw [if_pos c68] at H
           have c68b0 : decide (0 ≤ x18_3) = true := decide_eq_true c68
           clear c68
           by_cases c69 : x17_3.size + ((rd_T59 x244002_2 x18_3).f0).size ≤ 9223372036854775807
           ·rw [if_pos c69] at H
            have c69b0 := eq_true c69
            have c69b1 : decide (x17_3.size + ((rd_T59 x244002_2 x18_3).f0).size ≤ 9223372036854775807) = true := decide_eq_true c69
            try have c69b2 : (9223372036854775807 < x17_3.size + ((rd_T59 x244002_2 x18_3).f0).size) = False := eq_false (Nat.not_lt.2 c69)
            by_cases c70 : (x17_3 ++ ((rd_T59 x244002_2 x18_3).f0)).size + 2 ≤ 9223372036854775807
            ·rw [if_pos c70] at H
             have c70b0 := eq_true c70
             have c70b1 : decide ((x17_3 ++ ((rd_T59 x244002_2 x18_3).f0)).size + 2 ≤ 9223372036854775807) = true := decide_eq_true c70
             try have c70b2 : (9223372036854775807 < (x17_3 ++ ((rd_T59 x244002_2 x18_3).f0)).size + 2) = False := eq_false (Nat.not_lt.2 c70)
             try (have c70b3 := of_eq_false c70b2; simp only [ByteArray.size_append] at c70b3)
             by_cases c71 : ((x17_3 ++ ((rd_T59 x244002_2 x18_3).f0)) ++ (⟨#[58, 32]⟩ : ByteArray)).size + ((rd_T59 x244002_2 x18_3).f1).size ≤ 9223372036854775807
             ·rw [if_pos c71] at H
              have c71b0 := eq_true c71
              have c71b1 : decide (((x17_3 ++ ((rd_T59 x244002_2 x18_3).f0)) ++ (⟨#[58, 32]⟩ : ByteArray)).size + ((rd_T59 x244002_2 x18_3).f1).size ≤ 9223372036854775807) = true := decide_eq_true c71
              try have c71b2 : (9223372036854775807 < ((x17_3 ++ ((rd_T59 x244002_2 x18_3).f0)) ++ (⟨#[58, 32]⟩ : ByteArray)).size + ((rd_T59 x244002_2 x18_3).f1).size) = False := eq_false (Nat.not_lt.2 c71)
              try (have c71b3 := of_eq_false c71b2; simp only [ByteArray.size_append, show (⟨#[58, 32]⟩ : ByteArray).size = 2 from rfl] at c71b3)
              by_cases c72 : (((x17_3 ++ ((rd_T59 x244002_2 x18_3).f0)) ++ (⟨#[58, 32]⟩ : ByteArray)) ++ ((rd_T59 x244002_2 x18_3).f1)).size + 2 ≤ 9223372036854775807
              ·rw [if_pos c72] at H
               have c72b0 := eq_true c72
               have c72b1 : decide ((((x17_3 ++ ((rd_T59 x244002_2 x18_3).f0)) ++ (⟨#[58, 32]⟩ : ByteArray)) ++ ((rd_T59 x244002_2 x18_3).f1)).size + 2 ≤ 9223372036854775807) = true := decide_eq_true c72
               try have c72b2 : (9223372036854775807 < (((x17_3 ++ ((rd_T59 x244002_2 x18_3).f0)) ++ (⟨#[58, 32]⟩ : ByteArray)) ++ ((rd_T59 x244002_2 x18_3).f1)).size + 2) = False := eq_false (Nat.not_lt.2 c72)
               try (have c72b3 := of_eq_false c72b2; simp only [ByteArray.size_append, show (⟨#[58, 32]⟩ : ByteArray).size = 2 from rfl] at c72b3)
               have H' := qH H
               clear H
               have hcz73_0 : wr.cell? ⟨gb243, 0, none⟩ = some (.string (⟨#[71, 69, 84]⟩ : ByteArray)) := (qE BK243.out 0).trans rfl
               have hcz73_1 : wr.cell? ⟨gb243, 1, none⟩ = some (.string (⟨#[47]⟩ : ByteArray)) := (qE BK243.out 1).trans rfl
               have hcz73_2 : wr.cell? ⟨gb243, 2, none⟩ = some (.slice Ao45 x244002_2.length co45) := (qE BK243.out 2).trans rfl
               have hcz73_3 : wr.cell? ⟨gb243, 3, none⟩ = some (.string x244003_2) := (qE BK243.out 3).trans rfl
               have hfz73_0 := qF BK243.out 0
               have hfz73_1 := qF BK243.out 1
               have hfz73_2 := qF BK243.out 2
               have hfz73_3 := qF BK243.out 3
               have p272 : 0 ≤ (x18_3 : Int) := of_decide_eq_true zz0
               have q272 : x18_3 < (x244002_2.length : Int) := of_decide_eq_true zz0
               obtain ⟨ad272, e272, hx272_0, hx272_1⟩ := at_T59 (Kd.R_reads' HO_244002.out).2.2 x18_3 p272 q272
               cases e272
               replace p272 := eq_true p272
               replace q272 := eq_true q272
               have p273 : 0 ≤ (x18_3 : Int) := of_decide_eq_true zz0
               have q273 : x18_3 < (x244002_2.length : Int) := of_decide_eq_true zz0
               obtain ⟨ad273, e273, hx273_0, hx273_1⟩ := at_T59 (Kd.R_reads' HO_244002.out).2.2 x18_3 p273 q273
               obtain rfl : ad272 = ad273 := (by injection e273)
               replace p273 := eq_true p273
               replace q273 := eq_true q273
               go_wp2
               repeat (go_quiet (fail); try go_wp2)
               go_roundg k3
               case measure => have := HJ2.out; have := HJ42.out; have := HK3.out; omega
               case rel => exact ⟨((((x17_3 ++ ((rd_T59 x244002_2 x18_3).f0)) ++ (⟨#[58, 32]⟩ : ByteArray)) ++ ((rd_T59 x244002_2 x18_3).f1)) ++ (⟨#[13, 10]⟩ : ByteArray)), (wrap64 (x18_3 + 1)), zz3, zz3, H', ⟨by have := HJ2.out; have := HJ42.out; have := HK3.out; omega⟩, ⟨by (with_reducible repeat (first | apply Kd.R_alloc | apply Kd.R_drewN | apply Kd.R_drew)); exact HO_244002.out⟩, ⟨by (with_reducible repeat first | apply qA | apply qC | apply qB); exact BK243.out⟩, ⟨by repeat (first | (with_reducible first | exact HB.out | apply qL | apply qJ | apply qK | refine qI ?_ GE243.out) | exact HB.out)⟩⟩
              ·rw [if_neg c72] at H
               exact absurd H zz65
             ·rw [if_neg c71] at H
              exact absurd H zz65
            ·rw [if_neg c70] at H
             exact absurd H zz65
           ·rw [if_neg c69] at H
            exact absurd H zz65
          ·rw [if_neg c68] at H
           exact absurd H zz65
         ·rw [if_neg c67] at H
          have c67b0 : decide (x18_3 < (x244002_2.length : Int)) = false := decide_eq_false c67
          clear c67
          by_cases c74 : (Int.tmod a1 3) = 0
          ·rw [if_pos c74] at H
           have c74b0 : ((Int.tmod a1 3) == 0) = true := beq_iff_eq.mpr c74
           have c74b1 : ((Int.tmod a1 3) != 0) = false := bne_eq_false_iff_eq.mpr c74
           clear c74
           by_cases c75 : x17_3.size + 23 ≤ 9223372036854775807
           ·rw [if_pos c75] at H
            have c75b0 := eq_true c75
            have c75b1 : decide (x17_3.size + 23 ≤ 9223372036854775807) = true := decide_eq_true c75
            try have c75b2 : (9223372036854775807 < x17_3.size + 23) = False := eq_false (Nat.not_lt.2 c75)
            by_cases c76 : (x17_3 ++ (⟨#[99, 111, 110, 116, 101, 110, 116, 45, 108, 101, 110, 103, 116, 104, 58, 32, 54, 53, 53, 51, 55, 13, 10]⟩ : ByteArray)).size + 2 ≤ 9223372036854775807
            ·rw [if_pos c76] at H
             have c76b0 := eq_true c76
             have c76b1 : decide ((x17_3 ++ (⟨#[99, 111, 110, 116, 101, 110, 116, 45, 108, 101, 110, 103, 116, 104, 58, 32, 54, 53, 53, 51, 55, 13, 10]⟩ : ByteArray)).size + 2 ≤ 9223372036854775807) = true := decide_eq_true c76
             try have c76b2 : (9223372036854775807 < (x17_3 ++ (⟨#[99, 111, 110, 116, 101, 110, 116, 45, 108, 101, 110, 103, 116, 104, 58, 32, 54, 53, 53, 51, 55, 13, 10]⟩ : ByteArray)).size + 2) = False := eq_false (Nat.not_lt.2 c76)
             try (have c76b3 := of_eq_false c76b2; simp only [ByteArray.size_append, show (⟨#[99, 111, 110, 116, 101, 110, 116, 45, 108, 101, 110, 103, 116, 104, 58, 32, 54, 53, 53, 51, 55, 13, 10]⟩ : ByteArray).size = 23 from rfl] at c76b3)
             by_cases c77 : ((x17_3 ++ (⟨#[99, 111, 110, 116, 101, 110, 116, 45, 108, 101, 110, 103, 116, 104, 58, 32, 54, 53, 53, 51, 55, 13, 10]⟩ : ByteArray)) ++ (⟨#[13, 10]⟩ : ByteArray)).size + x244003_2.size ≤ 9223372036854775807
             ·rw [if_pos c77] at H
              have c77b0 := eq_true c77
              have c77b1 : decide (((x17_3 ++ (⟨#[99, 111, 110, 116, 101, 110, 116, 45, 108, 101, 110, 103, 116, 104, 58, 32, 54, 53, 53, 51, 55, 13, 10]⟩ : ByteArray)) ++ (⟨#[13, 10]⟩ : ByteArray)).size + x244003_2.size ≤ 9223372036854775807) = true := decide_eq_true c77
              try have c77b2 : (9223372036854775807 < ((x17_3 ++ (⟨#[99, 111, 110, 116, 101, 110, 116, 45, 108, 101, 110, 103, 116, 104, 58, 32, 54, 53, 53, 51, 55, 13, 10]⟩ : ByteArray)) ++ (⟨#[13, 10]⟩ : ByteArray)).size + x244003_2.size) = False := eq_false (Nat.not_lt.2 c77)
              try (have c77b3 := of_eq_false c77b2; simp only [ByteArray.size_append, show (⟨#[13, 10]⟩ : ByteArray).size = 2 from rfl, show (⟨#[99, 111, 110, 116, 101, 110, 116, 45, 108, 101, 110, 103, 116, 104, 58, 32, 54, 53, 53, 51, 55, 13, 10]⟩ : ByteArray).size = 23 from rfl] at c77b3)
              replace H := Option.bind_eq_some_iff.mp H
              obtain ⟨⟨t274, t275, t276, t279, t280, t281⟩, A780, H⟩ := H
              (try dsimp only at H)
              have A78 := qH A780
              clear A780
              replace H := Option.bind_eq_some_iff.mp H
              obtain ⟨⟨t283, t284, t285, t288, t289, t290⟩, A790, H⟩ := H
              (try dsimp only at H)
              have A79 := qH A790
              clear A790
              by_cases c80 : t281 = t290
              ·rw [if_pos c80] at H
               have c80b0 : (t281 == t290) = true := beq_iff_eq.mpr c80
               have c80b1 : (t281 != t290) = false := bne_eq_false_iff_eq.mpr c80
               clear c80
               replace H := Option.bind_eq_some_iff.mp H
               obtain ⟨t292, A810, H⟩ := H
               (try dsimp only at H)
               have A81 := qH A810
               clear A810
               obtain rfl := Option.some.inj H
               simp only [Option.some.injEq, Prod.mk.injEq] at H
               obtain ⟨rfl⟩ := H
               have hcz82_0 : wr.cell? ⟨gb243, 0, none⟩ = some (.string (⟨#[71, 69, 84]⟩ : ByteArray)) := (qE BK243.out 0).trans rfl
               have hcz82_1 : wr.cell? ⟨gb243, 1, none⟩ = some (.string (⟨#[47]⟩ : ByteArray)) := (qE BK243.out 1).trans rfl
               have hcz82_2 : wr.cell? ⟨gb243, 2, none⟩ = some (.slice Ao45 x244002_2.length co45) := (qE BK243.out 2).trans rfl
               have hcz82_3 : wr.cell? ⟨gb243, 3, none⟩ = some (.string x244003_2) := (qE BK243.out 3).trans rfl
               have hfz82_0 := qF BK243.out 0
               have hfz82_1 := qF BK243.out 1
               have hfz82_2 := qF BK243.out 2
               have hfz82_3 := qF BK243.out 3
               go_wp2_with (first | (go_at_call 10; (with_reducible refine (http_Read.calls (((x17_3 ++ (⟨#[99, 111, 110, 116, 101, 110, 116, 45, 108, 101, 110, 103, 116, 104, 58, 32, 54, 53, 53, 51, 55, 13, 10]⟩ : ByteArray)) ++ (⟨#[13, 10]⟩ : ByteArray)) ++ x244003_2) t274 t275 t276 t279 t280 t281 _ A78.out (HL.later zz5)).mono ?_); rintro e w83 ⟨v277, rfl, ho0, hb⟩; have n0_ := qH (Kd.R_elder' zz8 (Kd.R_base ho0) hb); have n1_ := qH (Kd.R_lower (Kd.R_new' ho0 (Kd.R_lt zz8)) (below_size zz1)); have n2_ := qH (qD (g := gb243) (o := .cells #[.string (⟨#[71, 69, 84]⟩ : ByteArray), .string (⟨#[47]⟩ : ByteArray), .slice Ao45 x244002_2.length co45, .string x244003_2] 25 (0, 0)) zz6 hb); have n3_ := qH (below_step zz1 hb); clear HO_244002; clear BK243; clear HB; have HO_244002 := n0_; have HO278 := n1_; have BK243 := n2_; have HB := n3_; clear n0_ n1_ n2_ n3_; (try clear hb); (try clear hb2); (try clear hk); (try clear hi); (try clear ho0)) | ((with_reducible refine gate_dst (N := 19) rfl ?_); (try (refine gate_guard (by rfl) ?_; dsimp only)); refine box_event ?hg (N := 19) ?hd (cs := #[.string (⟨#[]⟩ : ByteArray), .string (⟨#[]⟩ : ByteArray), .slice none 0 0, .string (⟨#[]⟩ : ByteArray)]) (t := 25) ?hr ?_; (case hd => rfl); (case hg => rfl); (case hr => first | (go_simp; done) | (go_simp; rfl) | (go_simp; simp [IntKind.wrap_u32]; done)); intro gb282 hg w84 hbox hb; have n0_ := qH (Kd.R_below zz8 hb); have n1_ := qH (Kd.R_below zz51 hb); have n2_ := qH (qD (g := gb243) (o := .cells #[.string (⟨#[71, 69, 84]⟩ : ByteArray), .string (⟨#[47]⟩ : ByteArray), .slice Ao45 x244002_2.length co45, .string x244003_2] 25 (0, 0)) zz6 hb); have n3_ := qH (below_step zz1 hb); have n4_ := qH (hbox); have n5_ := qH ((by rw [hg]; exact (below_size zz1) : w.heap.size ≤ gb282)); have n6_ := n5_; have n7_ := qH ((by rw [hg]; exact qN (blk_lt (g := gb243) (o := .cells #[.string (⟨#[71, 69, 84]⟩ : ByteArray), .string (⟨#[47]⟩ : ByteArray), .slice Ao45 x244002_2.length co45, .string x244003_2] 25 (0, 0)) zz6) : gb243 ≠ gb282)); have n8_ := qH ((by rw [hg]; exact Nat.ne_of_gt (blk_lt (g := gb243) (o := .cells #[.string (⟨#[71, 69, 84]⟩ : ByteArray), .string (⟨#[47]⟩ : ByteArray), .slice Ao45 x244002_2.length co45, .string x244003_2] 25 (0, 0)) zz6) : gb282 ≠ gb243)); clear HO_244002; clear HO278; clear BK243; clear HB; have HO_244002 := n0_; have HO278 := n1_; have BK243 := n2_; have HB := n3_; have BK282 := n4_; have GW282 := n5_; have GE282 := n6_; have NB243_282 := n7_; have NB282_243 := n8_; clear n0_ n1_ n2_ n3_ n4_ n5_ n6_ n7_ n8_; clear hb hbox hg; have hnb85 := NB282_243.out; have hnc85 := NB243_282.out; obtain ⟨hcz86_0, hcz86_1, hcz86_2, hcz86_3⟩ := qc4 BK282.out; obtain ⟨hfz86_0, hfz86_1, hfz86_2, hfz86_3⟩ := qf4 BK282.out; obtain ⟨Ao87, co87, eo87⟩ := Kd.R_slice HO278.out; subst eo87; obtain ⟨hcz88_0, hcz88_1, hcz88_2, hcz88_3⟩ := qc4 BK243.out; obtain ⟨hfz88_0, hfz88_1, hfz88_2, hfz88_3⟩ := qf4 BK243.out) | (go_at_call 11; (with_reducible refine (codicilref29_Read.calls k3 (((x17_3 ++ (⟨#[99, 111, 110, 116, 101, 110, 116, 45, 108, 101, 110, 103, 116, 104, 58, 32, 54, 53, 53, 51, 55, 13, 10]⟩ : ByteArray)) ++ (⟨#[13, 10]⟩ : ByteArray)) ++ x244003_2) t283 t284 t285 t288 t289 t290 _ A79.out).mono ?_); rintro e w89 ⟨v286, rfl, ho0, hb⟩; have n0_ := qH (Kd.R_elder' zz11 (Kd.R_base ho0) hb); have n1_ := qH (Kd.R_elder' zz14 (Kd.R_base ho0) hb); have n2_ := qH (Kd.R_lower (Kd.R_new' (Kd.R_new' ho0 (Kd.R_lt zz11)) (Kd.R_lt zz14)) (below_size zz21)); have n3_ := qH (qD (g := gb243) (o := .cells #[.string (⟨#[71, 69, 84]⟩ : ByteArray), .string (⟨#[47]⟩ : ByteArray), .slice Ao45 x244002_2.length co45, .string x244003_2] 25 (0, 0)) zz34 hb); have n4_ := qH (qD (g := gb282) (o := .cells #[.string t274, .string t275, .slice Ao87 t276.length co87, .string t279] 25 (0, 0)) zz19 hb); have n5_ := qH (below_step zz21 hb); clear HO_244002; clear HO278; clear BK243; clear BK282; clear HB; have HO_244002 := n0_; have HO278 := n1_; have HO287 := n2_; have BK243 := n3_; have BK282 := n4_; have HB := n5_; clear n0_ n1_ n2_ n3_ n4_ n5_; (try clear hb); (try clear hb2); (try clear hk); (try clear hi); (try clear ho0)) | ((with_reducible refine gate_dst (N := 22) rfl ?_); (try (refine gate_guard (by rfl) ?_; dsimp only)); refine box_event ?hg (N := 22) ?hd (cs := #[.string (⟨#[]⟩ : ByteArray), .string (⟨#[]⟩ : ByteArray), .slice none 0 0, .string (⟨#[]⟩ : ByteArray)]) (t := 25) ?hr ?_; (case hd => rfl); (case hg => rfl); (case hr => first | (go_simp; done) | (go_simp; rfl) | (go_simp; simp [IntKind.wrap_u32]; done)); intro gb291 hg w90 hbox hb; have n0_ := qH (Kd.R_below zz8 hb); have n1_ := qH (Kd.R_below zz51 hb); have n2_ := qH (Kd.R_below zz74 hb); have n3_ := qH (qD (g := gb243) (o := .cells #[.string (⟨#[71, 69, 84]⟩ : ByteArray), .string (⟨#[47]⟩ : ByteArray), .slice Ao45 x244002_2.length co45, .string x244003_2] 25 (0, 0)) zz6 hb); have n4_ := qH (qD (g := gb282) zz45 hb); have n5_ := qH (below_step zz21 hb); have n6_ := qH (hbox); have n7_ := qH ((by rw [hg]; exact (below_size zz21) : w.heap.size ≤ gb291)); have n8_ := n7_; have n9_ := qH ((by rw [hg]; exact qN (blk_lt (g := gb243) (o := .cells #[.string (⟨#[71, 69, 84]⟩ : ByteArray), .string (⟨#[47]⟩ : ByteArray), .slice Ao45 x244002_2.length co45, .string x244003_2] 25 (0, 0)) zz6) : gb243 ≠ gb291)); have n10_ := qH ((by rw [hg]; exact Nat.ne_of_gt (blk_lt (g := gb243) (o := .cells #[.string (⟨#[71, 69, 84]⟩ : ByteArray), .string (⟨#[47]⟩ : ByteArray), .slice Ao45 x244002_2.length co45, .string x244003_2] 25 (0, 0)) zz6) : gb291 ≠ gb243)); have n11_ := qH ((by rw [hg]; exact qN (blk_lt (g := gb282) zz45) : gb282 ≠ gb291)); have n12_ := qH ((by rw [hg]; exact Nat.ne_of_gt (blk_lt (g := gb282) zz45) : gb291 ≠ gb282)); clear HO_244002; clear HO278; clear HO287; clear BK243; clear BK282; clear HB; have HO_244002 := n0_; have HO278 := n1_; have HO287 := n2_; have BK243 := n3_; have BK282 := n4_; have HB := n5_; have BK291 := n6_; have GW291 := n7_; have GE291 := n8_; have NB243_291 := n9_; have NB291_243 := n10_; have NB282_291 := n11_; have NB291_282 := n12_; clear n0_ n1_ n2_ n3_ n4_ n5_ n6_ n7_ n8_ n9_ n10_ n11_ n12_; clear hb hbox hg; have hnb91 := NB291_243.out; have hnc91 := NB243_291.out; have hnb92 := NB291_282.out; have hnc92 := NB282_291.out; obtain ⟨hcz93_0, hcz93_1, hcz93_2, hcz93_3⟩ := qc4 BK291.out; obtain ⟨hfz93_0, hfz93_1, hfz93_2, hfz93_3⟩ := qf4 BK291.out; obtain ⟨Ao94, co94, eo94⟩ := Kd.R_slice HO287.out; subst eo94) | (go_at_call 9; (with_reducible refine (codicillaw29_alive.calls k3  t292 _ A81.out (HL.later zz5)).mono ?_); rintro e w95 ⟨rfl, hb⟩; have n0_ := qH (Kd.R_below zz27 hb); have n1_ := qH (Kd.R_below zz30 hb); have n2_ := qH (Kd.R_below zz31 hb); have n3_ := qH (qD (g := gb243) (o := .cells #[.string (⟨#[71, 69, 84]⟩ : ByteArray), .string (⟨#[47]⟩ : ByteArray), .slice Ao45 x244002_2.length co45, .string x244003_2] 25 (0, 0)) zz35 hb); have n4_ := qH (qD (g := gb282) (o := .cells #[.string t274, .string t275, .slice Ao87 t276.length co87, .string t279] 25 (0, 0)) zz36 hb); have n5_ := qH (qD (g := gb291) (o := .cells #[.string t283, .string t284, .slice Ao94 t285.length co94, .string t288] 25 (0, 0)) zz20 hb); have n6_ := qH (below_step zz68 hb); clear HO_244002; clear HO278; clear HO287; clear BK243; clear BK282; clear BK291; clear HB; have HO_244002 := n0_; have HO278 := n1_; have HO287 := n2_; have BK243 := n3_; have BK282 := n4_; have BK291 := n5_; have HB := n6_; clear n0_ n1_ n2_ n3_ n4_ n5_ n6_; (try clear hb); (try clear hb2); (try clear hk); (try clear hi)))
               go_ret
               exact ⟨by first | rfl | (simp [errW_none, errW_some] <;> rfl) | (simp [*, errW_none, errW_some] <;> rfl), by repeat (first | (with_reducible first | exact HB.out | apply qL | apply qJ | apply qK | refine qI ?_ GE243.out | refine qI ?_ GE282.out | refine qI ?_ GE291.out) | exact HB.out)⟩
              ·rw [if_neg c80] at H
               have c80b0 : (t281 == t290) = false := beq_eq_false_iff_ne.mpr c80
               have c80b1 : (t281 != t290) = true := bne_iff_ne.mpr c80
               obtain rfl := Option.some.inj H
               exact absurd hTrue.out zz73
             ·rw [if_neg c77] at H
              exact absurd H zz65
            ·rw [if_neg c76] at H
             exact absurd H zz65
           ·rw [if_neg c75] at H
            exact absurd H zz65
          ·rw [if_neg c74] at H
           have c74b0 : ((Int.tmod a1 3) == 0) = false := beq_eq_false_iff_ne.mpr c74
           have c74b1 : ((Int.tmod a1 3) != 0) = true := bne_iff_ne.mpr c74
           by_cases c96 : x17_3.size + 2 ≤ 9223372036854775807
           ·rw [if_pos c96] at H
            have c96b0 := eq_true c96
            have c96b1 : decide (x17_3.size + 2 ≤ 9223372036854775807) = true := decide_eq_true c96
            try have c96b2 : (9223372036854775807 < x17_3.size + 2) = False := eq_false (Nat.not_lt.2 c96)
            by_cases c97 : (x17_3 ++ (⟨#[13, 10]⟩ : ByteArray)).size + x244003_2.size ≤ 9223372036854775807
            ·rw [if_pos c97] at H
             have c97b0 := eq_true c97
             have c97b1 : decide ((x17_3 ++ (⟨#[13, 10]⟩ : ByteArray)).size + x244003_2.size ≤ 9223372036854775807) = true := decide_eq_true c97
             try have c97b2 : (9223372036854775807 < (x17_3 ++ (⟨#[13, 10]⟩ : ByteArray)).size + x244003_2.size) = False := eq_false (Nat.not_lt.2 c97)
             try (have c97b3 := of_eq_false c97b2; simp only [ByteArray.size_append, show (⟨#[13, 10]⟩ : ByteArray).size = 2 from rfl] at c97b3)
             replace H := Option.bind_eq_some_iff.mp H
             obtain ⟨⟨t293, t294, t295, t298, t299, t300⟩, A980, H⟩ := H
             (try dsimp only at H)
             have A98 := qH A980
             clear A980
             replace H := Option.bind_eq_some_iff.mp H
             obtain ⟨⟨t302, t303, t304, t307, t308, t309⟩, A990, H⟩ := H
             (try dsimp only at H)
             have A99 := qH A990
             clear A990
             by_cases c100 : t300 = t309
             ·rw [if_pos c100] at H
              have c100b0 : (t300 == t309) = true := beq_iff_eq.mpr c100
              have c100b1 : (t300 != t309) = false := bne_eq_false_iff_eq.mpr c100
              clear c100
              replace H := Option.bind_eq_some_iff.mp H
              obtain ⟨t311, A1010, H⟩ := H
              (try dsimp only at H)
              have A101 := qH A1010
              clear A1010
              obtain rfl := Option.some.inj H
              simp only [Option.some.injEq, Prod.mk.injEq] at H
              obtain ⟨rfl⟩ := H
              have hcz102_0 : wr.cell? ⟨gb243, 0, none⟩ = some (.string (⟨#[71, 69, 84]⟩ : ByteArray)) := (qE BK243.out 0).trans rfl
              have hcz102_1 : wr.cell? ⟨gb243, 1, none⟩ = some (.string (⟨#[47]⟩ : ByteArray)) := (qE BK243.out 1).trans rfl
              have hcz102_2 : wr.cell? ⟨gb243, 2, none⟩ = some (.slice Ao45 x244002_2.length co45) := (qE BK243.out 2).trans rfl
              have hcz102_3 : wr.cell? ⟨gb243, 3, none⟩ = some (.string x244003_2) := (qE BK243.out 3).trans rfl
              have hfz102_0 := qF BK243.out 0
              have hfz102_1 := qF BK243.out 1
              have hfz102_2 := qF BK243.out 2
              have hfz102_3 := qF BK243.out 3
              go_wp2_with (first | (go_at_call 10; (with_reducible refine (http_Read.calls ((x17_3 ++ (⟨#[13, 10]⟩ : ByteArray)) ++ x244003_2) t293 t294 t295 t298 t299 t300 _ A98.out (HL.later zz5)).mono ?_); rintro e w103 ⟨v296, rfl, ho0, hb⟩; have n0_ := qH (Kd.R_elder' zz8 (Kd.R_base ho0) hb); have n1_ := qH (Kd.R_lower (Kd.R_new' ho0 (Kd.R_lt zz8)) (below_size zz1)); have n2_ := qH (qD (g := gb243) (o := .cells #[.string (⟨#[71, 69, 84]⟩ : ByteArray), .string (⟨#[47]⟩ : ByteArray), .slice Ao45 x244002_2.length co45, .string x244003_2] 25 (0, 0)) zz6 hb); have n3_ := qH (below_step zz1 hb); clear HO_244002; clear BK243; clear HB; have HO_244002 := n0_; have HO297 := n1_; have BK243 := n2_; have HB := n3_; clear n0_ n1_ n2_ n3_; (try clear hb); (try clear hb2); (try clear hk); (try clear hi); (try clear ho0)) | ((with_reducible refine gate_dst (N := 19) rfl ?_); (try (refine gate_guard (by rfl) ?_; dsimp only)); refine box_event ?hg (N := 19) ?hd (cs := #[.string (⟨#[]⟩ : ByteArray), .string (⟨#[]⟩ : ByteArray), .slice none 0 0, .string (⟨#[]⟩ : ByteArray)]) (t := 25) ?hr ?_; (case hd => rfl); (case hg => rfl); (case hr => first | (go_simp; done) | (go_simp; rfl) | (go_simp; simp [IntKind.wrap_u32]; done)); intro gb301 hg w104 hbox hb; have n0_ := qH (Kd.R_below zz8 hb); have n1_ := qH (Kd.R_below zz52 hb); have n2_ := qH (qD (g := gb243) (o := .cells #[.string (⟨#[71, 69, 84]⟩ : ByteArray), .string (⟨#[47]⟩ : ByteArray), .slice Ao45 x244002_2.length co45, .string x244003_2] 25 (0, 0)) zz6 hb); have n3_ := qH (below_step zz1 hb); have n4_ := qH (hbox); have n5_ := qH ((by rw [hg]; exact (below_size zz1) : w.heap.size ≤ gb301)); have n6_ := n5_; have n7_ := qH ((by rw [hg]; exact qN (blk_lt (g := gb243) (o := .cells #[.string (⟨#[71, 69, 84]⟩ : ByteArray), .string (⟨#[47]⟩ : ByteArray), .slice Ao45 x244002_2.length co45, .string x244003_2] 25 (0, 0)) zz6) : gb243 ≠ gb301)); have n8_ := qH ((by rw [hg]; exact Nat.ne_of_gt (blk_lt (g := gb243) (o := .cells #[.string (⟨#[71, 69, 84]⟩ : ByteArray), .string (⟨#[47]⟩ : ByteArray), .slice Ao45 x244002_2.length co45, .string x244003_2] 25 (0, 0)) zz6) : gb301 ≠ gb243)); clear HO_244002; clear HO297; clear BK243; clear HB; have HO_244002 := n0_; have HO297 := n1_; have BK243 := n2_; have HB := n3_; have BK301 := n4_; have GW301 := n5_; have GE301 := n6_; have NB243_301 := n7_; have NB301_243 := n8_; clear n0_ n1_ n2_ n3_ n4_ n5_ n6_ n7_ n8_; clear hb hbox hg; have hnb105 := NB301_243.out; have hnc105 := NB243_301.out; obtain ⟨hcz106_0, hcz106_1, hcz106_2, hcz106_3⟩ := qc4 BK301.out; obtain ⟨hfz106_0, hfz106_1, hfz106_2, hfz106_3⟩ := qf4 BK301.out; obtain ⟨Ao107, co107, eo107⟩ := Kd.R_slice HO297.out; subst eo107; obtain ⟨hcz108_0, hcz108_1, hcz108_2, hcz108_3⟩ := qc4 BK243.out; obtain ⟨hfz108_0, hfz108_1, hfz108_2, hfz108_3⟩ := qf4 BK243.out) | (go_at_call 11; (with_reducible refine (codicilref29_Read.calls k3 ((x17_3 ++ (⟨#[13, 10]⟩ : ByteArray)) ++ x244003_2) t302 t303 t304 t307 t308 t309 _ A99.out).mono ?_); rintro e w109 ⟨v305, rfl, ho0, hb⟩; have n0_ := qH (Kd.R_elder' zz9 (Kd.R_base ho0) hb); have n1_ := qH (Kd.R_elder' zz12 (Kd.R_base ho0) hb); have n2_ := qH (Kd.R_lower (Kd.R_new' (Kd.R_new' ho0 (Kd.R_lt zz9)) (Kd.R_lt zz12)) (below_size zz22)); have n3_ := qH (qD (g := gb243) (o := .cells #[.string (⟨#[71, 69, 84]⟩ : ByteArray), .string (⟨#[47]⟩ : ByteArray), .slice Ao45 x244002_2.length co45, .string x244003_2] 25 (0, 0)) zz37 hb); have n4_ := qH (qD (g := gb301) (o := .cells #[.string t293, .string t294, .slice Ao107 t295.length co107, .string t298] 25 (0, 0)) zz16 hb); have n5_ := qH (below_step zz22 hb); clear HO_244002; clear HO297; clear BK243; clear BK301; clear HB; have HO_244002 := n0_; have HO297 := n1_; have HO306 := n2_; have BK243 := n3_; have BK301 := n4_; have HB := n5_; clear n0_ n1_ n2_ n3_ n4_ n5_; (try clear hb); (try clear hb2); (try clear hk); (try clear hi); (try clear ho0)) | ((with_reducible refine gate_dst (N := 22) rfl ?_); (try (refine gate_guard (by rfl) ?_; dsimp only)); refine box_event ?hg (N := 22) ?hd (cs := #[.string (⟨#[]⟩ : ByteArray), .string (⟨#[]⟩ : ByteArray), .slice none 0 0, .string (⟨#[]⟩ : ByteArray)]) (t := 25) ?hr ?_; (case hd => rfl); (case hg => rfl); (case hr => first | (go_simp; done) | (go_simp; rfl) | (go_simp; simp [IntKind.wrap_u32]; done)); intro gb310 hg w110 hbox hb; have n0_ := qH (Kd.R_below zz8 hb); have n1_ := qH (Kd.R_below zz52 hb); have n2_ := qH (Kd.R_below zz75 hb); have n3_ := qH (qD (g := gb243) (o := .cells #[.string (⟨#[71, 69, 84]⟩ : ByteArray), .string (⟨#[47]⟩ : ByteArray), .slice Ao45 x244002_2.length co45, .string x244003_2] 25 (0, 0)) zz6 hb); have n4_ := qH (qD (g := gb301) zz46 hb); have n5_ := qH (below_step zz22 hb); have n6_ := qH (hbox); have n7_ := qH ((by rw [hg]; exact (below_size zz22) : w.heap.size ≤ gb310)); have n8_ := n7_; have n9_ := qH ((by rw [hg]; exact qN (blk_lt (g := gb243) (o := .cells #[.string (⟨#[71, 69, 84]⟩ : ByteArray), .string (⟨#[47]⟩ : ByteArray), .slice Ao45 x244002_2.length co45, .string x244003_2] 25 (0, 0)) zz6) : gb243 ≠ gb310)); have n10_ := qH ((by rw [hg]; exact Nat.ne_of_gt (blk_lt (g := gb243) (o := .cells #[.string (⟨#[71, 69, 84]⟩ : ByteArray), .string (⟨#[47]⟩ : ByteArray), .slice Ao45 x244002_2.length co45, .string x244003_2] 25 (0, 0)) zz6) : gb310 ≠ gb243)); have n11_ := qH ((by rw [hg]; exact qN (blk_lt (g := gb301) zz46) : gb301 ≠ gb310)); have n12_ := qH ((by rw [hg]; exact Nat.ne_of_gt (blk_lt (g := gb301) zz46) : gb310 ≠ gb301)); clear HO_244002; clear HO297; clear HO306; clear BK243; clear BK301; clear HB; have HO_244002 := n0_; have HO297 := n1_; have HO306 := n2_; have BK243 := n3_; have BK301 := n4_; have HB := n5_; have BK310 := n6_; have GW310 := n7_; have GE310 := n8_; have NB243_310 := n9_; have NB310_243 := n10_; have NB301_310 := n11_; have NB310_301 := n12_; clear n0_ n1_ n2_ n3_ n4_ n5_ n6_ n7_ n8_ n9_ n10_ n11_ n12_; clear hb hbox hg; have hnb111 := NB310_243.out; have hnc111 := NB243_310.out; have hnb112 := NB310_301.out; have hnc112 := NB301_310.out; obtain ⟨hcz113_0, hcz113_1, hcz113_2, hcz113_3⟩ := qc4 BK310.out; obtain ⟨hfz113_0, hfz113_1, hfz113_2, hfz113_3⟩ := qf4 BK310.out; obtain ⟨Ao114, co114, eo114⟩ := Kd.R_slice HO306.out; subst eo114) | (go_at_call 9; (with_reducible refine (codicillaw29_alive.calls k3  t311 _ A101.out (HL.later zz5)).mono ?_); rintro e w115 ⟨rfl, hb⟩; have n0_ := qH (Kd.R_below zz26 hb); have n1_ := qH (Kd.R_below zz28 hb); have n2_ := qH (Kd.R_below zz29 hb); have n3_ := qH (qD (g := gb243) (o := .cells #[.string (⟨#[71, 69, 84]⟩ : ByteArray), .string (⟨#[47]⟩ : ByteArray), .slice Ao45 x244002_2.length co45, .string x244003_2] 25 (0, 0)) zz38 hb); have n4_ := qH (qD (g := gb301) (o := .cells #[.string t293, .string t294, .slice Ao107 t295.length co107, .string t298] 25 (0, 0)) zz39 hb); have n5_ := qH (qD (g := gb310) (o := .cells #[.string t302, .string t303, .slice Ao114 t304.length co114, .string t307] 25 (0, 0)) zz17 hb); have n6_ := qH (below_step zz69 hb); clear HO_244002; clear HO297; clear HO306; clear BK243; clear BK301; clear BK310; clear HB; have HO_244002 := n0_; have HO297 := n1_; have HO306 := n2_; have BK243 := n3_; have BK301 := n4_; have BK310 := n5_; have HB := n6_; clear n0_ n1_ n2_ n3_ n4_ n5_ n6_; (try clear hb); (try clear hb2); (try clear hk); (try clear hi)))
              go_ret
              exact ⟨by first | rfl | (simp [errW_none, errW_some] <;> rfl) | (simp [*, errW_none, errW_some] <;> rfl), by repeat (first | (with_reducible first | exact HB.out | apply qL | apply qJ | apply qK | refine qI ?_ GE243.out | refine qI ?_ GE301.out | refine qI ?_ GE310.out) | exact HB.out)⟩
             ·rw [if_neg c100] at H
              have c100b0 : (t300 == t309) = false := beq_eq_false_iff_ne.mpr c100
              have c100b1 : (t300 != t309) = true := bne_iff_ne.mpr c100
              obtain rfl := Option.some.inj H
              exact absurd hTrue.out zz73
            ·rw [if_neg c97] at H
             exact absurd H zz65
           ·rw [if_neg c96] at H
            exact absurd H zz65

/-- THE ONE PURE STATEMENT of codicillaw29_HttpLong: yours. -/
def codicillaw29_HttpLong.Pure : Prop := ∀ (a0 : Int) (a1 : Int), (Lit.int .i8 a0).wf = true → (Lit.int .u8 a1).wf = true → ∃ k, codicillaw29_HttpLong.f k a0 a1 = some true

end Go.Proofs.YtddjhmelniphgaaGreatDoor.Print
