-- Written by wip/tools/xprint.py of this session's repo (the kit's print, run with external functions). Lean checks it.
import Derived.Test.YtkcjekboakoejaaPrint0
import Derived.Test.YtkcjekboakoejaaPrint1
import Derived.Test.YtkcjekboakoejaaPrint2
import Derived.Test.YtkcjekboakoejaaPrint3
import Derived.Test.YtkcjekboakoejaaPrint4
import Derived.Test.YtkcjekboakoejaaPrint7
import Derived.Test.YtkcjekboakoejaaPrint8
import Derived.Test.YtkcjekboakoejaaHAlive18
import Derived.Test.YtkcjekboakoejaaHSubj
namespace Go.Proofs.Ytkcjekboakoejaa.Print
open Go.RowKit Go.Proofs.YtkcjekboakoejaaW.PrintWords Go.Proofs.YtkcjekboakoejaaW.PrintLast Go.Proofs.YtkcjekboakoejaaW.PrintMore
attribute [local go_sem] max2_int min2_int max_two min_two max_three min_three max_four min_four   -- for this text's walks alone
set_option linter.unusedVariables false
set_option linter.unusedSimpArgs false

attribute [local go_sem high] eqA30
/-! ### codicillaw18_SubjectTells: function 4 -/
mutual
def codicillaw18_SubjectTells.j0 : Nat → Int → Int → ByteArray → Bool → ByteArray → Int → List (S30) → Option (Bool)
 | 0, _, _, _, _, _, _, _ => none
 | k + 1, x1, x2, x3, x31, x346000, x346001, x346002 => if x31 = true then ((codicillaw18_alive.f k).bind fun t347 => (some t347)) else ((subject_Last.f k x346000 x346001 x346002).bind fun bt348 => ((codicilref18_Last.f k x346000 x346001 x346002).bind fun bt353 => ((subject_Find.f x346000 x346001 x346002 x1).bind fun bt358 => ((codicilref18_Find.f k x346000 x346001 x346002 x1).bind fun bt363 => ((subject_Has.f x346000 x346001 x346002 x2).bind fun bt368 => ((codicilref18_Has.f k x346000 x346001 x346002 x2).bind fun bt373 => ((subject_New.f x3).bind fun bt378 => ((codicilref18_Name.f k x3).bind fun t385 => (if t385 = true then (codicillaw18_SubjectTells.j1 k x3 bt348.2.2.2 bt353.2.2.2 bt358.2.2.2 bt363.2.2.2 bt368.2.2.2 bt373.2.2.2 bt378.2.2.2 t385 x346000 x346001 x346002 bt348.1 bt348.2.1 bt348.2.2.1 bt353.1 bt353.2.1 bt353.2.2.1 bt358.1 bt358.2.1 bt358.2.2.1 bt363.1 bt363.2.1 bt363.2.2.1 bt368.1 bt368.2.1 bt368.2.2.1 bt373.1 bt373.2.1 bt373.2.2.1 bt378.1 bt378.2.1 bt378.2.2.1 x3 1) else (codicillaw18_SubjectTells.j1 k x3 bt348.2.2.2 bt353.2.2.2 bt358.2.2.2 bt363.2.2.2 bt368.2.2.2 bt373.2.2.2 bt378.2.2.2 t385 x346000 x346001 x346002 bt348.1 bt348.2.1 bt348.2.2.1 bt353.1 bt353.2.1 bt353.2.2.1 bt358.1 bt358.2.1 bt358.2.2.1 bt363.1 bt363.2.1 bt363.2.2.1 bt368.1 bt368.2.1 bt368.2.2.1 bt373.1 bt373.2.1 bt373.2.2.1 bt378.1 bt378.2.1 bt378.2.2.1 (⟨#[]⟩ : ByteArray) 0))))))))))
def codicillaw18_SubjectTells.j1 : Nat → ByteArray → Bool → Bool → Bool → Bool → Bool → Bool → Int → Bool → ByteArray → Int → List (S30) → Int → Int → Bool → Int → Int → Bool → Int → Int → Bool → Int → Int → Bool → Int → Int → Bool → Int → Int → Bool → ByteArray → Int → List (S30) → ByteArray → Int → Option (Bool)
 | 0, _, _, _, _, _, _, _, _, _, _, _, _, _, _, _, _, _, _, _, _, _, _, _, _, _, _, _, _, _, _, _, _, _, _, _ => none
 | k + 1, x3, x10, x12, x14, x16, x18, x20, x22, x23, x346000, x346001, x346002, x353000, x353001, x353002, x358000, x358001, x358002, x363000, x363001, x363002, x368000, x368001, x368002, x373000, x373001, x373002, x378000, x378001, x378002, x385000, x385001, x385002, x387000, x387001 => (subject_Name.f x3).bind fun t387 => (if (t387 != x23) = true then (codicillaw18_SubjectTells.j2 k x10 x12 x14 x16 x18 x20 true x346000 x346001 x346002 x353000 x353001 x353002 x358000 x358001 x358002 x363000 x363001 x363002 x368000 x368001 x368002 x373000 x373001 x373002 x378000 x378001 x378002) else ((codicilref18_Same.f k x385000 x385001 x385002 x387000 x387001 ([] : List (S30))).bind fun t388 => (if t388 = true then (if ((x22 == 0) != x23) = true then (codicillaw18_SubjectTells.j2 k x10 x12 x14 x16 x18 x20 true x346000 x346001 x346002 x353000 x353001 x353002 x358000 x358001 x358002 x363000 x363001 x363002 x368000 x368001 x368002 x373000 x373001 x373002 x378000 x378001 x378002) else (if x23 = true then (codicillaw18_SubjectTells.j2 k x10 x12 x14 x16 x18 x20 false x346000 x346001 x346002 x353000 x353001 x353002 x358000 x358001 x358002 x363000 x363001 x363002 x368000 x368001 x368002 x373000 x373001 x373002 x378000 x378001 x378002) else (codicillaw18_SubjectTells.j2 k x10 x12 x14 x16 x18 x20 (x22 != 2) x346000 x346001 x346002 x353000 x353001 x353002 x358000 x358001 x358002 x363000 x363001 x363002 x368000 x368001 x368002 x373000 x373001 x373002 x378000 x378001 x378002))) else (codicillaw18_SubjectTells.j2 k x10 x12 x14 x16 x18 x20 true x346000 x346001 x346002 x353000 x353001 x353002 x358000 x358001 x358002 x363000 x363001 x363002 x368000 x368001 x368002 x373000 x373001 x373002 x378000 x378001 x378002))))
def codicillaw18_SubjectTells.j2 : Nat → Bool → Bool → Bool → Bool → Bool → Bool → Bool → ByteArray → Int → List (S30) → Int → Int → Bool → Int → Int → Bool → Int → Int → Bool → Int → Int → Bool → Int → Int → Bool → Int → Int → Bool → Option (Bool)
 | 0, _, _, _, _, _, _, _, _, _, _, _, _, _, _, _, _, _, _, _, _, _, _, _, _, _, _, _, _ => none
 | k + 1, x10, x12, x14, x16, x18, x20, x101, x346000, x346001, x346002, x353000, x353001, x353002, x358000, x358001, x358002, x363000, x363001, x363002, x368000, x368001, x368002, x373000, x373001, x373002, x378000, x378001, x378002 => if x101 = true then (some false) else ((subject_May.f x346000 x346001 x346002).bind fun t389 => ((codicilref18_May.f k x346000 x346001 x346002).bind fun t390 => (if t389 = t390 then ((subject_Live.f k x346000 x346001 x346002).bind fun t391 => ((codicilref18_Live.f k x346000 x346001 x346002).bind fun t394 => ((codicillaw18_same.f k t391 t394).bind fun t397 => (if t397 = true then (if (x353000 == x358000 && (x353001 == x358001 && (x353002 == x358002))) = true then (if (x10 == x12) = true then (if (x363000 == x368000 && (x363001 == x368001 && (x363002 == x368002))) = true then (if (x14 == x16) = true then (if (x373000 == x378000 && (x373001 == x378001 && (x373002 == x378002))) = true then (if (x18 == x20) = true then ((codicillaw18_alive.f k).bind fun t398 => (some t398)) else (some false)) else (some false)) else (some false)) else (some false)) else (some false)) else (some false)) else (some false))))) else (some false))))
end
def codicillaw18_SubjectTells.f (k : Nat) (a0_0 : ByteArray) (a0_1 : Int) (l0_2 : List (S30)) (a1 : Int) (a2 : Int) (a3 : ByteArray) : Option (Bool) := (codicillaw18_Heavy.f a0_0 a0_1 l0_2).bind fun t346 => (if t346 = true then (codicillaw18_SubjectTells.j0 k a1 a2 a3 true a0_0 a0_1 l0_2) else (codicillaw18_SubjectTells.j0 k a1 a2 a3 (decide ((a3.size : Int) > 1024)) a0_0 a0_1 l0_2))
theorem codicillaw18_SubjectTells.mono_l : ∀ k, (∀ y0 y1 y2 y3 y4 y5 y6, LeO (codicillaw18_SubjectTells.j0 k y0 y1 y2 y3 y4 y5 y6) (codicillaw18_SubjectTells.j0 (k + 1) y0 y1 y2 y3 y4 y5 y6)) ∧ (∀ y0 y1 y2 y3 y4 y5 y6 y7 y8 y9 y10 y11 y12 y13 y14 y15 y16 y17 y18 y19 y20 y21 y22 y23 y24 y25 y26 y27 y28 y29 y30 y31 y32 y33 y34, LeO (codicillaw18_SubjectTells.j1 k y0 y1 y2 y3 y4 y5 y6 y7 y8 y9 y10 y11 y12 y13 y14 y15 y16 y17 y18 y19 y20 y21 y22 y23 y24 y25 y26 y27 y28 y29 y30 y31 y32 y33 y34) (codicillaw18_SubjectTells.j1 (k + 1) y0 y1 y2 y3 y4 y5 y6 y7 y8 y9 y10 y11 y12 y13 y14 y15 y16 y17 y18 y19 y20 y21 y22 y23 y24 y25 y26 y27 y28 y29 y30 y31 y32 y33 y34)) ∧ (∀ y0 y1 y2 y3 y4 y5 y6 y7 y8 y9 y10 y11 y12 y13 y14 y15 y16 y17 y18 y19 y20 y21 y22 y23 y24 y25 y26 y27, LeO (codicillaw18_SubjectTells.j2 k y0 y1 y2 y3 y4 y5 y6 y7 y8 y9 y10 y11 y12 y13 y14 y15 y16 y17 y18 y19 y20 y21 y22 y23 y24 y25 y26 y27) (codicillaw18_SubjectTells.j2 (k + 1) y0 y1 y2 y3 y4 y5 y6 y7 y8 y9 y10 y11 y12 y13 y14 y15 y16 y17 y18 y19 y20 y21 y22 y23 y24 y25 y26 y27))
 | 0 => ⟨fun _ _ _ _ _ _ _ r h => by simp [codicillaw18_SubjectTells.j0] at h, fun _ _ _ _ _ _ _ _ _ _ _ _ _ _ _ _ _ _ _ _ _ _ _ _ _ _ _ _ _ _ _ _ _ _ _ r h => by simp [codicillaw18_SubjectTells.j1] at h, fun _ _ _ _ _ _ _ _ _ _ _ _ _ _ _ _ _ _ _ _ _ _ _ _ _ _ _ _ r h => by simp [codicillaw18_SubjectTells.j2] at h⟩
 | k + 1 => by
  obtain ⟨ih0, ih1, ih2⟩ := codicillaw18_SubjectTells.mono_l k
  refine ⟨?_, ?_, ?_⟩
  ·intro y0 y1 y2 y3 y4 y5 y6
   unfold codicillaw18_SubjectTells.j0
   repeat' first
   | (with_reducible exact ih0 _ _ _ _ _ _ _)
   | (with_reducible exact ih1 _ _ _ _ _ _ _ _ _ _ _ _ _ _ _ _ _ _ _ _ _ _ _ _ _ _ _ _ _ _ _ _ _ _ _)
   | (with_reducible exact ih2 _ _ _ _ _ _ _ _ _ _ _ _ _ _ _ _ _ _ _ _ _ _ _ _ _ _ _ _)
   | (with_reducible exact codicillaw18_alive.mono _)
   | (with_reducible exact codicillaw18_same.mono _ _ _)
   | (with_reducible exact codicilref18_Find.mono _ _ _ _ _)
   | (with_reducible exact codicilref18_Has.mono _ _ _ _ _)
   | (with_reducible exact codicilref18_Last.mono _ _ _ _)
   | (with_reducible exact codicilref18_Live.mono _ _ _ _)
   | (with_reducible exact codicilref18_May.mono _ _ _ _)
   | (with_reducible exact codicilref18_Name.mono _ _)
   | (with_reducible exact codicilref18_Same.mono _ _ _ _ _ _ _)
   | (with_reducible exact subject_Last.mono _ _ _ _)
   | (with_reducible exact subject_Live.mono _ _ _ _)
   | (with_reducible exact LeO.refl _)
   | (with_reducible exact LeO.none _)
   | (with_reducible refine LeO.ite ?_ ?_)
   | (with_reducible refine LeO.bind ?_ (fun _ => ?_))
   | exact ih0 _ _ _ _ _ _ _
   | exact ih1 _ _ _ _ _ _ _ _ _ _ _ _ _ _ _ _ _ _ _ _ _ _ _ _ _ _ _ _ _ _ _ _ _ _ _
   | exact ih2 _ _ _ _ _ _ _ _ _ _ _ _ _ _ _ _ _ _ _ _ _ _ _ _ _ _ _ _
   | exact codicillaw18_alive.mono _
   | exact codicillaw18_same.mono _ _ _
   | exact codicilref18_Find.mono _ _ _ _ _
   | exact codicilref18_Has.mono _ _ _ _ _
   | exact codicilref18_Last.mono _ _ _ _
   | exact codicilref18_Live.mono _ _ _ _
   | exact codicilref18_May.mono _ _ _ _
   | exact codicilref18_Name.mono _ _
   | exact codicilref18_Same.mono _ _ _ _ _ _ _
   | exact subject_Last.mono _ _ _ _
   | exact subject_Live.mono _ _ _ _
   | exact LeO.none _
   | refine LeO.ite ?_ ?_
   | refine LeO.bind ?_ (fun _ => ?_)
  ·intro y0 y1 y2 y3 y4 y5 y6 y7 y8 y9 y10 y11 y12 y13 y14 y15 y16 y17 y18 y19 y20 y21 y22 y23 y24 y25 y26 y27 y28 y29 y30 y31 y32 y33 y34
   unfold codicillaw18_SubjectTells.j1
   repeat' first
   | (with_reducible exact ih0 _ _ _ _ _ _ _)
   | (with_reducible exact ih1 _ _ _ _ _ _ _ _ _ _ _ _ _ _ _ _ _ _ _ _ _ _ _ _ _ _ _ _ _ _ _ _ _ _ _)
   | (with_reducible exact ih2 _ _ _ _ _ _ _ _ _ _ _ _ _ _ _ _ _ _ _ _ _ _ _ _ _ _ _ _)
   | (with_reducible exact codicillaw18_alive.mono _)
   | (with_reducible exact codicillaw18_same.mono _ _ _)
   | (with_reducible exact codicilref18_Find.mono _ _ _ _ _)
   | (with_reducible exact codicilref18_Has.mono _ _ _ _ _)
   | (with_reducible exact codicilref18_Last.mono _ _ _ _)
   | (with_reducible exact codicilref18_Live.mono _ _ _ _)
   | (with_reducible exact codicilref18_May.mono _ _ _ _)
   | (with_reducible exact codicilref18_Name.mono _ _)
   | (with_reducible exact codicilref18_Same.mono _ _ _ _ _ _ _)
   | (with_reducible exact subject_Last.mono _ _ _ _)
   | (with_reducible exact subject_Live.mono _ _ _ _)
   | (with_reducible exact LeO.refl _)
   | (with_reducible exact LeO.none _)
   | (with_reducible refine LeO.ite ?_ ?_)
   | (with_reducible refine LeO.bind ?_ (fun _ => ?_))
   | exact ih0 _ _ _ _ _ _ _
   | exact ih1 _ _ _ _ _ _ _ _ _ _ _ _ _ _ _ _ _ _ _ _ _ _ _ _ _ _ _ _ _ _ _ _ _ _ _
   | exact ih2 _ _ _ _ _ _ _ _ _ _ _ _ _ _ _ _ _ _ _ _ _ _ _ _ _ _ _ _
   | exact codicillaw18_alive.mono _
   | exact codicillaw18_same.mono _ _ _
   | exact codicilref18_Find.mono _ _ _ _ _
   | exact codicilref18_Has.mono _ _ _ _ _
   | exact codicilref18_Last.mono _ _ _ _
   | exact codicilref18_Live.mono _ _ _ _
   | exact codicilref18_May.mono _ _ _ _
   | exact codicilref18_Name.mono _ _
   | exact codicilref18_Same.mono _ _ _ _ _ _ _
   | exact subject_Last.mono _ _ _ _
   | exact subject_Live.mono _ _ _ _
   | exact LeO.none _
   | refine LeO.ite ?_ ?_
   | refine LeO.bind ?_ (fun _ => ?_)
  ·intro y0 y1 y2 y3 y4 y5 y6 y7 y8 y9 y10 y11 y12 y13 y14 y15 y16 y17 y18 y19 y20 y21 y22 y23 y24 y25 y26 y27
   unfold codicillaw18_SubjectTells.j2
   repeat' first
   | (with_reducible exact ih0 _ _ _ _ _ _ _)
   | (with_reducible exact ih1 _ _ _ _ _ _ _ _ _ _ _ _ _ _ _ _ _ _ _ _ _ _ _ _ _ _ _ _ _ _ _ _ _ _ _)
   | (with_reducible exact ih2 _ _ _ _ _ _ _ _ _ _ _ _ _ _ _ _ _ _ _ _ _ _ _ _ _ _ _ _)
   | (with_reducible exact codicillaw18_alive.mono _)
   | (with_reducible exact codicillaw18_same.mono _ _ _)
   | (with_reducible exact codicilref18_Find.mono _ _ _ _ _)
   | (with_reducible exact codicilref18_Has.mono _ _ _ _ _)
   | (with_reducible exact codicilref18_Last.mono _ _ _ _)
   | (with_reducible exact codicilref18_Live.mono _ _ _ _)
   | (with_reducible exact codicilref18_May.mono _ _ _ _)
   | (with_reducible exact codicilref18_Name.mono _ _)
   | (with_reducible exact codicilref18_Same.mono _ _ _ _ _ _ _)
   | (with_reducible exact subject_Last.mono _ _ _ _)
   | (with_reducible exact subject_Live.mono _ _ _ _)
   | (with_reducible exact LeO.refl _)
   | (with_reducible exact LeO.none _)
   | (with_reducible refine LeO.ite ?_ ?_)
   | (with_reducible refine LeO.bind ?_ (fun _ => ?_))
   | exact ih0 _ _ _ _ _ _ _
   | exact ih1 _ _ _ _ _ _ _ _ _ _ _ _ _ _ _ _ _ _ _ _ _ _ _ _ _ _ _ _ _ _ _ _ _ _ _
   | exact ih2 _ _ _ _ _ _ _ _ _ _ _ _ _ _ _ _ _ _ _ _ _ _ _ _ _ _ _ _
   | exact codicillaw18_alive.mono _
   | exact codicillaw18_same.mono _ _ _
   | exact codicilref18_Find.mono _ _ _ _ _
   | exact codicilref18_Has.mono _ _ _ _ _
   | exact codicilref18_Last.mono _ _ _ _
   | exact codicilref18_Live.mono _ _ _ _
   | exact codicilref18_May.mono _ _ _ _
   | exact codicilref18_Name.mono _ _
   | exact codicilref18_Same.mono _ _ _ _ _ _ _
   | exact subject_Last.mono _ _ _ _
   | exact subject_Live.mono _ _ _ _
   | exact LeO.none _
   | refine LeO.ite ?_ ?_
   | refine LeO.bind ?_ (fun _ => ?_)
theorem codicillaw18_SubjectTells.mono : ∀ a0 a1 a2 a3 a4 a5 k, LeO (codicillaw18_SubjectTells.f k a0 a1 a2 a3 a4 a5) (codicillaw18_SubjectTells.f (k + 1) a0 a1 a2 a3 a4 a5) := by
 intro a0 a1 a2 a3 a4 a5 k
 obtain ⟨ih0, ih1, ih2⟩ := codicillaw18_SubjectTells.mono_l k
 unfold codicillaw18_SubjectTells.f
 repeat' first
   | (with_reducible exact ih0 _ _ _ _ _ _ _)
   | (with_reducible exact ih1 _ _ _ _ _ _ _ _ _ _ _ _ _ _ _ _ _ _ _ _ _ _ _ _ _ _ _ _ _ _ _ _ _ _ _)
   | (with_reducible exact ih2 _ _ _ _ _ _ _ _ _ _ _ _ _ _ _ _ _ _ _ _ _ _ _ _ _ _ _ _)
   | (with_reducible exact codicillaw18_alive.mono _)
   | (with_reducible exact codicillaw18_same.mono _ _ _)
   | (with_reducible exact codicilref18_Find.mono _ _ _ _ _)
   | (with_reducible exact codicilref18_Has.mono _ _ _ _ _)
   | (with_reducible exact codicilref18_Last.mono _ _ _ _)
   | (with_reducible exact codicilref18_Live.mono _ _ _ _)
   | (with_reducible exact codicilref18_May.mono _ _ _ _)
   | (with_reducible exact codicilref18_Name.mono _ _)
   | (with_reducible exact codicilref18_Same.mono _ _ _ _ _ _ _)
   | (with_reducible exact subject_Last.mono _ _ _ _)
   | (with_reducible exact subject_Live.mono _ _ _ _)
   | (with_reducible exact LeO.refl _)
   | (with_reducible exact LeO.none _)
   | (with_reducible refine LeO.ite ?_ ?_)
   | (with_reducible refine LeO.bind ?_ (fun _ => ?_))
   | exact ih0 _ _ _ _ _ _ _
   | exact ih1 _ _ _ _ _ _ _ _ _ _ _ _ _ _ _ _ _ _ _ _ _ _ _ _ _ _ _ _ _ _ _ _ _ _ _
   | exact ih2 _ _ _ _ _ _ _ _ _ _ _ _ _ _ _ _ _ _ _ _ _ _ _ _ _ _ _ _
   | exact codicillaw18_alive.mono _
   | exact codicillaw18_same.mono _ _ _
   | exact codicilref18_Find.mono _ _ _ _ _
   | exact codicilref18_Has.mono _ _ _ _ _
   | exact codicilref18_Last.mono _ _ _ _
   | exact codicilref18_Live.mono _ _ _ _
   | exact codicilref18_May.mono _ _ _ _
   | exact codicilref18_Name.mono _ _
   | exact codicilref18_Same.mono _ _ _ _ _ _ _
   | exact subject_Last.mono _ _ _ _
   | exact subject_Live.mono _ _ _ _
   | exact LeO.none _
   | refine LeO.ite ?_ ?_
   | refine LeO.bind ?_ (fun _ => ?_)
def codicillaw18_SubjectTells.T16 : Bool × List (List Nat × List Nat) := (true, [([], []), ([0], [0]), ([], []), ([2, 1], [2]), ([1, 3], [1, 3]), ([4, 3], [4]), ([5], [5]), ([6, 5, 5], [5, 6]), ([5], [5]), ([8, 7, 5], [5, 8]), ([7, 9, 9, 5], [5, 7, 9]), ([5, 10], [5, 10]), ([11, 10], [11]), ([12], [12]), ([12], [12]), ([13, 14, 12], [12, 13, 14]), ([12, 15], [12, 15]), ([16, 12], [16]), ([17], [17]), ([17], [17]), ([18, 19, 17], [17, 18, 19]), ([17, 20], [17, 20]), ([21, 17], [21]), ([22], [22]), ([22], [22]), ([23, 24, 22], [22, 23, 24]), ([22, 25], [22, 25]), ([26, 22], [26]), ([27], [27]), ([27], [27]), ([28, 29, 27], [27, 28, 29]), ([27, 30], [27, 30]), ([31, 27], [31]), ([32], [32]), ([32], [32]), ([33, 34, 32], [32, 33, 34]), ([32, 35], [32, 35]), ([36, 32], [36]), ([37], [37]), ([37], [37]), ([38, 39, 37], [37, 38, 39]), ([37, 40], [37, 40]), ([41, 37], [41]), ([42, 42], [42]), ([42, 43], [42, 43]), ([44, 43, 0, 1, 2, 3, 4, 5, 6, 7, 8, 9, 10, 11, 12, 13, 14, 15, 16, 17, 18, 19, 20, 21, 22, 23, 24, 25, 26, 27, 28, 29, 30, 31, 32, 33, 34, 35, 36, 37, 38, 39, 40, 41, 42, 43, 44], [44])])
def codicillaw18_SubjectTells.B16 : List Nat := [0, 1, 0, 7, 15, 31, 63, 127, 63, 511, 1023, 2047, 4095, 8191, 8191, 32767, 65535, 131071, 262143, 262143, 1048575, 2097151, 4194303, 8388607, 8388607, 33554431, 67108863, 134217727, 268435455, 268435455, 1073741823, 2147483647, 4294967295, 8589934591, 8589934591, 34359738367, 68719476735, 137438953471, 274877906943, 274877906943, 1099511627775, 2199023255551, 4398046511103, 8796093022207, 17592186044415, 35184372088831]
theorem codicillaw18_SubjectTells.tab16 : rtab .any (opsOf Try.f4 16) = codicillaw18_SubjectTells.T16 := by kernel_rfl
theorem codicillaw18_SubjectTells.bits16 : waitsOk codicillaw18_SubjectTells.T16.2 codicillaw18_SubjectTells.B16 = true := by kernel_rfl
set_option maxHeartbeats 8000000 in
set_option maxRecDepth 100000 in
theorem codicillaw18_SubjectTells.calls1 (k : Nat) (a0_0 : ByteArray) (a0_1 : Int) (A0_2 : Option Addr) (c0_2 : Nat) (l0_2 : List (S30)) (a1 : Int) (a2 : Int) (a3 : ByteArray) (r : Bool) (w : World) (hr0_2 : Kd.C k30 w A0_2 l0_2.length l0_2) (hc0_2 : l0_2.length ≤ c0_2) (h : codicillaw18_SubjectTells.f k a0_0 a0_1 l0_2 a1 a2 a3 = some r) (hTrue : Aside0 (r = true)) :
  Calls Try.prog 4 #[.agg #[.string a0_0, .int .i64 a0_1, .slice A0_2 l0_2.length c0_2], .int .i64 a1, .int .u32 a2, .string a3] w fun e w' => e = .returned (.bool r) ∧ Below w.heap.size w w' := by
 have hu24 := Try.underlying24
 have hu30 := Try.underlying30
 have HR0_2 := qH hr0_2
 have HC0_2 := qH hc0_2
 clear hr0_2 hc0_2
 have HB := qH (Below.refl w.heap.size w)
 have H : ((codicillaw18_Heavy.f a0_0 a0_1 l0_2).bind fun t346 => (if t346 = true then (codicillaw18_SubjectTells.j0 k a1 a2 a3 true a0_0 a0_1 l0_2) else (codicillaw18_SubjectTells.j0 k a1 a2 a3 (decide ((a3.size : Int) > 1024)) a0_0 a0_1 l0_2))) = some r := h
 clear h
 have HC5 := qH H
 clear H
 go_enter Try.func4, Try.ntmps4
 go_upto_region 1 with (first | ((with_reducible refine gate_dst (N := 4) rfl ?_); (try (refine gate_guard (by rfl) ?_; dsimp only)); refine box_event ?hg (N := 4) ?hd (cs := #[.string a0_0, .int .i64 a0_1, .slice A0_2 l0_2.length c0_2]) (t := 24) ?hr ?_; (case hd => rfl); (case hg => rfl); (case hr => first | (go_simp; done) | (go_simp; rfl)); intro gb345 hg w6 hbox hb; have n0_ := qH (below_step (by repeat (first | (with_reducible first | exact HB.out | apply qL | apply qJ | apply qK) | exact HB.out)) hb); have n1_ := qH (hbox); have n2_ := qH ((by rw [hg]; exact (below_size (by repeat (first | (with_reducible first | exact HB.out | apply qL | apply qJ | apply qK) | exact HB.out))) : w.heap.size ≤ gb345)); have n3_ := n2_; clear HB; have HB := n0_; have BK345 := n1_; have GW345 := n2_; have GE345 := n3_; clear n0_ n1_ n2_ n3_; clear hb hbox hg))
 (try simp only [Act.put, List.setIfInBounds_toArray, List.set_cons_zero, List.set_cons_succ])
 go_cut [31] (fun v31 wc => ∃ (kq : Nat) (x31_4 : Bool), v31 = .bool x31_4 ∧ Aside0 (codicillaw18_SubjectTells.j0 kq a1 a2 a3 x31_4 a0_0 a0_1 l0_2 = some r) ∧ Aside0 (kq ≤ k) ∧ Aside0 (wc.heap[gb345]? = some (.cells #[.string a0_0, .int .i64 a0_1, (.slice A0_2 l0_2.length c0_2)] 24 (0, 0))) ∧ Aside0 (Below w.heap.size w wc))
 case first =>
  have H := HC5.out
  clear HC5
  replace H := Option.bind_eq_some_iff.mp H
  obtain ⟨t346, A70, H⟩ := H
  (try dsimp only at H)
  have A7 := qH A70
  clear A70
  by_cases c8 : t346 = true
  ·subst c8
   have H1 : (codicillaw18_SubjectTells.j0 k a1 a2 a3 true a0_0 a0_1 l0_2) = some r := by rw [if_pos rfl] at H; exact H
   clear H
   have H := H1
   clear H1
   have H' := qH H
   clear H
   have hcz9_0 : w6.cell? ⟨gb345, 0, none⟩ = some (.string a0_0) := (qE BK345.out 0).trans rfl
   have hcz9_1 : w6.cell? ⟨gb345, 1, none⟩ = some (.int .i64 a0_1) := (qE BK345.out 1).trans rfl
   have hcz9_2 : w6.cell? ⟨gb345, 2, none⟩ = some (.slice A0_2 l0_2.length c0_2) := (qE BK345.out 2).trans rfl
   have hfz9_0 := qF BK345.out 0
   have hfz9_1 := qF BK345.out 1
   have hfz9_2 := qF BK345.out 2
   go_wp2_with (first | ((with_reducible refine gate_callee (f := 9) rfl ?_); refine goesL_ (some 26) rfl rfl Try.func9 (by kernel_rfl) rfl #[.agg #[.string a0_0, .int .i64 a0_1, .slice A0_2 l0_2.length c0_2]] rfl (by (try simp only [List.map_toArray, List.map_cons, List.map_nil]); first | done | rfl | (simp only [List.length_drop, List.length_take]; rfl)) ?_; (with_reducible refine (codicillaw18_Heavy.calls a0_0 a0_1 _ _ l0_2 true _ ?side1 ?side2 A7.out).mono ?_); (case side1 => repeat (first | exact (Kd.C_below HR0_2.out HB.out) | (with_reducible refine Kd.C_alloc ?_ _) | (with_reducible refine Kd.C_drewN ?_ _) | (with_reducible refine Kd.C_drew ?_))); (case side2 => exact HC0_2.out); rintro e w10 ⟨rfl, hb⟩; refine ⟨_, rfl, ?_⟩; have n0_ := qH (qD (g := gb345) (by (with_reducible repeat first | apply qA | apply qC | apply qB); exact BK345.out) hb); have n1_ := qH (below_step (by repeat (first | (with_reducible first | exact HB.out | apply qL | apply qJ | apply qK | refine qI ?_ GE345.out) | exact HB.out)) hb); clear BK345; clear HB; have BK345 := n0_; have HB := n1_; clear n0_ n1_; (try clear hb); (try clear hb2); (try clear hk); (try clear hi)))
   go_meet
   case rel => exact ⟨_, (true), (by first | rfl | (simp; done) | (simp [*]; done)), H', ⟨by first | omega | exact Nat.le_refl _⟩, ⟨by (with_reducible repeat first | apply qA | apply qC | apply qB); exact BK345.out⟩, ⟨by repeat (first | (with_reducible first | exact HB.out | apply qL | apply qJ | apply qK | refine qI ?_ GE345.out) | exact HB.out)⟩⟩
  ·replace c8 := Bool.eq_false_iff.mpr c8
   subst c8
   have H1 : (codicillaw18_SubjectTells.j0 k a1 a2 a3 (decide ((a3.size : Int) > 1024)) a0_0 a0_1 l0_2) = some r := by rw [if_neg (show ¬ (false = true) by decide)] at H; exact H
   clear H
   have H := H1
   clear H1
   have H' := qH H
   clear H
   have hcz11_0 : w6.cell? ⟨gb345, 0, none⟩ = some (.string a0_0) := (qE BK345.out 0).trans rfl
   have hcz11_1 : w6.cell? ⟨gb345, 1, none⟩ = some (.int .i64 a0_1) := (qE BK345.out 1).trans rfl
   have hcz11_2 : w6.cell? ⟨gb345, 2, none⟩ = some (.slice A0_2 l0_2.length c0_2) := (qE BK345.out 2).trans rfl
   have hfz11_0 := qF BK345.out 0
   have hfz11_1 := qF BK345.out 1
   have hfz11_2 := qF BK345.out 2
   go_wp2_with (first | ((with_reducible refine gate_callee (f := 9) rfl ?_); refine goesL_ (some 26) rfl rfl Try.func9 (by kernel_rfl) rfl #[.agg #[.string a0_0, .int .i64 a0_1, .slice A0_2 l0_2.length c0_2]] rfl (by (try simp only [List.map_toArray, List.map_cons, List.map_nil]); first | done | rfl | (simp only [List.length_drop, List.length_take]; rfl)) ?_; (with_reducible refine (codicillaw18_Heavy.calls a0_0 a0_1 _ _ l0_2 false _ ?side1 ?side2 A7.out).mono ?_); (case side1 => repeat (first | exact (Kd.C_below HR0_2.out HB.out) | (with_reducible refine Kd.C_alloc ?_ _) | (with_reducible refine Kd.C_drewN ?_ _) | (with_reducible refine Kd.C_drew ?_))); (case side2 => exact HC0_2.out); rintro e w12 ⟨rfl, hb⟩; refine ⟨_, rfl, ?_⟩; have n0_ := qH (qD (g := gb345) (by (with_reducible repeat first | apply qA | apply qC | apply qB); exact BK345.out) hb); have n1_ := qH (below_step (by repeat (first | (with_reducible first | exact HB.out | apply qL | apply qJ | apply qK | refine qI ?_ GE345.out) | exact HB.out)) hb); clear BK345; clear HB; have BK345 := n0_; have HB := n1_; clear n0_ n1_; (try clear hb); (try clear hb2); (try clear hk); (try clear hi)))
   go_meet
   case rel => exact ⟨_, (decide ((a3.size : Int) > 1024)), (by first | rfl | (simp; done) | (simp [*]; done)), H', ⟨by first | omega | exact Nat.le_refl _⟩, ⟨by (with_reducible repeat first | apply qA | apply qC | apply qB); exact BK345.out⟩, ⟨by repeat (first | (with_reducible first | exact HB.out | apply qL | apply qJ | apply qK | refine qI ?_ GE345.out) | exact HB.out)⟩⟩
 case rest =>
  clear HC5
  try clear p2
  try clear c4
  try clear c8
  try clear c9
  try clear hcz11_0
  try clear hcz11_1
  try clear hcz11_2
  try clear hcz9_0
  try clear hcz9_1
  try clear hcz9_2
  try clear hfz11_0
  try clear hfz11_1
  try clear hfz11_2
  try clear hfz9_0
  try clear hfz9_1
  try clear hfz9_2
  obtain ⟨kq, x31_4, rfl, HA, HJ4, BK345, HB⟩ := hcut
  cases kq with
  | zero => exact absurd HA.out (by simp [codicillaw18_SubjectTells.j0])
  | succ kj4 =>
   have H := HA.out
   clear HA
   simp only [codicillaw18_SubjectTells.j0] at H
   by_cases c13 : x31_4 = true
   ·subst c13
    have H1 : ((codicillaw18_alive.f kj4).bind fun t347 => (some t347)) = some r := by rw [if_pos rfl] at H; exact H
    clear H
    have H := H1
    clear H1
    replace H := Option.bind_eq_some_iff.mp H
    obtain ⟨t347, A140, H⟩ := H
    (try dsimp only at H)
    have A14 := qH A140
    clear A140
    obtain rfl := Option.some.inj H
    simp only [Option.some.injEq, Prod.mk.injEq] at H
    obtain ⟨rfl⟩ := H
    go_wp2_with (first | ((with_reducible refine gate_callee (f := 10) rfl ?_); refine goesL_ (some 32) rfl rfl Try.func10 (by kernel_rfl) rfl #[] rfl (by (try simp only [List.map_toArray, List.map_cons, List.map_nil]); first | done | rfl | (simp only [List.length_drop, List.length_take]; rfl)) ?_; (with_reducible refine (codicillaw18_alive.calls kj4  t347 _ A14.out).mono ?_); rintro e w15 ⟨rfl, hb⟩; refine ⟨_, rfl, ?_⟩; have n0_ := qH (qD (g := gb345) (by (with_reducible repeat first | apply qA | apply qC | apply qB); exact BK345.out) hb); have n1_ := qH (below_step (by repeat (first | (with_reducible first | exact HB.out | apply qL | apply qJ | apply qK | refine qI ?_ GE345.out) | exact HB.out)) hb); clear BK345; clear HB; have BK345 := n0_; have HB := n1_; clear n0_ n1_; (try clear hb); (try clear hb2); (try clear hk); (try clear hi)))
    go_ret
    exact ⟨by first | rfl | (simp [errW_none, errW_some] <;> rfl) | (simp [*, errW_none, errW_some] <;> rfl), by repeat (first | (with_reducible first | exact HB.out | apply qL | apply qJ | apply qK | refine qI ?_ GE345.out) | exact HB.out)⟩
   ·replace c13 := Bool.eq_false_iff.mpr c13
    subst c13
    have H1 : ((subject_Last.f kj4 a0_0 a0_1 l0_2).bind fun bt348 => ((codicilref18_Last.f kj4 a0_0 a0_1 l0_2).bind fun bt353 => ((subject_Find.f a0_0 a0_1 l0_2 a1).bind fun bt358 => ((codicilref18_Find.f kj4 a0_0 a0_1 l0_2 a1).bind fun bt363 => ((subject_Has.f a0_0 a0_1 l0_2 a2).bind fun bt368 => ((codicilref18_Has.f kj4 a0_0 a0_1 l0_2 a2).bind fun bt373 => ((subject_New.f a3).bind fun bt378 => ((codicilref18_Name.f kj4 a3).bind fun t385 => (if t385 = true then (codicillaw18_SubjectTells.j1 kj4 a3 bt348.2.2.2 bt353.2.2.2 bt358.2.2.2 bt363.2.2.2 bt368.2.2.2 bt373.2.2.2 bt378.2.2.2 t385 a0_0 a0_1 l0_2 bt348.1 bt348.2.1 bt348.2.2.1 bt353.1 bt353.2.1 bt353.2.2.1 bt358.1 bt358.2.1 bt358.2.2.1 bt363.1 bt363.2.1 bt363.2.2.1 bt368.1 bt368.2.1 bt368.2.2.1 bt373.1 bt373.2.1 bt373.2.2.1 bt378.1 bt378.2.1 bt378.2.2.1 a3 1) else (codicillaw18_SubjectTells.j1 kj4 a3 bt348.2.2.2 bt353.2.2.2 bt358.2.2.2 bt363.2.2.2 bt368.2.2.2 bt373.2.2.2 bt378.2.2.2 t385 a0_0 a0_1 l0_2 bt348.1 bt348.2.1 bt348.2.2.1 bt353.1 bt353.2.1 bt353.2.2.1 bt358.1 bt358.2.1 bt358.2.2.1 bt363.1 bt363.2.1 bt363.2.2.1 bt368.1 bt368.2.1 bt368.2.2.1 bt373.1 bt373.2.1 bt373.2.2.1 bt378.1 bt378.2.1 bt378.2.2.1 (⟨#[]⟩ : ByteArray) 0)))))))))) = some r := by rw [if_neg (show ¬ (false = true) by decide)] at H; exact H
    clear H
    have H := H1
    clear H1
    replace H := Option.bind_eq_some_iff.mp H
    obtain ⟨⟨t348, t349, t350, t351⟩, A160, H⟩ := H
    (try dsimp only at H)
    have A16 := qH A160
    clear A160
    replace H := Option.bind_eq_some_iff.mp H
    obtain ⟨⟨t353, t354, t355, t356⟩, A170, H⟩ := H
    (try dsimp only at H)
    have A17 := qH A170
    clear A170
    replace H := Option.bind_eq_some_iff.mp H
    obtain ⟨⟨t358, t359, t360, t361⟩, A180, H⟩ := H
    (try dsimp only at H)
    have A18 := qH A180
    clear A180
    replace H := Option.bind_eq_some_iff.mp H
    obtain ⟨⟨t363, t364, t365, t366⟩, A190, H⟩ := H
    (try dsimp only at H)
    have A19 := qH A190
    clear A190
    replace H := Option.bind_eq_some_iff.mp H
    obtain ⟨⟨t368, t369, t370, t371⟩, A200, H⟩ := H
    (try dsimp only at H)
    have A20 := qH A200
    clear A200
    replace H := Option.bind_eq_some_iff.mp H
    obtain ⟨⟨t373, t374, t375, t376⟩, A210, H⟩ := H
    (try dsimp only at H)
    have A21 := qH A210
    clear A210
    replace H := Option.bind_eq_some_iff.mp H
    obtain ⟨⟨t378, t379, t380, t383⟩, A220, H⟩ := H
    (try dsimp only at H)
    have A22 := qH A220
    clear A220
    replace H := Option.bind_eq_some_iff.mp H
    obtain ⟨t385, A230, H⟩ := H
    (try dsimp only at H)
    have A23 := qH A230
    clear A230
    have HC24 := qH H
    clear H
    have hcz25_0 : wc.cell? ⟨gb345, 0, none⟩ = some (.string a0_0) := (qE BK345.out 0).trans rfl
    have hcz25_1 : wc.cell? ⟨gb345, 1, none⟩ = some (.int .i64 a0_1) := (qE BK345.out 1).trans rfl
    have hcz25_2 : wc.cell? ⟨gb345, 2, none⟩ = some (.slice A0_2 l0_2.length c0_2) := (qE BK345.out 2).trans rfl
    have hfz25_0 := qF BK345.out 0
    have hfz25_1 := qF BK345.out 1
    have hfz25_2 := qF BK345.out 2
    go_upto_if 75 with (first | ((with_reducible refine gate_callee (f := 19) rfl ?_); refine goesL_ (some 35) rfl rfl Try.func19 (by kernel_rfl) rfl #[.agg #[.string a0_0, .int .i64 a0_1, .slice A0_2 l0_2.length c0_2]] rfl (by (try simp only [List.map_toArray, List.map_cons, List.map_nil]); first | done | rfl | (simp only [List.length_drop, List.length_take]; rfl)) ?_; (with_reducible refine (subject_Last.calls kj4 a0_0 a0_1 _ _ l0_2 t348 t349 t350 t351 _ ?side1 ?side2 A16.out).mono ?_); (case side1 => repeat (first | exact (Kd.C_below HR0_2.out HB.out) | (with_reducible refine Kd.C_alloc ?_ _) | (with_reducible refine Kd.C_drewN ?_ _) | (with_reducible refine Kd.C_drew ?_))); (case side2 => exact HC0_2.out); rintro e w26 ⟨rfl, hb⟩; refine ⟨_, rfl, ?_⟩; have n0_ := qH (qD (g := gb345) (by (with_reducible repeat first | apply qA | apply qC | apply qB); exact BK345.out) hb); have n1_ := qH (below_step (by repeat (first | (with_reducible first | exact HB.out | apply qL | apply qJ | apply qK | refine qI ?_ GE345.out) | exact HB.out)) hb); clear BK345; clear HB; have BK345 := n0_; have HB := n1_; clear n0_ n1_; (try clear hb); (try clear hb2); (try clear hk); (try clear hi)) | ((with_reducible refine gate_dst (N := 9) rfl ?_); (try (refine gate_guard (by rfl) ?_; dsimp only)); refine box_event ?hg (N := 9) ?hd (cs := #[.int .i64 0, .int .u32 0, .bool false]) (t := 30) ?hr ?_; (case hd => rfl); (case hg => rfl); (case hr => first | (go_simp; done) | (go_simp; rfl)); intro gb352 hg w27 hbox hb; have n0_ := qH (qD (g := gb345) (by (with_reducible repeat first | apply qA | apply qC | apply qB); exact BK345.out) hb); have n1_ := qH (below_step (by repeat (first | (with_reducible first | exact HB.out | apply qL | apply qJ | apply qK | refine qI ?_ GE345.out) | exact HB.out)) hb); have n2_ := qH (hbox); have n3_ := qH ((by rw [hg]; exact (below_size (by repeat (first | (with_reducible first | exact HB.out | apply qL | apply qJ | apply qK | refine qI ?_ GE345.out) | exact HB.out))) : w.heap.size ≤ gb352)); have n4_ := n3_; have n5_ := qH ((by rw [hg]; exact qN (blk_lt (g := gb345) (by (with_reducible repeat first | apply qA | apply qC | apply qB); exact BK345.out)) : gb345 ≠ gb352)); have n6_ := qH ((by rw [hg]; exact Nat.ne_of_gt (blk_lt (g := gb345) (by (with_reducible repeat first | apply qA | apply qC | apply qB); exact BK345.out)) : gb352 ≠ gb345)); clear BK345; clear HB; have BK345 := n0_; have HB := n1_; have BK352 := n2_; have GW352 := n3_; have GE352 := n4_; have NB345_352 := n5_; have NB352_345 := n6_; clear n0_ n1_ n2_ n3_ n4_ n5_ n6_; clear hb hbox hg; have hnb28 := NB352_345.out; have hnc28 := NB345_352.out; obtain ⟨hcz29_0, hcz29_1, hcz29_2⟩ := qc3 BK352.out; obtain ⟨hfz29_0, hfz29_1, hfz29_2⟩ := qf3 BK352.out; obtain ⟨hcz30_0, hcz30_1, hcz30_2⟩ := qc3 BK345.out; obtain ⟨hfz30_0, hfz30_1, hfz30_2⟩ := qf3 BK345.out) | ((with_reducible refine gate_callee (f := 20) rfl ?_); refine goesL_ (some 40) rfl rfl Try.func20 (by kernel_rfl) rfl #[.agg #[.string a0_0, .int .i64 a0_1, .slice A0_2 l0_2.length c0_2]] rfl (by (try simp only [List.map_toArray, List.map_cons, List.map_nil]); first | done | rfl | (simp only [List.length_drop, List.length_take]; rfl)) ?_; (with_reducible refine (codicilref18_Last.calls kj4 a0_0 a0_1 _ _ l0_2 t353 t354 t355 t356 _ ?side1 ?side2 A17.out).mono ?_); (case side1 => exact Kd.C_below HR0_2.out (by repeat (first | (with_reducible first | exact HB.out | apply qL | apply qJ | apply qK | refine qI ?_ GE345.out | refine qI ?_ GE352.out) | exact HB.out))); (case side2 => exact HC0_2.out); rintro e w31 ⟨rfl, hb⟩; refine ⟨_, rfl, ?_⟩; have n0_ := qH (qD (g := gb345) (o := .cells #[.string a0_0, .int .i64 a0_1, .slice A0_2 l0_2.length c0_2] 24 (0, 0)) (by (with_reducible repeat first | apply qA | apply qC | apply qB); refine qG ?_ NB345_352.out _; (with_reducible repeat first | apply qA | apply qC | apply qB); refine qG ?_ NB345_352.out _; (with_reducible repeat first | apply qA | apply qC | apply qB); refine qG ?_ NB345_352.out _; (with_reducible repeat first | apply qA | apply qC | apply qB); exact BK345.out) hb); have n1_ := qH (qD (g := gb352) (o := .cells #[.int .i64 t348, .int .u32 t349, .bool t350] 30 (0, 0)) (by (with_reducible repeat first | apply qA | apply qC | apply qB); refine blk_put (cs := #[.int .i64 t348, .int .u32 t349, .bool false]) ?_ 2 _ rfl; (with_reducible repeat first | apply qA | apply qC | apply qB); refine blk_put (cs := #[.int .i64 t348, .int .u32 0, .bool false]) ?_ 1 _ rfl; (with_reducible repeat first | apply qA | apply qC | apply qB); refine blk_put (cs := #[.int .i64 0, .int .u32 0, .bool false]) ?_ 0 _ rfl; (with_reducible repeat first | apply qA | apply qC | apply qB); exact BK352.out) hb); have n2_ := qH (below_step (by repeat (first | (with_reducible first | exact HB.out | apply qL | apply qJ | apply qK | refine qI ?_ GE345.out | refine qI ?_ GE352.out) | exact HB.out)) hb); clear BK345; clear BK352; clear HB; have BK345 := n0_; have BK352 := n1_; have HB := n2_; clear n0_ n1_ n2_; (try clear hb); (try clear hb2); (try clear hk); (try clear hi)) | ((with_reducible refine gate_dst (N := 11) rfl ?_); (try (refine gate_guard (by rfl) ?_; dsimp only)); refine box_event ?hg (N := 11) ?hd (cs := #[.int .i64 0, .int .u32 0, .bool false]) (t := 30) ?hr ?_; (case hd => rfl); (case hg => rfl); (case hr => first | (go_simp; done) | (go_simp; rfl)); intro gb357 hg w32 hbox hb; have n0_ := qH (qD (g := gb345) (by (with_reducible repeat first | apply qA | apply qC | apply qB); exact BK345.out) hb); have n1_ := qH (qD (g := gb352) (by (with_reducible repeat first | apply qA | apply qC | apply qB); exact BK352.out) hb); have n2_ := qH (below_step (by repeat (first | (with_reducible first | exact HB.out | apply qL | apply qJ | apply qK | refine qI ?_ GE345.out | refine qI ?_ GE352.out) | exact HB.out)) hb); have n3_ := qH (hbox); have n4_ := qH ((by rw [hg]; exact (below_size (by repeat (first | (with_reducible first | exact HB.out | apply qL | apply qJ | apply qK | refine qI ?_ GE345.out | refine qI ?_ GE352.out) | exact HB.out))) : w.heap.size ≤ gb357)); have n5_ := n4_; have n6_ := qH ((by rw [hg]; exact qN (blk_lt (g := gb345) (by (with_reducible repeat first | apply qA | apply qC | apply qB); exact BK345.out)) : gb345 ≠ gb357)); have n7_ := qH ((by rw [hg]; exact Nat.ne_of_gt (blk_lt (g := gb345) (by (with_reducible repeat first | apply qA | apply qC | apply qB); exact BK345.out)) : gb357 ≠ gb345)); have n8_ := qH ((by rw [hg]; exact qN (blk_lt (g := gb352) (by (with_reducible repeat first | apply qA | apply qC | apply qB); exact BK352.out)) : gb352 ≠ gb357)); have n9_ := qH ((by rw [hg]; exact Nat.ne_of_gt (blk_lt (g := gb352) (by (with_reducible repeat first | apply qA | apply qC | apply qB); exact BK352.out)) : gb357 ≠ gb352)); clear BK345; clear BK352; clear HB; have BK345 := n0_; have BK352 := n1_; have HB := n2_; have BK357 := n3_; have GW357 := n4_; have GE357 := n5_; have NB345_357 := n6_; have NB357_345 := n7_; have NB352_357 := n8_; have NB357_352 := n9_; clear n0_ n1_ n2_ n3_ n4_ n5_ n6_ n7_ n8_ n9_; clear hb hbox hg; have hnb33 := NB357_345.out; have hnc33 := NB345_357.out; have hnb34 := NB357_352.out; have hnc34 := NB352_357.out; obtain ⟨hcz35_0, hcz35_1, hcz35_2⟩ := qc3 BK357.out; obtain ⟨hfz35_0, hfz35_1, hfz35_2⟩ := qf3 BK357.out; obtain ⟨hcz36_0, hcz36_1, hcz36_2⟩ := qc3 BK345.out; obtain ⟨hfz36_0, hfz36_1, hfz36_2⟩ := qf3 BK345.out) | ((with_reducible refine gate_callee (f := 21) rfl ?_); refine goesL_ (some 46) rfl rfl Try.func21 (by kernel_rfl) rfl #[.agg #[.string a0_0, .int .i64 a0_1, .slice A0_2 l0_2.length c0_2], .int .i64 a1] rfl (by (try simp only [List.map_toArray, List.map_cons, List.map_nil]); first | done | rfl | (simp only [List.length_drop, List.length_take]; rfl)) ?_; (with_reducible refine (subject_Find.calls a0_0 a0_1 _ _ l0_2 a1 t358 t359 t360 t361 _ ?side1 ?side2 A18.out).mono ?_); (case side1 => exact Kd.C_below HR0_2.out (by repeat (first | (with_reducible first | exact HB.out | apply qL | apply qJ | apply qK | refine qI ?_ GE345.out | refine qI ?_ GE352.out | refine qI ?_ GE357.out) | exact HB.out))); (case side2 => exact HC0_2.out); rintro e w37 ⟨rfl, hb⟩; refine ⟨_, rfl, ?_⟩; have n0_ := qH (qD (g := gb345) (o := .cells #[.string a0_0, .int .i64 a0_1, .slice A0_2 l0_2.length c0_2] 24 (0, 0)) (by (with_reducible repeat first | apply qA | apply qC | apply qB); refine qG ?_ NB345_357.out _; (with_reducible repeat first | apply qA | apply qC | apply qB); refine qG ?_ NB345_357.out _; (with_reducible repeat first | apply qA | apply qC | apply qB); refine qG ?_ NB345_357.out _; (with_reducible repeat first | apply qA | apply qC | apply qB); exact BK345.out) hb); have n1_ := qH (qD (g := gb352) (o := .cells #[.int .i64 t348, .int .u32 t349, .bool t350] 30 (0, 0)) (by (with_reducible repeat first | apply qA | apply qC | apply qB); refine qG ?_ NB352_357.out _; (with_reducible repeat first | apply qA | apply qC | apply qB); refine qG ?_ NB352_357.out _; (with_reducible repeat first | apply qA | apply qC | apply qB); refine qG ?_ NB352_357.out _; (with_reducible repeat first | apply qA | apply qC | apply qB); exact BK352.out) hb); have n2_ := qH (qD (g := gb357) (o := .cells #[.int .i64 t353, .int .u32 t354, .bool t355] 30 (0, 0)) (by (with_reducible repeat first | apply qA | apply qC | apply qB); refine blk_put (cs := #[.int .i64 t353, .int .u32 t354, .bool false]) ?_ 2 _ rfl; (with_reducible repeat first | apply qA | apply qC | apply qB); refine blk_put (cs := #[.int .i64 t353, .int .u32 0, .bool false]) ?_ 1 _ rfl; (with_reducible repeat first | apply qA | apply qC | apply qB); refine blk_put (cs := #[.int .i64 0, .int .u32 0, .bool false]) ?_ 0 _ rfl; (with_reducible repeat first | apply qA | apply qC | apply qB); exact BK357.out) hb); have n3_ := qH (below_step (by repeat (first | (with_reducible first | exact HB.out | apply qL | apply qJ | apply qK | refine qI ?_ GE345.out | refine qI ?_ GE352.out | refine qI ?_ GE357.out) | exact HB.out)) hb); clear BK345; clear BK352; clear BK357; clear HB; have BK345 := n0_; have BK352 := n1_; have BK357 := n2_; have HB := n3_; clear n0_ n1_ n2_ n3_; (try clear hb); (try clear hb2); (try clear hk); (try clear hi)) | ((with_reducible refine gate_dst (N := 13) rfl ?_); (try (refine gate_guard (by rfl) ?_; dsimp only)); refine box_event ?hg (N := 13) ?hd (cs := #[.int .i64 0, .int .u32 0, .bool false]) (t := 30) ?hr ?_; (case hd => rfl); (case hg => rfl); (case hr => first | (go_simp; done) | (go_simp; rfl)); intro gb362 hg w38 hbox hb; have n0_ := qH (qD (g := gb345) (by (with_reducible repeat first | apply qA | apply qC | apply qB); exact BK345.out) hb); have n1_ := qH (qD (g := gb352) (by (with_reducible repeat first | apply qA | apply qC | apply qB); exact BK352.out) hb); have n2_ := qH (qD (g := gb357) (by (with_reducible repeat first | apply qA | apply qC | apply qB); exact BK357.out) hb); have n3_ := qH (below_step (by repeat (first | (with_reducible first | exact HB.out | apply qL | apply qJ | apply qK | refine qI ?_ GE345.out | refine qI ?_ GE352.out | refine qI ?_ GE357.out) | exact HB.out)) hb); have n4_ := qH (hbox); have n5_ := qH ((by rw [hg]; exact (below_size (by repeat (first | (with_reducible first | exact HB.out | apply qL | apply qJ | apply qK | refine qI ?_ GE345.out | refine qI ?_ GE352.out | refine qI ?_ GE357.out) | exact HB.out))) : w.heap.size ≤ gb362)); have n6_ := n5_; have n7_ := qH ((by rw [hg]; exact qN (blk_lt (g := gb345) (by (with_reducible repeat first | apply qA | apply qC | apply qB); exact BK345.out)) : gb345 ≠ gb362)); have n8_ := qH ((by rw [hg]; exact Nat.ne_of_gt (blk_lt (g := gb345) (by (with_reducible repeat first | apply qA | apply qC | apply qB); exact BK345.out)) : gb362 ≠ gb345)); have n9_ := qH ((by rw [hg]; exact qN (blk_lt (g := gb352) (by (with_reducible repeat first | apply qA | apply qC | apply qB); exact BK352.out)) : gb352 ≠ gb362)); have n10_ := qH ((by rw [hg]; exact Nat.ne_of_gt (blk_lt (g := gb352) (by (with_reducible repeat first | apply qA | apply qC | apply qB); exact BK352.out)) : gb362 ≠ gb352)); have n11_ := qH ((by rw [hg]; exact qN (blk_lt (g := gb357) (by (with_reducible repeat first | apply qA | apply qC | apply qB); exact BK357.out)) : gb357 ≠ gb362)); have n12_ := qH ((by rw [hg]; exact Nat.ne_of_gt (blk_lt (g := gb357) (by (with_reducible repeat first | apply qA | apply qC | apply qB); exact BK357.out)) : gb362 ≠ gb357)); clear BK345; clear BK352; clear BK357; clear HB; have BK345 := n0_; have BK352 := n1_; have BK357 := n2_; have HB := n3_; have BK362 := n4_; have GW362 := n5_; have GE362 := n6_; have NB345_362 := n7_; have NB362_345 := n8_; have NB352_362 := n9_; have NB362_352 := n10_; have NB357_362 := n11_; have NB362_357 := n12_; clear n0_ n1_ n2_ n3_ n4_ n5_ n6_ n7_ n8_ n9_ n10_ n11_ n12_; clear hb hbox hg; have hnb39 := NB362_345.out; have hnc39 := NB345_362.out; have hnb40 := NB362_352.out; have hnc40 := NB352_362.out; have hnb41 := NB362_357.out; have hnc41 := NB357_362.out; obtain ⟨hcz42_0, hcz42_1, hcz42_2⟩ := qc3 BK362.out; obtain ⟨hfz42_0, hfz42_1, hfz42_2⟩ := qf3 BK362.out; obtain ⟨hcz43_0, hcz43_1, hcz43_2⟩ := qc3 BK345.out; obtain ⟨hfz43_0, hfz43_1, hfz43_2⟩ := qf3 BK345.out) | ((with_reducible refine gate_callee (f := 22) rfl ?_); refine goesL_ (some 52) rfl rfl Try.func22 (by kernel_rfl) rfl #[.agg #[.string a0_0, .int .i64 a0_1, .slice A0_2 l0_2.length c0_2], .int .i64 a1] rfl (by (try simp only [List.map_toArray, List.map_cons, List.map_nil]); first | done | rfl | (simp only [List.length_drop, List.length_take]; rfl)) ?_; (with_reducible refine (codicilref18_Find.calls kj4 a0_0 a0_1 _ _ l0_2 a1 t363 t364 t365 t366 _ ?side1 ?side2 A19.out).mono ?_); (case side1 => exact Kd.C_below HR0_2.out (by repeat (first | (with_reducible first | exact HB.out | apply qL | apply qJ | apply qK | refine qI ?_ GE345.out | refine qI ?_ GE352.out | refine qI ?_ GE357.out | refine qI ?_ GE362.out) | exact HB.out))); (case side2 => exact HC0_2.out); rintro e w44 ⟨rfl, hb⟩; refine ⟨_, rfl, ?_⟩; have n0_ := qH (qD (g := gb345) (o := .cells #[.string a0_0, .int .i64 a0_1, .slice A0_2 l0_2.length c0_2] 24 (0, 0)) (by (with_reducible repeat first | apply qA | apply qC | apply qB); refine qG ?_ NB345_362.out _; (with_reducible repeat first | apply qA | apply qC | apply qB); refine qG ?_ NB345_362.out _; (with_reducible repeat first | apply qA | apply qC | apply qB); refine qG ?_ NB345_362.out _; (with_reducible repeat first | apply qA | apply qC | apply qB); exact BK345.out) hb); have n1_ := qH (qD (g := gb352) (o := .cells #[.int .i64 t348, .int .u32 t349, .bool t350] 30 (0, 0)) (by (with_reducible repeat first | apply qA | apply qC | apply qB); refine qG ?_ NB352_362.out _; (with_reducible repeat first | apply qA | apply qC | apply qB); refine qG ?_ NB352_362.out _; (with_reducible repeat first | apply qA | apply qC | apply qB); refine qG ?_ NB352_362.out _; (with_reducible repeat first | apply qA | apply qC | apply qB); exact BK352.out) hb); have n2_ := qH (qD (g := gb357) (o := .cells #[.int .i64 t353, .int .u32 t354, .bool t355] 30 (0, 0)) (by (with_reducible repeat first | apply qA | apply qC | apply qB); refine qG ?_ NB357_362.out _; (with_reducible repeat first | apply qA | apply qC | apply qB); refine qG ?_ NB357_362.out _; (with_reducible repeat first | apply qA | apply qC | apply qB); refine qG ?_ NB357_362.out _; (with_reducible repeat first | apply qA | apply qC | apply qB); exact BK357.out) hb); have n3_ := qH (qD (g := gb362) (o := .cells #[.int .i64 t358, .int .u32 t359, .bool t360] 30 (0, 0)) (by (with_reducible repeat first | apply qA | apply qC | apply qB); refine blk_put (cs := #[.int .i64 t358, .int .u32 t359, .bool false]) ?_ 2 _ rfl; (with_reducible repeat first | apply qA | apply qC | apply qB); refine blk_put (cs := #[.int .i64 t358, .int .u32 0, .bool false]) ?_ 1 _ rfl; (with_reducible repeat first | apply qA | apply qC | apply qB); refine blk_put (cs := #[.int .i64 0, .int .u32 0, .bool false]) ?_ 0 _ rfl; (with_reducible repeat first | apply qA | apply qC | apply qB); exact BK362.out) hb); have n4_ := qH (below_step (by repeat (first | (with_reducible first | exact HB.out | apply qL | apply qJ | apply qK | refine qI ?_ GE345.out | refine qI ?_ GE352.out | refine qI ?_ GE357.out | refine qI ?_ GE362.out) | exact HB.out)) hb); clear BK345; clear BK352; clear BK357; clear BK362; clear HB; have BK345 := n0_; have BK352 := n1_; have BK357 := n2_; have BK362 := n3_; have HB := n4_; clear n0_ n1_ n2_ n3_ n4_; (try clear hb); (try clear hb2); (try clear hk); (try clear hi)) | ((with_reducible refine gate_dst (N := 15) rfl ?_); (try (refine gate_guard (by rfl) ?_; dsimp only)); refine box_event ?hg (N := 15) ?hd (cs := #[.int .i64 0, .int .u32 0, .bool false]) (t := 30) ?hr ?_; (case hd => rfl); (case hg => rfl); (case hr => first | (go_simp; done) | (go_simp; rfl)); intro gb367 hg w45 hbox hb; have n0_ := qH (qD (g := gb345) (by (with_reducible repeat first | apply qA | apply qC | apply qB); exact BK345.out) hb); have n1_ := qH (qD (g := gb352) (by (with_reducible repeat first | apply qA | apply qC | apply qB); exact BK352.out) hb); have n2_ := qH (qD (g := gb357) (by (with_reducible repeat first | apply qA | apply qC | apply qB); exact BK357.out) hb); have n3_ := qH (qD (g := gb362) (by (with_reducible repeat first | apply qA | apply qC | apply qB); exact BK362.out) hb); have n4_ := qH (below_step (by repeat (first | (with_reducible first | exact HB.out | apply qL | apply qJ | apply qK | refine qI ?_ GE345.out | refine qI ?_ GE352.out | refine qI ?_ GE357.out | refine qI ?_ GE362.out) | exact HB.out)) hb); have n5_ := qH (hbox); have n6_ := qH ((by rw [hg]; exact (below_size (by repeat (first | (with_reducible first | exact HB.out | apply qL | apply qJ | apply qK | refine qI ?_ GE345.out | refine qI ?_ GE352.out | refine qI ?_ GE357.out | refine qI ?_ GE362.out) | exact HB.out))) : w.heap.size ≤ gb367)); have n7_ := n6_; have n8_ := qH ((by rw [hg]; exact qN (blk_lt (g := gb345) (by (with_reducible repeat first | apply qA | apply qC | apply qB); exact BK345.out)) : gb345 ≠ gb367)); have n9_ := qH ((by rw [hg]; exact Nat.ne_of_gt (blk_lt (g := gb345) (by (with_reducible repeat first | apply qA | apply qC | apply qB); exact BK345.out)) : gb367 ≠ gb345)); have n10_ := qH ((by rw [hg]; exact qN (blk_lt (g := gb352) (by (with_reducible repeat first | apply qA | apply qC | apply qB); exact BK352.out)) : gb352 ≠ gb367)); have n11_ := qH ((by rw [hg]; exact Nat.ne_of_gt (blk_lt (g := gb352) (by (with_reducible repeat first | apply qA | apply qC | apply qB); exact BK352.out)) : gb367 ≠ gb352)); have n12_ := qH ((by rw [hg]; exact qN (blk_lt (g := gb357) (by (with_reducible repeat first | apply qA | apply qC | apply qB); exact BK357.out)) : gb357 ≠ gb367)); have n13_ := qH ((by rw [hg]; exact Nat.ne_of_gt (blk_lt (g := gb357) (by (with_reducible repeat first | apply qA | apply qC | apply qB); exact BK357.out)) : gb367 ≠ gb357)); have n14_ := qH ((by rw [hg]; exact qN (blk_lt (g := gb362) (by (with_reducible repeat first | apply qA | apply qC | apply qB); exact BK362.out)) : gb362 ≠ gb367)); have n15_ := qH ((by rw [hg]; exact Nat.ne_of_gt (blk_lt (g := gb362) (by (with_reducible repeat first | apply qA | apply qC | apply qB); exact BK362.out)) : gb367 ≠ gb362)); clear BK345; clear BK352; clear BK357; clear BK362; clear HB; have BK345 := n0_; have BK352 := n1_; have BK357 := n2_; have BK362 := n3_; have HB := n4_; have BK367 := n5_; have GW367 := n6_; have GE367 := n7_; have NB345_367 := n8_; have NB367_345 := n9_; have NB352_367 := n10_; have NB367_352 := n11_; have NB357_367 := n12_; have NB367_357 := n13_; have NB362_367 := n14_; have NB367_362 := n15_; clear n0_ n1_ n2_ n3_ n4_ n5_ n6_ n7_ n8_ n9_ n10_ n11_ n12_ n13_ n14_ n15_; clear hb hbox hg; have hnb46 := NB367_345.out; have hnc46 := NB345_367.out; have hnb47 := NB367_352.out; have hnc47 := NB352_367.out; have hnb48 := NB367_357.out; have hnc48 := NB357_367.out; have hnb49 := NB367_362.out; have hnc49 := NB362_367.out; obtain ⟨hcz50_0, hcz50_1, hcz50_2⟩ := qc3 BK367.out; obtain ⟨hfz50_0, hfz50_1, hfz50_2⟩ := qf3 BK367.out; obtain ⟨hcz51_0, hcz51_1, hcz51_2⟩ := qc3 BK345.out; obtain ⟨hfz51_0, hfz51_1, hfz51_2⟩ := qf3 BK345.out) | ((with_reducible refine gate_callee (f := 23) rfl ?_); refine goesL_ (some 58) rfl rfl Try.func23 (by kernel_rfl) rfl #[.agg #[.string a0_0, .int .i64 a0_1, .slice A0_2 l0_2.length c0_2], .int .u32 a2] rfl (by (try simp only [List.map_toArray, List.map_cons, List.map_nil]); first | done | rfl | (simp only [List.length_drop, List.length_take]; rfl)) ?_; (with_reducible refine (subject_Has.calls a0_0 a0_1 _ _ l0_2 a2 t368 t369 t370 t371 _ ?side1 ?side2 A20.out).mono ?_); (case side1 => exact Kd.C_below HR0_2.out (by repeat (first | (with_reducible first | exact HB.out | apply qL | apply qJ | apply qK | refine qI ?_ GE345.out | refine qI ?_ GE352.out | refine qI ?_ GE357.out | refine qI ?_ GE362.out | refine qI ?_ GE367.out) | exact HB.out))); (case side2 => exact HC0_2.out); rintro e w52 ⟨rfl, hb⟩; refine ⟨_, rfl, ?_⟩; have n0_ := qH (qD (g := gb345) (o := .cells #[.string a0_0, .int .i64 a0_1, .slice A0_2 l0_2.length c0_2] 24 (0, 0)) (by (with_reducible repeat first | apply qA | apply qC | apply qB); refine qG ?_ NB345_367.out _; (with_reducible repeat first | apply qA | apply qC | apply qB); refine qG ?_ NB345_367.out _; (with_reducible repeat first | apply qA | apply qC | apply qB); refine qG ?_ NB345_367.out _; (with_reducible repeat first | apply qA | apply qC | apply qB); exact BK345.out) hb); have n1_ := qH (qD (g := gb352) (o := .cells #[.int .i64 t348, .int .u32 t349, .bool t350] 30 (0, 0)) (by (with_reducible repeat first | apply qA | apply qC | apply qB); refine qG ?_ NB352_367.out _; (with_reducible repeat first | apply qA | apply qC | apply qB); refine qG ?_ NB352_367.out _; (with_reducible repeat first | apply qA | apply qC | apply qB); refine qG ?_ NB352_367.out _; (with_reducible repeat first | apply qA | apply qC | apply qB); exact BK352.out) hb); have n2_ := qH (qD (g := gb357) (o := .cells #[.int .i64 t353, .int .u32 t354, .bool t355] 30 (0, 0)) (by (with_reducible repeat first | apply qA | apply qC | apply qB); refine qG ?_ NB357_367.out _; (with_reducible repeat first | apply qA | apply qC | apply qB); refine qG ?_ NB357_367.out _; (with_reducible repeat first | apply qA | apply qC | apply qB); refine qG ?_ NB357_367.out _; (with_reducible repeat first | apply qA | apply qC | apply qB); exact BK357.out) hb); have n3_ := qH (qD (g := gb362) (o := .cells #[.int .i64 t358, .int .u32 t359, .bool t360] 30 (0, 0)) (by (with_reducible repeat first | apply qA | apply qC | apply qB); refine qG ?_ NB362_367.out _; (with_reducible repeat first | apply qA | apply qC | apply qB); refine qG ?_ NB362_367.out _; (with_reducible repeat first | apply qA | apply qC | apply qB); refine qG ?_ NB362_367.out _; (with_reducible repeat first | apply qA | apply qC | apply qB); exact BK362.out) hb); have n4_ := qH (qD (g := gb367) (o := .cells #[.int .i64 t363, .int .u32 t364, .bool t365] 30 (0, 0)) (by (with_reducible repeat first | apply qA | apply qC | apply qB); refine blk_put (cs := #[.int .i64 t363, .int .u32 t364, .bool false]) ?_ 2 _ rfl; (with_reducible repeat first | apply qA | apply qC | apply qB); refine blk_put (cs := #[.int .i64 t363, .int .u32 0, .bool false]) ?_ 1 _ rfl; (with_reducible repeat first | apply qA | apply qC | apply qB); refine blk_put (cs := #[.int .i64 0, .int .u32 0, .bool false]) ?_ 0 _ rfl; (with_reducible repeat first | apply qA | apply qC | apply qB); exact BK367.out) hb); have n5_ := qH (below_step (by repeat (first | (with_reducible first | exact HB.out | apply qL | apply qJ | apply qK | refine qI ?_ GE345.out | refine qI ?_ GE352.out | refine qI ?_ GE357.out | refine qI ?_ GE362.out | refine qI ?_ GE367.out) | exact HB.out)) hb); clear BK345; clear BK352; clear BK357; clear BK362; clear BK367; clear HB; have BK345 := n0_; have BK352 := n1_; have BK357 := n2_; have BK362 := n3_; have BK367 := n4_; have HB := n5_; clear n0_ n1_ n2_ n3_ n4_ n5_; (try clear hb); (try clear hb2); (try clear hk); (try clear hi)) | ((with_reducible refine gate_dst (N := 17) rfl ?_); (try (refine gate_guard (by rfl) ?_; dsimp only)); refine box_event ?hg (N := 17) ?hd (cs := #[.int .i64 0, .int .u32 0, .bool false]) (t := 30) ?hr ?_; (case hd => rfl); (case hg => rfl); (case hr => first | (go_simp; done) | (go_simp; rfl)); intro gb372 hg w53 hbox hb; have n0_ := qH (qD (g := gb345) (by (with_reducible repeat first | apply qA | apply qC | apply qB); exact BK345.out) hb); have n1_ := qH (qD (g := gb352) (by (with_reducible repeat first | apply qA | apply qC | apply qB); exact BK352.out) hb); have n2_ := qH (qD (g := gb357) (by (with_reducible repeat first | apply qA | apply qC | apply qB); exact BK357.out) hb); have n3_ := qH (qD (g := gb362) (by (with_reducible repeat first | apply qA | apply qC | apply qB); exact BK362.out) hb); have n4_ := qH (qD (g := gb367) (by (with_reducible repeat first | apply qA | apply qC | apply qB); exact BK367.out) hb); have n5_ := qH (below_step (by repeat (first | (with_reducible first | exact HB.out | apply qL | apply qJ | apply qK | refine qI ?_ GE345.out | refine qI ?_ GE352.out | refine qI ?_ GE357.out | refine qI ?_ GE362.out | refine qI ?_ GE367.out) | exact HB.out)) hb); have n6_ := qH (hbox); have n7_ := qH ((by rw [hg]; exact (below_size (by repeat (first | (with_reducible first | exact HB.out | apply qL | apply qJ | apply qK | refine qI ?_ GE345.out | refine qI ?_ GE352.out | refine qI ?_ GE357.out | refine qI ?_ GE362.out | refine qI ?_ GE367.out) | exact HB.out))) : w.heap.size ≤ gb372)); have n8_ := n7_; have n9_ := qH ((by rw [hg]; exact qN (blk_lt (g := gb345) (by (with_reducible repeat first | apply qA | apply qC | apply qB); exact BK345.out)) : gb345 ≠ gb372)); have n10_ := qH ((by rw [hg]; exact Nat.ne_of_gt (blk_lt (g := gb345) (by (with_reducible repeat first | apply qA | apply qC | apply qB); exact BK345.out)) : gb372 ≠ gb345)); have n11_ := qH ((by rw [hg]; exact qN (blk_lt (g := gb352) (by (with_reducible repeat first | apply qA | apply qC | apply qB); exact BK352.out)) : gb352 ≠ gb372)); have n12_ := qH ((by rw [hg]; exact Nat.ne_of_gt (blk_lt (g := gb352) (by (with_reducible repeat first | apply qA | apply qC | apply qB); exact BK352.out)) : gb372 ≠ gb352)); have n13_ := qH ((by rw [hg]; exact qN (blk_lt (g := gb357) (by (with_reducible repeat first | apply qA | apply qC | apply qB); exact BK357.out)) : gb357 ≠ gb372)); have n14_ := qH ((by rw [hg]; exact Nat.ne_of_gt (blk_lt (g := gb357) (by (with_reducible repeat first | apply qA | apply qC | apply qB); exact BK357.out)) : gb372 ≠ gb357)); have n15_ := qH ((by rw [hg]; exact qN (blk_lt (g := gb362) (by (with_reducible repeat first | apply qA | apply qC | apply qB); exact BK362.out)) : gb362 ≠ gb372)); have n16_ := qH ((by rw [hg]; exact Nat.ne_of_gt (blk_lt (g := gb362) (by (with_reducible repeat first | apply qA | apply qC | apply qB); exact BK362.out)) : gb372 ≠ gb362)); have n17_ := qH ((by rw [hg]; exact qN (blk_lt (g := gb367) (by (with_reducible repeat first | apply qA | apply qC | apply qB); exact BK367.out)) : gb367 ≠ gb372)); have n18_ := qH ((by rw [hg]; exact Nat.ne_of_gt (blk_lt (g := gb367) (by (with_reducible repeat first | apply qA | apply qC | apply qB); exact BK367.out)) : gb372 ≠ gb367)); clear BK345; clear BK352; clear BK357; clear BK362; clear BK367; clear HB; have BK345 := n0_; have BK352 := n1_; have BK357 := n2_; have BK362 := n3_; have BK367 := n4_; have HB := n5_; have BK372 := n6_; have GW372 := n7_; have GE372 := n8_; have NB345_372 := n9_; have NB372_345 := n10_; have NB352_372 := n11_; have NB372_352 := n12_; have NB357_372 := n13_; have NB372_357 := n14_; have NB362_372 := n15_; have NB372_362 := n16_; have NB367_372 := n17_; have NB372_367 := n18_; clear n0_ n1_ n2_ n3_ n4_ n5_ n6_ n7_ n8_ n9_ n10_ n11_ n12_ n13_ n14_ n15_ n16_ n17_ n18_; clear hb hbox hg; have hnb54 := NB372_345.out; have hnc54 := NB345_372.out; have hnb55 := NB372_352.out; have hnc55 := NB352_372.out; have hnb56 := NB372_357.out; have hnc56 := NB357_372.out; have hnb57 := NB372_362.out; have hnc57 := NB362_372.out; have hnb58 := NB372_367.out; have hnc58 := NB367_372.out; obtain ⟨hcz59_0, hcz59_1, hcz59_2⟩ := qc3 BK372.out; obtain ⟨hfz59_0, hfz59_1, hfz59_2⟩ := qf3 BK372.out; obtain ⟨hcz60_0, hcz60_1, hcz60_2⟩ := qc3 BK345.out; obtain ⟨hfz60_0, hfz60_1, hfz60_2⟩ := qf3 BK345.out) | ((with_reducible refine gate_callee (f := 24) rfl ?_); refine goesL_ (some 64) rfl rfl Try.func24 (by kernel_rfl) rfl #[.agg #[.string a0_0, .int .i64 a0_1, .slice A0_2 l0_2.length c0_2], .int .u32 a2] rfl (by (try simp only [List.map_toArray, List.map_cons, List.map_nil]); first | done | rfl | (simp only [List.length_drop, List.length_take]; rfl)) ?_; (with_reducible refine (codicilref18_Has.calls kj4 a0_0 a0_1 _ _ l0_2 a2 t373 t374 t375 t376 _ ?side1 ?side2 A21.out).mono ?_); (case side1 => exact Kd.C_below HR0_2.out (by repeat (first | (with_reducible first | exact HB.out | apply qL | apply qJ | apply qK | refine qI ?_ GE345.out | refine qI ?_ GE352.out | refine qI ?_ GE357.out | refine qI ?_ GE362.out | refine qI ?_ GE367.out | refine qI ?_ GE372.out) | exact HB.out))); (case side2 => exact HC0_2.out); rintro e w61 ⟨rfl, hb⟩; refine ⟨_, rfl, ?_⟩; have n0_ := qH (qD (g := gb345) (o := .cells #[.string a0_0, .int .i64 a0_1, .slice A0_2 l0_2.length c0_2] 24 (0, 0)) (by (with_reducible repeat first | apply qA | apply qC | apply qB); refine qG ?_ NB345_372.out _; (with_reducible repeat first | apply qA | apply qC | apply qB); refine qG ?_ NB345_372.out _; (with_reducible repeat first | apply qA | apply qC | apply qB); refine qG ?_ NB345_372.out _; (with_reducible repeat first | apply qA | apply qC | apply qB); exact BK345.out) hb); have n1_ := qH (qD (g := gb352) (o := .cells #[.int .i64 t348, .int .u32 t349, .bool t350] 30 (0, 0)) (by (with_reducible repeat first | apply qA | apply qC | apply qB); refine qG ?_ NB352_372.out _; (with_reducible repeat first | apply qA | apply qC | apply qB); refine qG ?_ NB352_372.out _; (with_reducible repeat first | apply qA | apply qC | apply qB); refine qG ?_ NB352_372.out _; (with_reducible repeat first | apply qA | apply qC | apply qB); exact BK352.out) hb); have n2_ := qH (qD (g := gb357) (o := .cells #[.int .i64 t353, .int .u32 t354, .bool t355] 30 (0, 0)) (by (with_reducible repeat first | apply qA | apply qC | apply qB); refine qG ?_ NB357_372.out _; (with_reducible repeat first | apply qA | apply qC | apply qB); refine qG ?_ NB357_372.out _; (with_reducible repeat first | apply qA | apply qC | apply qB); refine qG ?_ NB357_372.out _; (with_reducible repeat first | apply qA | apply qC | apply qB); exact BK357.out) hb); have n3_ := qH (qD (g := gb362) (o := .cells #[.int .i64 t358, .int .u32 t359, .bool t360] 30 (0, 0)) (by (with_reducible repeat first | apply qA | apply qC | apply qB); refine qG ?_ NB362_372.out _; (with_reducible repeat first | apply qA | apply qC | apply qB); refine qG ?_ NB362_372.out _; (with_reducible repeat first | apply qA | apply qC | apply qB); refine qG ?_ NB362_372.out _; (with_reducible repeat first | apply qA | apply qC | apply qB); exact BK362.out) hb); have n4_ := qH (qD (g := gb367) (o := .cells #[.int .i64 t363, .int .u32 t364, .bool t365] 30 (0, 0)) (by (with_reducible repeat first | apply qA | apply qC | apply qB); refine qG ?_ NB367_372.out _; (with_reducible repeat first | apply qA | apply qC | apply qB); refine qG ?_ NB367_372.out _; (with_reducible repeat first | apply qA | apply qC | apply qB); refine qG ?_ NB367_372.out _; (with_reducible repeat first | apply qA | apply qC | apply qB); exact BK367.out) hb); have n5_ := qH (qD (g := gb372) (o := .cells #[.int .i64 t368, .int .u32 t369, .bool t370] 30 (0, 0)) (by (with_reducible repeat first | apply qA | apply qC | apply qB); refine blk_put (cs := #[.int .i64 t368, .int .u32 t369, .bool false]) ?_ 2 _ rfl; (with_reducible repeat first | apply qA | apply qC | apply qB); refine blk_put (cs := #[.int .i64 t368, .int .u32 0, .bool false]) ?_ 1 _ rfl; (with_reducible repeat first | apply qA | apply qC | apply qB); refine blk_put (cs := #[.int .i64 0, .int .u32 0, .bool false]) ?_ 0 _ rfl; (with_reducible repeat first | apply qA | apply qC | apply qB); exact BK372.out) hb); have n6_ := qH (below_step (by repeat (first | (with_reducible first | exact HB.out | apply qL | apply qJ | apply qK | refine qI ?_ GE345.out | refine qI ?_ GE352.out | refine qI ?_ GE357.out | refine qI ?_ GE362.out | refine qI ?_ GE367.out | refine qI ?_ GE372.out) | exact HB.out)) hb); clear BK345; clear BK352; clear BK357; clear BK362; clear BK367; clear BK372; clear HB; have BK345 := n0_; have BK352 := n1_; have BK357 := n2_; have BK362 := n3_; have BK367 := n4_; have BK372 := n5_; have HB := n6_; clear n0_ n1_ n2_ n3_ n4_ n5_ n6_; (try clear hb); (try clear hb2); (try clear hk); (try clear hi)) | ((with_reducible refine gate_dst (N := 19) rfl ?_); (try (refine gate_guard (by rfl) ?_; dsimp only)); refine box_event ?hg (N := 19) ?hd (cs := #[.int .i64 0, .int .u32 0, .bool false]) (t := 30) ?hr ?_; (case hd => rfl); (case hg => rfl); (case hr => first | (go_simp; done) | (go_simp; rfl)); intro gb377 hg w62 hbox hb; have n0_ := qH (qD (g := gb345) (by (with_reducible repeat first | apply qA | apply qC | apply qB); exact BK345.out) hb); have n1_ := qH (qD (g := gb352) (by (with_reducible repeat first | apply qA | apply qC | apply qB); exact BK352.out) hb); have n2_ := qH (qD (g := gb357) (by (with_reducible repeat first | apply qA | apply qC | apply qB); exact BK357.out) hb); have n3_ := qH (qD (g := gb362) (by (with_reducible repeat first | apply qA | apply qC | apply qB); exact BK362.out) hb); have n4_ := qH (qD (g := gb367) (by (with_reducible repeat first | apply qA | apply qC | apply qB); exact BK367.out) hb); have n5_ := qH (qD (g := gb372) (by (with_reducible repeat first | apply qA | apply qC | apply qB); exact BK372.out) hb); have n6_ := qH (below_step (by repeat (first | (with_reducible first | exact HB.out | apply qL | apply qJ | apply qK | refine qI ?_ GE345.out | refine qI ?_ GE352.out | refine qI ?_ GE357.out | refine qI ?_ GE362.out | refine qI ?_ GE367.out | refine qI ?_ GE372.out) | exact HB.out)) hb); have n7_ := qH (hbox); have n8_ := qH ((by rw [hg]; exact (below_size (by repeat (first | (with_reducible first | exact HB.out | apply qL | apply qJ | apply qK | refine qI ?_ GE345.out | refine qI ?_ GE352.out | refine qI ?_ GE357.out | refine qI ?_ GE362.out | refine qI ?_ GE367.out | refine qI ?_ GE372.out) | exact HB.out))) : w.heap.size ≤ gb377)); have n9_ := n8_; have n10_ := qH ((by rw [hg]; exact qN (blk_lt (g := gb345) (by (with_reducible repeat first | apply qA | apply qC | apply qB); exact BK345.out)) : gb345 ≠ gb377)); have n11_ := qH ((by rw [hg]; exact Nat.ne_of_gt (blk_lt (g := gb345) (by (with_reducible repeat first | apply qA | apply qC | apply qB); exact BK345.out)) : gb377 ≠ gb345)); have n12_ := qH ((by rw [hg]; exact qN (blk_lt (g := gb352) (by (with_reducible repeat first | apply qA | apply qC | apply qB); exact BK352.out)) : gb352 ≠ gb377)); have n13_ := qH ((by rw [hg]; exact Nat.ne_of_gt (blk_lt (g := gb352) (by (with_reducible repeat first | apply qA | apply qC | apply qB); exact BK352.out)) : gb377 ≠ gb352)); have n14_ := qH ((by rw [hg]; exact qN (blk_lt (g := gb357) (by (with_reducible repeat first | apply qA | apply qC | apply qB); exact BK357.out)) : gb357 ≠ gb377)); have n15_ := qH ((by rw [hg]; exact Nat.ne_of_gt (blk_lt (g := gb357) (by (with_reducible repeat first | apply qA | apply qC | apply qB); exact BK357.out)) : gb377 ≠ gb357)); have n16_ := qH ((by rw [hg]; exact qN (blk_lt (g := gb362) (by (with_reducible repeat first | apply qA | apply qC | apply qB); exact BK362.out)) : gb362 ≠ gb377)); have n17_ := qH ((by rw [hg]; exact Nat.ne_of_gt (blk_lt (g := gb362) (by (with_reducible repeat first | apply qA | apply qC | apply qB); exact BK362.out)) : gb377 ≠ gb362)); have n18_ := qH ((by rw [hg]; exact qN (blk_lt (g := gb367) (by (with_reducible repeat first | apply qA | apply qC | apply qB); exact BK367.out)) : gb367 ≠ gb377)); have n19_ := qH ((by rw [hg]; exact Nat.ne_of_gt (blk_lt (g := gb367) (by (with_reducible repeat first | apply qA | apply qC | apply qB); exact BK367.out)) : gb377 ≠ gb367)); have n20_ := qH ((by rw [hg]; exact qN (blk_lt (g := gb372) (by (with_reducible repeat first | apply qA | apply qC | apply qB); exact BK372.out)) : gb372 ≠ gb377)); have n21_ := qH ((by rw [hg]; exact Nat.ne_of_gt (blk_lt (g := gb372) (by (with_reducible repeat first | apply qA | apply qC | apply qB); exact BK372.out)) : gb377 ≠ gb372)); clear BK345; clear BK352; clear BK357; clear BK362; clear BK367; clear BK372; clear HB; have BK345 := n0_; have BK352 := n1_; have BK357 := n2_; have BK362 := n3_; have BK367 := n4_; have BK372 := n5_; have HB := n6_; have BK377 := n7_; have GW377 := n8_; have GE377 := n9_; have NB345_377 := n10_; have NB377_345 := n11_; have NB352_377 := n12_; have NB377_352 := n13_; have NB357_377 := n14_; have NB377_357 := n15_; have NB362_377 := n16_; have NB377_362 := n17_; have NB367_377 := n18_; have NB377_367 := n19_; have NB372_377 := n20_; have NB377_372 := n21_; clear n0_ n1_ n2_ n3_ n4_ n5_ n6_ n7_ n8_ n9_ n10_ n11_ n12_ n13_ n14_ n15_ n16_ n17_ n18_ n19_ n20_ n21_; clear hb hbox hg; have hnb63 := NB377_345.out; have hnc63 := NB345_377.out; have hnb64 := NB377_352.out; have hnc64 := NB352_377.out; have hnb65 := NB377_357.out; have hnc65 := NB357_377.out; have hnb66 := NB377_362.out; have hnc66 := NB362_377.out; have hnb67 := NB377_367.out; have hnc67 := NB367_377.out; have hnb68 := NB377_372.out; have hnc68 := NB372_377.out; obtain ⟨hcz69_0, hcz69_1, hcz69_2⟩ := qc3 BK377.out; obtain ⟨hfz69_0, hfz69_1, hfz69_2⟩ := qf3 BK377.out) | ((with_reducible refine gate_callee (f := 25) rfl ?_); refine goesL_ (some 69) rfl rfl Try.func25 (by kernel_rfl) rfl #[.string a3] rfl (by (try simp only [List.map_toArray, List.map_cons, List.map_nil]); first | done | rfl | (simp only [List.length_drop, List.length_take]; rfl)) ?_; (with_reducible refine (subject_New.calls a3 t378 t379 t380 t383 _ A22.out).mono ?_); rintro e w70 ⟨v381, rfl, ho0, hb⟩; refine ⟨_, rfl, ?_⟩; have n0_ := qH (Kd.R_lower (Kd.R_newB (Kd.R_newB (Kd.R_newB (Kd.R_newB (Kd.R_newB (Kd.R_newB ho0 (g := gb352) (o := .cells #[.int .i64 t348, .int .u32 t349, .bool t350] 30 (0, 0)) (by (with_reducible repeat first | apply qA | apply qC | apply qB); refine qG ?_ NB352_377.out _; (with_reducible repeat first | apply qA | apply qC | apply qB); refine qG ?_ NB352_377.out _; (with_reducible repeat first | apply qA | apply qC | apply qB); refine qG ?_ NB352_377.out _; (with_reducible repeat first | apply qA | apply qC | apply qB); exact BK352.out)) (g := gb357) (o := .cells #[.int .i64 t353, .int .u32 t354, .bool t355] 30 (0, 0)) (by (with_reducible repeat first | apply qA | apply qC | apply qB); refine qG ?_ NB357_377.out _; (with_reducible repeat first | apply qA | apply qC | apply qB); refine qG ?_ NB357_377.out _; (with_reducible repeat first | apply qA | apply qC | apply qB); refine qG ?_ NB357_377.out _; (with_reducible repeat first | apply qA | apply qC | apply qB); exact BK357.out)) (g := gb362) (o := .cells #[.int .i64 t358, .int .u32 t359, .bool t360] 30 (0, 0)) (by (with_reducible repeat first | apply qA | apply qC | apply qB); refine qG ?_ NB362_377.out _; (with_reducible repeat first | apply qA | apply qC | apply qB); refine qG ?_ NB362_377.out _; (with_reducible repeat first | apply qA | apply qC | apply qB); refine qG ?_ NB362_377.out _; (with_reducible repeat first | apply qA | apply qC | apply qB); exact BK362.out)) (g := gb367) (o := .cells #[.int .i64 t363, .int .u32 t364, .bool t365] 30 (0, 0)) (by (with_reducible repeat first | apply qA | apply qC | apply qB); refine qG ?_ NB367_377.out _; (with_reducible repeat first | apply qA | apply qC | apply qB); refine qG ?_ NB367_377.out _; (with_reducible repeat first | apply qA | apply qC | apply qB); refine qG ?_ NB367_377.out _; (with_reducible repeat first | apply qA | apply qC | apply qB); exact BK367.out)) (g := gb372) (o := .cells #[.int .i64 t368, .int .u32 t369, .bool t370] 30 (0, 0)) (by (with_reducible repeat first | apply qA | apply qC | apply qB); refine qG ?_ NB372_377.out _; (with_reducible repeat first | apply qA | apply qC | apply qB); refine qG ?_ NB372_377.out _; (with_reducible repeat first | apply qA | apply qC | apply qB); refine qG ?_ NB372_377.out _; (with_reducible repeat first | apply qA | apply qC | apply qB); exact BK372.out)) (g := gb377) (o := .cells #[.int .i64 t373, .int .u32 t374, .bool t375] 30 (0, 0)) (by (with_reducible repeat first | apply qA | apply qC | apply qB); refine blk_put (cs := #[.int .i64 t373, .int .u32 t374, .bool false]) ?_ 2 _ rfl; (with_reducible repeat first | apply qA | apply qC | apply qB); refine blk_put (cs := #[.int .i64 t373, .int .u32 0, .bool false]) ?_ 1 _ rfl; (with_reducible repeat first | apply qA | apply qC | apply qB); refine blk_put (cs := #[.int .i64 0, .int .u32 0, .bool false]) ?_ 0 _ rfl; (with_reducible repeat first | apply qA | apply qC | apply qB); exact BK377.out)) (below_size (by repeat (first | (with_reducible first | exact HB.out | apply qL | apply qJ | apply qK | refine qI ?_ GE345.out | refine qI ?_ GE352.out | refine qI ?_ GE357.out | refine qI ?_ GE362.out | refine qI ?_ GE367.out | refine qI ?_ GE372.out | refine qI ?_ GE377.out) | exact HB.out)))); have n1_ := qH (qD (g := gb345) (o := .cells #[.string a0_0, .int .i64 a0_1, .slice A0_2 l0_2.length c0_2] 24 (0, 0)) (by (with_reducible repeat first | apply qA | apply qC | apply qB); refine qG ?_ NB345_377.out _; (with_reducible repeat first | apply qA | apply qC | apply qB); refine qG ?_ NB345_377.out _; (with_reducible repeat first | apply qA | apply qC | apply qB); refine qG ?_ NB345_377.out _; (with_reducible repeat first | apply qA | apply qC | apply qB); exact BK345.out) hb); have n2_ := qH (qD (g := gb352) (o := .cells #[.int .i64 t348, .int .u32 t349, .bool t350] 30 (0, 0)) (by (with_reducible repeat first | apply qA | apply qC | apply qB); refine qG ?_ NB352_377.out _; (with_reducible repeat first | apply qA | apply qC | apply qB); refine qG ?_ NB352_377.out _; (with_reducible repeat first | apply qA | apply qC | apply qB); refine qG ?_ NB352_377.out _; (with_reducible repeat first | apply qA | apply qC | apply qB); exact BK352.out) hb); have n3_ := qH (qD (g := gb357) (o := .cells #[.int .i64 t353, .int .u32 t354, .bool t355] 30 (0, 0)) (by (with_reducible repeat first | apply qA | apply qC | apply qB); refine qG ?_ NB357_377.out _; (with_reducible repeat first | apply qA | apply qC | apply qB); refine qG ?_ NB357_377.out _; (with_reducible repeat first | apply qA | apply qC | apply qB); refine qG ?_ NB357_377.out _; (with_reducible repeat first | apply qA | apply qC | apply qB); exact BK357.out) hb); have n4_ := qH (qD (g := gb362) (o := .cells #[.int .i64 t358, .int .u32 t359, .bool t360] 30 (0, 0)) (by (with_reducible repeat first | apply qA | apply qC | apply qB); refine qG ?_ NB362_377.out _; (with_reducible repeat first | apply qA | apply qC | apply qB); refine qG ?_ NB362_377.out _; (with_reducible repeat first | apply qA | apply qC | apply qB); refine qG ?_ NB362_377.out _; (with_reducible repeat first | apply qA | apply qC | apply qB); exact BK362.out) hb); have n5_ := qH (qD (g := gb367) (o := .cells #[.int .i64 t363, .int .u32 t364, .bool t365] 30 (0, 0)) (by (with_reducible repeat first | apply qA | apply qC | apply qB); refine qG ?_ NB367_377.out _; (with_reducible repeat first | apply qA | apply qC | apply qB); refine qG ?_ NB367_377.out _; (with_reducible repeat first | apply qA | apply qC | apply qB); refine qG ?_ NB367_377.out _; (with_reducible repeat first | apply qA | apply qC | apply qB); exact BK367.out) hb); have n6_ := qH (qD (g := gb372) (o := .cells #[.int .i64 t368, .int .u32 t369, .bool t370] 30 (0, 0)) (by (with_reducible repeat first | apply qA | apply qC | apply qB); refine qG ?_ NB372_377.out _; (with_reducible repeat first | apply qA | apply qC | apply qB); refine qG ?_ NB372_377.out _; (with_reducible repeat first | apply qA | apply qC | apply qB); refine qG ?_ NB372_377.out _; (with_reducible repeat first | apply qA | apply qC | apply qB); exact BK372.out) hb); have n7_ := qH (qD (g := gb377) (o := .cells #[.int .i64 t373, .int .u32 t374, .bool t375] 30 (0, 0)) (by (with_reducible repeat first | apply qA | apply qC | apply qB); refine blk_put (cs := #[.int .i64 t373, .int .u32 t374, .bool false]) ?_ 2 _ rfl; (with_reducible repeat first | apply qA | apply qC | apply qB); refine blk_put (cs := #[.int .i64 t373, .int .u32 0, .bool false]) ?_ 1 _ rfl; (with_reducible repeat first | apply qA | apply qC | apply qB); refine blk_put (cs := #[.int .i64 0, .int .u32 0, .bool false]) ?_ 0 _ rfl; (with_reducible repeat first | apply qA | apply qC | apply qB); exact BK377.out) hb); have n8_ := qH (below_step (by repeat (first | (with_reducible first | exact HB.out | apply qL | apply qJ | apply qK | refine qI ?_ GE345.out | refine qI ?_ GE352.out | refine qI ?_ GE357.out | refine qI ?_ GE362.out | refine qI ?_ GE367.out | refine qI ?_ GE372.out | refine qI ?_ GE377.out) | exact HB.out)) hb); clear BK345; clear BK352; clear BK357; clear BK362; clear BK367; clear BK372; clear BK377; clear HB; have HO382 := n0_; have BK345 := n1_; have BK352 := n2_; have BK357 := n3_; have BK362 := n4_; have BK367 := n5_; have BK372 := n6_; have BK377 := n7_; have HB := n8_; clear n0_ n1_ n2_ n3_ n4_ n5_ n6_ n7_ n8_; (try clear hb); (try clear hb2); (try clear hk); (try clear hi); (try clear ho0)) | ((with_reducible refine gate_dst (N := 21) rfl ?_); (try (refine gate_guard (by rfl) ?_; dsimp only)); refine box_event ?hg (N := 21) ?hd (cs := #[.string (⟨#[]⟩ : ByteArray), .int .i64 0, .slice none 0 0]) (t := 24) ?hr ?_; (case hd => rfl); (case hg => rfl); (case hr => first | (go_simp; done) | (go_simp; rfl)); intro gb384 hg w71 hbox hb; have n0_ := qH (Kd.R_below (by (with_reducible repeat (first | apply Kd.R_alloc | apply Kd.R_drewN | apply Kd.R_drew)); exact HO382.out) hb); have n1_ := qH (qD (g := gb345) (by (with_reducible repeat first | apply qA | apply qC | apply qB); exact BK345.out) hb); have n2_ := qH (qD (g := gb352) (by (with_reducible repeat first | apply qA | apply qC | apply qB); exact BK352.out) hb); have n3_ := qH (qD (g := gb357) (by (with_reducible repeat first | apply qA | apply qC | apply qB); exact BK357.out) hb); have n4_ := qH (qD (g := gb362) (by (with_reducible repeat first | apply qA | apply qC | apply qB); exact BK362.out) hb); have n5_ := qH (qD (g := gb367) (by (with_reducible repeat first | apply qA | apply qC | apply qB); exact BK367.out) hb); have n6_ := qH (qD (g := gb372) (by (with_reducible repeat first | apply qA | apply qC | apply qB); exact BK372.out) hb); have n7_ := qH (qD (g := gb377) (by (with_reducible repeat first | apply qA | apply qC | apply qB); exact BK377.out) hb); have n8_ := qH (below_step (by repeat (first | (with_reducible first | exact HB.out | apply qL | apply qJ | apply qK | refine qI ?_ GE345.out | refine qI ?_ GE352.out | refine qI ?_ GE357.out | refine qI ?_ GE362.out | refine qI ?_ GE367.out | refine qI ?_ GE372.out | refine qI ?_ GE377.out) | exact HB.out)) hb); have n9_ := qH (hbox); have n10_ := qH ((by rw [hg]; exact (below_size (by repeat (first | (with_reducible first | exact HB.out | apply qL | apply qJ | apply qK | refine qI ?_ GE345.out | refine qI ?_ GE352.out | refine qI ?_ GE357.out | refine qI ?_ GE362.out | refine qI ?_ GE367.out | refine qI ?_ GE372.out | refine qI ?_ GE377.out) | exact HB.out))) : w.heap.size ≤ gb384)); have n11_ := n10_; have n12_ := qH ((by rw [hg]; exact qN (blk_lt (g := gb345) (by (with_reducible repeat first | apply qA | apply qC | apply qB); exact BK345.out)) : gb345 ≠ gb384)); have n13_ := qH ((by rw [hg]; exact Nat.ne_of_gt (blk_lt (g := gb345) (by (with_reducible repeat first | apply qA | apply qC | apply qB); exact BK345.out)) : gb384 ≠ gb345)); have n14_ := qH ((by rw [hg]; exact qN (blk_lt (g := gb352) (by (with_reducible repeat first | apply qA | apply qC | apply qB); exact BK352.out)) : gb352 ≠ gb384)); have n15_ := qH ((by rw [hg]; exact Nat.ne_of_gt (blk_lt (g := gb352) (by (with_reducible repeat first | apply qA | apply qC | apply qB); exact BK352.out)) : gb384 ≠ gb352)); have n16_ := qH ((by rw [hg]; exact qN (blk_lt (g := gb357) (by (with_reducible repeat first | apply qA | apply qC | apply qB); exact BK357.out)) : gb357 ≠ gb384)); have n17_ := qH ((by rw [hg]; exact Nat.ne_of_gt (blk_lt (g := gb357) (by (with_reducible repeat first | apply qA | apply qC | apply qB); exact BK357.out)) : gb384 ≠ gb357)); have n18_ := qH ((by rw [hg]; exact qN (blk_lt (g := gb362) (by (with_reducible repeat first | apply qA | apply qC | apply qB); exact BK362.out)) : gb362 ≠ gb384)); have n19_ := qH ((by rw [hg]; exact Nat.ne_of_gt (blk_lt (g := gb362) (by (with_reducible repeat first | apply qA | apply qC | apply qB); exact BK362.out)) : gb384 ≠ gb362)); have n20_ := qH ((by rw [hg]; exact qN (blk_lt (g := gb367) (by (with_reducible repeat first | apply qA | apply qC | apply qB); exact BK367.out)) : gb367 ≠ gb384)); have n21_ := qH ((by rw [hg]; exact Nat.ne_of_gt (blk_lt (g := gb367) (by (with_reducible repeat first | apply qA | apply qC | apply qB); exact BK367.out)) : gb384 ≠ gb367)); have n22_ := qH ((by rw [hg]; exact qN (blk_lt (g := gb372) (by (with_reducible repeat first | apply qA | apply qC | apply qB); exact BK372.out)) : gb372 ≠ gb384)); have n23_ := qH ((by rw [hg]; exact Nat.ne_of_gt (blk_lt (g := gb372) (by (with_reducible repeat first | apply qA | apply qC | apply qB); exact BK372.out)) : gb384 ≠ gb372)); have n24_ := qH ((by rw [hg]; exact qN (blk_lt (g := gb377) (by (with_reducible repeat first | apply qA | apply qC | apply qB); exact BK377.out)) : gb377 ≠ gb384)); have n25_ := qH ((by rw [hg]; exact Nat.ne_of_gt (blk_lt (g := gb377) (by (with_reducible repeat first | apply qA | apply qC | apply qB); exact BK377.out)) : gb384 ≠ gb377)); clear HO382; clear BK345; clear BK352; clear BK357; clear BK362; clear BK367; clear BK372; clear BK377; clear HB; have HO382 := n0_; have BK345 := n1_; have BK352 := n2_; have BK357 := n3_; have BK362 := n4_; have BK367 := n5_; have BK372 := n6_; have BK377 := n7_; have HB := n8_; have BK384 := n9_; have GW384 := n10_; have GE384 := n11_; have NB345_384 := n12_; have NB384_345 := n13_; have NB352_384 := n14_; have NB384_352 := n15_; have NB357_384 := n16_; have NB384_357 := n17_; have NB362_384 := n18_; have NB384_362 := n19_; have NB367_384 := n20_; have NB384_367 := n21_; have NB372_384 := n22_; have NB384_372 := n23_; have NB377_384 := n24_; have NB384_377 := n25_; clear n0_ n1_ n2_ n3_ n4_ n5_ n6_ n7_ n8_ n9_ n10_ n11_ n12_ n13_ n14_ n15_ n16_ n17_ n18_ n19_ n20_ n21_ n22_ n23_ n24_ n25_; clear hb hbox hg; have hnb72 := NB384_345.out; have hnc72 := NB345_384.out; have hnb73 := NB384_352.out; have hnc73 := NB352_384.out; have hnb74 := NB384_357.out; have hnc74 := NB357_384.out; have hnb75 := NB384_362.out; have hnc75 := NB362_384.out; have hnb76 := NB384_367.out; have hnc76 := NB367_384.out; have hnb77 := NB384_372.out; have hnc77 := NB372_384.out; have hnb78 := NB384_377.out; have hnc78 := NB377_384.out; obtain ⟨hcz79_0, hcz79_1, hcz79_2⟩ := qc3 BK384.out; obtain ⟨hfz79_0, hfz79_1, hfz79_2⟩ := qf3 BK384.out; obtain ⟨Ao80, co80, eo80⟩ := Kd.R_slice HO382.out; subst eo80) | ((with_reducible refine gate_callee (f := 26) rfl ?_); refine goesL_ (some 73) rfl rfl Try.func26 (by kernel_rfl) rfl #[.string a3] rfl (by (try simp only [List.map_toArray, List.map_cons, List.map_nil]); first | done | rfl | (simp only [List.length_drop, List.length_take]; rfl)) ?_; (with_reducible refine (codicilref18_Name.calls kj4 a3 t385 _ A23.out).mono ?_); rintro e w' ⟨rfl, ⟨nd, rfl⟩⟩; refine ⟨_, rfl, ?_⟩) | ((with_reducible refine gate_dst (N := 24) rfl ?_); (try (refine gate_guard (by rfl) ?_; dsimp only)); refine box_event ?hg (N := 24) ?hd (cs := #[.string (⟨#[]⟩ : ByteArray), .int .i64 0, .slice none 0 0]) (t := 24) ?hr ?_; (case hd => rfl); (case hg => rfl); (case hr => first | (go_simp; done) | (go_simp; rfl)); intro gb386 hg w81 hbox hb; have n0_ := qH (Kd.R_below (by (with_reducible repeat (first | apply Kd.R_alloc | apply Kd.R_drewN | apply Kd.R_drew)); exact (Kd.R_mono (Kd.R_far (p := ⟨gb384, 2, none⟩) (Kd.R_far (p := ⟨gb384, 1, none⟩) (Kd.R_far (p := ⟨gb384, 0, none⟩) (Kd.R_types HO382.out BK384.out (by decide)) (fun _ hk => hk.2) (.string t378)) (fun _ hk => hk.2) (.int .i64 t379)) (fun _ hk => hk.2) (.slice Ao80 t380.length co80)) (fun _ h_ => h_.1))) hb); have n1_ := qH (qD (g := gb345) (o := .cells #[.string a0_0, .int .i64 a0_1, .slice A0_2 l0_2.length c0_2] 24 (0, 0)) (by (with_reducible repeat first | apply qA | apply qC | apply qB); refine qG ?_ NB345_384.out _; (with_reducible repeat first | apply qA | apply qC | apply qB); refine qG ?_ NB345_384.out _; (with_reducible repeat first | apply qA | apply qC | apply qB); refine qG ?_ NB345_384.out _; (with_reducible repeat first | apply qA | apply qC | apply qB); exact BK345.out) hb); have n2_ := qH (qD (g := gb352) (o := .cells #[.int .i64 t348, .int .u32 t349, .bool t350] 30 (0, 0)) (by (with_reducible repeat first | apply qA | apply qC | apply qB); refine qG ?_ NB352_384.out _; (with_reducible repeat first | apply qA | apply qC | apply qB); refine qG ?_ NB352_384.out _; (with_reducible repeat first | apply qA | apply qC | apply qB); refine qG ?_ NB352_384.out _; (with_reducible repeat first | apply qA | apply qC | apply qB); exact BK352.out) hb); have n3_ := qH (qD (g := gb357) (o := .cells #[.int .i64 t353, .int .u32 t354, .bool t355] 30 (0, 0)) (by (with_reducible repeat first | apply qA | apply qC | apply qB); refine qG ?_ NB357_384.out _; (with_reducible repeat first | apply qA | apply qC | apply qB); refine qG ?_ NB357_384.out _; (with_reducible repeat first | apply qA | apply qC | apply qB); refine qG ?_ NB357_384.out _; (with_reducible repeat first | apply qA | apply qC | apply qB); exact BK357.out) hb); have n4_ := qH (qD (g := gb362) (o := .cells #[.int .i64 t358, .int .u32 t359, .bool t360] 30 (0, 0)) (by (with_reducible repeat first | apply qA | apply qC | apply qB); refine qG ?_ NB362_384.out _; (with_reducible repeat first | apply qA | apply qC | apply qB); refine qG ?_ NB362_384.out _; (with_reducible repeat first | apply qA | apply qC | apply qB); refine qG ?_ NB362_384.out _; (with_reducible repeat first | apply qA | apply qC | apply qB); exact BK362.out) hb); have n5_ := qH (qD (g := gb367) (o := .cells #[.int .i64 t363, .int .u32 t364, .bool t365] 30 (0, 0)) (by (with_reducible repeat first | apply qA | apply qC | apply qB); refine qG ?_ NB367_384.out _; (with_reducible repeat first | apply qA | apply qC | apply qB); refine qG ?_ NB367_384.out _; (with_reducible repeat first | apply qA | apply qC | apply qB); refine qG ?_ NB367_384.out _; (with_reducible repeat first | apply qA | apply qC | apply qB); exact BK367.out) hb); have n6_ := qH (qD (g := gb372) (o := .cells #[.int .i64 t368, .int .u32 t369, .bool t370] 30 (0, 0)) (by (with_reducible repeat first | apply qA | apply qC | apply qB); refine qG ?_ NB372_384.out _; (with_reducible repeat first | apply qA | apply qC | apply qB); refine qG ?_ NB372_384.out _; (with_reducible repeat first | apply qA | apply qC | apply qB); refine qG ?_ NB372_384.out _; (with_reducible repeat first | apply qA | apply qC | apply qB); exact BK372.out) hb); have n7_ := qH (qD (g := gb377) (o := .cells #[.int .i64 t373, .int .u32 t374, .bool t375] 30 (0, 0)) (by (with_reducible repeat first | apply qA | apply qC | apply qB); refine qG ?_ NB377_384.out _; (with_reducible repeat first | apply qA | apply qC | apply qB); refine qG ?_ NB377_384.out _; (with_reducible repeat first | apply qA | apply qC | apply qB); refine qG ?_ NB377_384.out _; (with_reducible repeat first | apply qA | apply qC | apply qB); exact BK377.out) hb); have n8_ := qH (qD (g := gb384) (o := .cells #[.string t378, .int .i64 t379, .slice Ao80 t380.length co80] 24 (0, 0)) (by (with_reducible repeat first | apply qA | apply qC | apply qB); refine blk_put (cs := #[.string t378, .int .i64 t379, .slice none 0 0]) ?_ 2 _ rfl; (with_reducible repeat first | apply qA | apply qC | apply qB); refine blk_put (cs := #[.string t378, .int .i64 0, .slice none 0 0]) ?_ 1 _ rfl; (with_reducible repeat first | apply qA | apply qC | apply qB); refine blk_put (cs := #[.string (⟨#[]⟩ : ByteArray), .int .i64 0, .slice none 0 0]) ?_ 0 _ rfl; (with_reducible repeat first | apply qA | apply qC | apply qB); exact BK384.out) hb); have n9_ := qH (below_step (by repeat (first | (with_reducible first | exact HB.out | apply qL | apply qJ | apply qK | refine qI ?_ GE345.out | refine qI ?_ GE352.out | refine qI ?_ GE357.out | refine qI ?_ GE362.out | refine qI ?_ GE367.out | refine qI ?_ GE372.out | refine qI ?_ GE377.out | refine qI ?_ GE384.out) | exact HB.out)) hb); have n10_ := qH (hbox); have n11_ := qH ((by rw [hg]; exact (below_size (by repeat (first | (with_reducible first | exact HB.out | apply qL | apply qJ | apply qK | refine qI ?_ GE345.out | refine qI ?_ GE352.out | refine qI ?_ GE357.out | refine qI ?_ GE362.out | refine qI ?_ GE367.out | refine qI ?_ GE372.out | refine qI ?_ GE377.out | refine qI ?_ GE384.out) | exact HB.out))) : w.heap.size ≤ gb386)); have n12_ := n11_; have n13_ := qH ((by rw [hg]; exact qN (blk_lt (g := gb345) (o := .cells #[.string a0_0, .int .i64 a0_1, .slice A0_2 l0_2.length c0_2] 24 (0, 0)) (by (with_reducible repeat first | apply qA | apply qC | apply qB); refine qG ?_ NB345_384.out _; (with_reducible repeat first | apply qA | apply qC | apply qB); refine qG ?_ NB345_384.out _; (with_reducible repeat first | apply qA | apply qC | apply qB); refine qG ?_ NB345_384.out _; (with_reducible repeat first | apply qA | apply qC | apply qB); exact BK345.out)) : gb345 ≠ gb386)); have n14_ := qH ((by rw [hg]; exact Nat.ne_of_gt (blk_lt (g := gb345) (o := .cells #[.string a0_0, .int .i64 a0_1, .slice A0_2 l0_2.length c0_2] 24 (0, 0)) (by (with_reducible repeat first | apply qA | apply qC | apply qB); refine qG ?_ NB345_384.out _; (with_reducible repeat first | apply qA | apply qC | apply qB); refine qG ?_ NB345_384.out _; (with_reducible repeat first | apply qA | apply qC | apply qB); refine qG ?_ NB345_384.out _; (with_reducible repeat first | apply qA | apply qC | apply qB); exact BK345.out)) : gb386 ≠ gb345)); have n15_ := qH ((by rw [hg]; exact qN (blk_lt (g := gb352) (o := .cells #[.int .i64 t348, .int .u32 t349, .bool t350] 30 (0, 0)) (by (with_reducible repeat first | apply qA | apply qC | apply qB); refine qG ?_ NB352_384.out _; (with_reducible repeat first | apply qA | apply qC | apply qB); refine qG ?_ NB352_384.out _; (with_reducible repeat first | apply qA | apply qC | apply qB); refine qG ?_ NB352_384.out _; (with_reducible repeat first | apply qA | apply qC | apply qB); exact BK352.out)) : gb352 ≠ gb386)); have n16_ := qH ((by rw [hg]; exact Nat.ne_of_gt (blk_lt (g := gb352) (o := .cells #[.int .i64 t348, .int .u32 t349, .bool t350] 30 (0, 0)) (by (with_reducible repeat first | apply qA | apply qC | apply qB); refine qG ?_ NB352_384.out _; (with_reducible repeat first | apply qA | apply qC | apply qB); refine qG ?_ NB352_384.out _; (with_reducible repeat first | apply qA | apply qC | apply qB); refine qG ?_ NB352_384.out _; (with_reducible repeat first | apply qA | apply qC | apply qB); exact BK352.out)) : gb386 ≠ gb352)); have n17_ := qH ((by rw [hg]; exact qN (blk_lt (g := gb357) (o := .cells #[.int .i64 t353, .int .u32 t354, .bool t355] 30 (0, 0)) (by (with_reducible repeat first | apply qA | apply qC | apply qB); refine qG ?_ NB357_384.out _; (with_reducible repeat first | apply qA | apply qC | apply qB); refine qG ?_ NB357_384.out _; (with_reducible repeat first | apply qA | apply qC | apply qB); refine qG ?_ NB357_384.out _; (with_reducible repeat first | apply qA | apply qC | apply qB); exact BK357.out)) : gb357 ≠ gb386)); have n18_ := qH ((by rw [hg]; exact Nat.ne_of_gt (blk_lt (g := gb357) (o := .cells #[.int .i64 t353, .int .u32 t354, .bool t355] 30 (0, 0)) (by (with_reducible repeat first | apply qA | apply qC | apply qB); refine qG ?_ NB357_384.out _; (with_reducible repeat first | apply qA | apply qC | apply qB); refine qG ?_ NB357_384.out _; (with_reducible repeat first | apply qA | apply qC | apply qB); refine qG ?_ NB357_384.out _; (with_reducible repeat first | apply qA | apply qC | apply qB); exact BK357.out)) : gb386 ≠ gb357)); have n19_ := qH ((by rw [hg]; exact qN (blk_lt (g := gb362) (o := .cells #[.int .i64 t358, .int .u32 t359, .bool t360] 30 (0, 0)) (by (with_reducible repeat first | apply qA | apply qC | apply qB); refine qG ?_ NB362_384.out _; (with_reducible repeat first | apply qA | apply qC | apply qB); refine qG ?_ NB362_384.out _; (with_reducible repeat first | apply qA | apply qC | apply qB); refine qG ?_ NB362_384.out _; (with_reducible repeat first | apply qA | apply qC | apply qB); exact BK362.out)) : gb362 ≠ gb386)); have n20_ := qH ((by rw [hg]; exact Nat.ne_of_gt (blk_lt (g := gb362) (o := .cells #[.int .i64 t358, .int .u32 t359, .bool t360] 30 (0, 0)) (by (with_reducible repeat first | apply qA | apply qC | apply qB); refine qG ?_ NB362_384.out _; (with_reducible repeat first | apply qA | apply qC | apply qB); refine qG ?_ NB362_384.out _; (with_reducible repeat first | apply qA | apply qC | apply qB); refine qG ?_ NB362_384.out _; (with_reducible repeat first | apply qA | apply qC | apply qB); exact BK362.out)) : gb386 ≠ gb362)); have n21_ := qH ((by rw [hg]; exact qN (blk_lt (g := gb367) (o := .cells #[.int .i64 t363, .int .u32 t364, .bool t365] 30 (0, 0)) (by (with_reducible repeat first | apply qA | apply qC | apply qB); refine qG ?_ NB367_384.out _; (with_reducible repeat first | apply qA | apply qC | apply qB); refine qG ?_ NB367_384.out _; (with_reducible repeat first | apply qA | apply qC | apply qB); refine qG ?_ NB367_384.out _; (with_reducible repeat first | apply qA | apply qC | apply qB); exact BK367.out)) : gb367 ≠ gb386)); have n22_ := qH ((by rw [hg]; exact Nat.ne_of_gt (blk_lt (g := gb367) (o := .cells #[.int .i64 t363, .int .u32 t364, .bool t365] 30 (0, 0)) (by (with_reducible repeat first | apply qA | apply qC | apply qB); refine qG ?_ NB367_384.out _; (with_reducible repeat first | apply qA | apply qC | apply qB); refine qG ?_ NB367_384.out _; (with_reducible repeat first | apply qA | apply qC | apply qB); refine qG ?_ NB367_384.out _; (with_reducible repeat first | apply qA | apply qC | apply qB); exact BK367.out)) : gb386 ≠ gb367)); have n23_ := qH ((by rw [hg]; exact qN (blk_lt (g := gb372) (o := .cells #[.int .i64 t368, .int .u32 t369, .bool t370] 30 (0, 0)) (by (with_reducible repeat first | apply qA | apply qC | apply qB); refine qG ?_ NB372_384.out _; (with_reducible repeat first | apply qA | apply qC | apply qB); refine qG ?_ NB372_384.out _; (with_reducible repeat first | apply qA | apply qC | apply qB); refine qG ?_ NB372_384.out _; (with_reducible repeat first | apply qA | apply qC | apply qB); exact BK372.out)) : gb372 ≠ gb386)); have n24_ := qH ((by rw [hg]; exact Nat.ne_of_gt (blk_lt (g := gb372) (o := .cells #[.int .i64 t368, .int .u32 t369, .bool t370] 30 (0, 0)) (by (with_reducible repeat first | apply qA | apply qC | apply qB); refine qG ?_ NB372_384.out _; (with_reducible repeat first | apply qA | apply qC | apply qB); refine qG ?_ NB372_384.out _; (with_reducible repeat first | apply qA | apply qC | apply qB); refine qG ?_ NB372_384.out _; (with_reducible repeat first | apply qA | apply qC | apply qB); exact BK372.out)) : gb386 ≠ gb372)); have n25_ := qH ((by rw [hg]; exact qN (blk_lt (g := gb377) (o := .cells #[.int .i64 t373, .int .u32 t374, .bool t375] 30 (0, 0)) (by (with_reducible repeat first | apply qA | apply qC | apply qB); refine qG ?_ NB377_384.out _; (with_reducible repeat first | apply qA | apply qC | apply qB); refine qG ?_ NB377_384.out _; (with_reducible repeat first | apply qA | apply qC | apply qB); refine qG ?_ NB377_384.out _; (with_reducible repeat first | apply qA | apply qC | apply qB); exact BK377.out)) : gb377 ≠ gb386)); have n26_ := qH ((by rw [hg]; exact Nat.ne_of_gt (blk_lt (g := gb377) (o := .cells #[.int .i64 t373, .int .u32 t374, .bool t375] 30 (0, 0)) (by (with_reducible repeat first | apply qA | apply qC | apply qB); refine qG ?_ NB377_384.out _; (with_reducible repeat first | apply qA | apply qC | apply qB); refine qG ?_ NB377_384.out _; (with_reducible repeat first | apply qA | apply qC | apply qB); refine qG ?_ NB377_384.out _; (with_reducible repeat first | apply qA | apply qC | apply qB); exact BK377.out)) : gb386 ≠ gb377)); have n27_ := qH ((by rw [hg]; exact qN (blk_lt (g := gb384) (o := .cells #[.string t378, .int .i64 t379, .slice Ao80 t380.length co80] 24 (0, 0)) (by (with_reducible repeat first | apply qA | apply qC | apply qB); refine blk_put (cs := #[.string t378, .int .i64 t379, .slice none 0 0]) ?_ 2 _ rfl; (with_reducible repeat first | apply qA | apply qC | apply qB); refine blk_put (cs := #[.string t378, .int .i64 0, .slice none 0 0]) ?_ 1 _ rfl; (with_reducible repeat first | apply qA | apply qC | apply qB); refine blk_put (cs := #[.string (⟨#[]⟩ : ByteArray), .int .i64 0, .slice none 0 0]) ?_ 0 _ rfl; (with_reducible repeat first | apply qA | apply qC | apply qB); exact BK384.out)) : gb384 ≠ gb386)); have n28_ := qH ((by rw [hg]; exact Nat.ne_of_gt (blk_lt (g := gb384) (o := .cells #[.string t378, .int .i64 t379, .slice Ao80 t380.length co80] 24 (0, 0)) (by (with_reducible repeat first | apply qA | apply qC | apply qB); refine blk_put (cs := #[.string t378, .int .i64 t379, .slice none 0 0]) ?_ 2 _ rfl; (with_reducible repeat first | apply qA | apply qC | apply qB); refine blk_put (cs := #[.string t378, .int .i64 0, .slice none 0 0]) ?_ 1 _ rfl; (with_reducible repeat first | apply qA | apply qC | apply qB); refine blk_put (cs := #[.string (⟨#[]⟩ : ByteArray), .int .i64 0, .slice none 0 0]) ?_ 0 _ rfl; (with_reducible repeat first | apply qA | apply qC | apply qB); exact BK384.out)) : gb386 ≠ gb384)); clear HO382; clear BK345; clear BK352; clear BK357; clear BK362; clear BK367; clear BK372; clear BK377; clear BK384; clear HB; have HO382 := n0_; have BK345 := n1_; have BK352 := n2_; have BK357 := n3_; have BK362 := n4_; have BK367 := n5_; have BK372 := n6_; have BK377 := n7_; have BK384 := n8_; have HB := n9_; have BK386 := n10_; have GW386 := n11_; have GE386 := n12_; have NB345_386 := n13_; have NB386_345 := n14_; have NB352_386 := n15_; have NB386_352 := n16_; have NB357_386 := n17_; have NB386_357 := n18_; have NB362_386 := n19_; have NB386_362 := n20_; have NB367_386 := n21_; have NB386_367 := n22_; have NB372_386 := n23_; have NB386_372 := n24_; have NB377_386 := n25_; have NB386_377 := n26_; have NB384_386 := n27_; have NB386_384 := n28_; clear n0_ n1_ n2_ n3_ n4_ n5_ n6_ n7_ n8_ n9_ n10_ n11_ n12_ n13_ n14_ n15_ n16_ n17_ n18_ n19_ n20_ n21_ n22_ n23_ n24_ n25_ n26_ n27_ n28_; clear hb hbox hg; have hnb82 := NB386_345.out; have hnc82 := NB345_386.out; have hnb83 := NB386_352.out; have hnc83 := NB352_386.out; have hnb84 := NB386_357.out; have hnc84 := NB357_386.out; have hnb85 := NB386_362.out; have hnc85 := NB362_386.out; have hnb86 := NB386_367.out; have hnc86 := NB367_386.out; have hnb87 := NB386_372.out; have hnc87 := NB372_386.out; have hnb88 := NB386_377.out; have hnc88 := NB377_386.out; have hnb89 := NB386_384.out; have hnc89 := NB384_386.out; obtain ⟨hcz90_0, hcz90_1, hcz90_2⟩ := qc3 BK386.out; obtain ⟨hfz90_0, hfz90_1, hfz90_2⟩ := qf3 BK386.out))
    (try simp only [Act.put, List.setIfInBounds_toArray, List.set_cons_zero, List.set_cons_succ])
    go_cut [] (fun wc => ∃ (kq : Nat) (x387000_23 : ByteArray) (x387001_23 : Int), Aside0 (codicillaw18_SubjectTells.j1 kq a3 t351 t356 t361 t366 t371 t376 t383 t385 a0_0 a0_1 l0_2 t348 t349 t350 t353 t354 t355 t358 t359 t360 t363 t364 t365 t368 t369 t370 t373 t374 t375 t378 t379 t380 x387000_23 x387001_23 = some r) ∧ Aside0 (kq ≤ kj4) ∧ Aside0 (Kd.R k30 30 wc w.heap.size (fun k_ => k_ ≠ gb352 ∧ k_ ≠ gb357 ∧ k_ ≠ gb362 ∧ k_ ≠ gb367 ∧ k_ ≠ gb372 ∧ k_ ≠ gb377) (.slice Ao80 t380.length co80) t380) ∧ Aside0 (wc.heap[gb345]? = some (.cells #[.string a0_0, .int .i64 a0_1, (.slice A0_2 l0_2.length c0_2)] 24 (0, 0))) ∧ Aside0 (wc.heap[gb352]? = some (.cells #[.int .i64 t348, .int .u32 t349, .bool t350] 30 (0, 0))) ∧ Aside0 (wc.heap[gb357]? = some (.cells #[.int .i64 t353, .int .u32 t354, .bool t355] 30 (0, 0))) ∧ Aside0 (wc.heap[gb362]? = some (.cells #[.int .i64 t358, .int .u32 t359, .bool t360] 30 (0, 0))) ∧ Aside0 (wc.heap[gb367]? = some (.cells #[.int .i64 t363, .int .u32 t364, .bool t365] 30 (0, 0))) ∧ Aside0 (wc.heap[gb372]? = some (.cells #[.int .i64 t368, .int .u32 t369, .bool t370] 30 (0, 0))) ∧ Aside0 (wc.heap[gb377]? = some (.cells #[.int .i64 t373, .int .u32 t374, .bool t375] 30 (0, 0))) ∧ Aside0 (wc.heap[gb384]? = some (.cells #[.string t378, .int .i64 t379, (.slice Ao80 t380.length co80)] 24 (0, 0))) ∧ Aside0 (wc.heap[gb386]? = some (.cells #[.string x387000_23, .int .i64 x387001_23, (.slice none 0 0)] 24 (0, 0))) ∧ Aside0 (Below w.heap.size w wc))
    case first =>
     have H := HC24.out
     clear HC24
     by_cases c91 : t385 = true
     ·subst c91
      have H1 : (codicillaw18_SubjectTells.j1 kj4 a3 t351 t356 t361 t366 t371 t376 t383 true a0_0 a0_1 l0_2 t348 t349 t350 t353 t354 t355 t358 t359 t360 t363 t364 t365 t368 t369 t370 t373 t374 t375 t378 t379 t380 a3 1) = some r := by rw [if_pos rfl] at H; exact H
      clear H
      have H := H1
      clear H1
      have H' := qH H
      clear H
      have hnb92 := NB386_345.out
      have hnc92 := NB345_386.out
      have hnb93 := NB386_352.out
      have hnc93 := NB352_386.out
      have hnb94 := NB386_357.out
      have hnc94 := NB357_386.out
      have hnb95 := NB386_362.out
      have hnc95 := NB362_386.out
      have hnb96 := NB386_367.out
      have hnc96 := NB367_386.out
      have hnb97 := NB386_372.out
      have hnc97 := NB372_386.out
      have hnb98 := NB386_377.out
      have hnc98 := NB377_386.out
      have hnb99 := NB386_384.out
      have hnc99 := NB384_386.out
      have hcz100_0 : w81.cell? ⟨gb386, 0, none⟩ = some (.string (⟨#[]⟩ : ByteArray)) := (qE BK386.out 0).trans rfl
      have hcz100_1 : w81.cell? ⟨gb386, 1, none⟩ = some (.int .i64 0) := (qE BK386.out 1).trans rfl
      have hcz100_2 : w81.cell? ⟨gb386, 2, none⟩ = some (.slice none 0 0) := (qE BK386.out 2).trans rfl
      have hfz100_0 := qF BK386.out 0
      have hfz100_1 := qF BK386.out 1
      have hfz100_2 := qF BK386.out 2
      go_wp2
      go_meet
      case rel => exact ⟨_, (a3), (1), H', ⟨by have := HJ4.out; first | omega | exact Nat.le_refl _⟩, ⟨by (with_reducible repeat (first | apply Kd.R_alloc | apply Kd.R_drewN | apply Kd.R_drew)); exact Kd.R_mono (Kd.R_far (p := ⟨gb386, 2, none⟩) (Kd.R_far (p := ⟨gb386, 1, none⟩) (Kd.R_far (p := ⟨gb386, 0, none⟩) (Kd.R_far (p := ⟨gb386, 2, none⟩) (Kd.R_far (p := ⟨gb386, 1, none⟩) (Kd.R_far (p := ⟨gb386, 0, none⟩) (Kd.R_types HO382.out BK386.out (by decide)) (fun _ hk => hk.2) (.string (⟨#[]⟩ : ByteArray))) (fun _ hk => hk.2) (.int .i64 0)) (fun _ hk => hk.2) (.slice none 0 0)) (fun _ hk => hk.2) (.string a3)) (fun _ hk => hk.2) (.int .i64 1)) (fun _ hk => hk.2) (.slice none 0 0)) (fun _ hk => ⟨hk.1.1.1.1.1.1.2, ⟨hk.1.1.1.1.1.2, ⟨hk.1.1.1.1.2, ⟨hk.1.1.1.2, ⟨hk.1.1.2, hk.1.2⟩⟩⟩⟩⟩)⟩, ⟨by (with_reducible repeat first | apply qA | apply qC | apply qB); refine qG ?_ NB345_386.out _; (with_reducible repeat first | apply qA | apply qC | apply qB); refine qG ?_ NB345_386.out _; (with_reducible repeat first | apply qA | apply qC | apply qB); refine qG ?_ NB345_386.out _; (with_reducible repeat first | apply qA | apply qC | apply qB); refine qG ?_ NB345_386.out _; (with_reducible repeat first | apply qA | apply qC | apply qB); refine qG ?_ NB345_386.out _; (with_reducible repeat first | apply qA | apply qC | apply qB); refine qG ?_ NB345_386.out _; (with_reducible repeat first | apply qA | apply qC | apply qB); exact BK345.out⟩, ⟨by (with_reducible repeat first | apply qA | apply qC | apply qB); refine qG ?_ NB352_386.out _; (with_reducible repeat first | apply qA | apply qC | apply qB); refine qG ?_ NB352_386.out _; (with_reducible repeat first | apply qA | apply qC | apply qB); refine qG ?_ NB352_386.out _; (with_reducible repeat first | apply qA | apply qC | apply qB); refine qG ?_ NB352_386.out _; (with_reducible repeat first | apply qA | apply qC | apply qB); refine qG ?_ NB352_386.out _; (with_reducible repeat first | apply qA | apply qC | apply qB); refine qG ?_ NB352_386.out _; (with_reducible repeat first | apply qA | apply qC | apply qB); exact BK352.out⟩, ⟨by (with_reducible repeat first | apply qA | apply qC | apply qB); refine qG ?_ NB357_386.out _; (with_reducible repeat first | apply qA | apply qC | apply qB); refine qG ?_ NB357_386.out _; (with_reducible repeat first | apply qA | apply qC | apply qB); refine qG ?_ NB357_386.out _; (with_reducible repeat first | apply qA | apply qC | apply qB); refine qG ?_ NB357_386.out _; (with_reducible repeat first | apply qA | apply qC | apply qB); refine qG ?_ NB357_386.out _; (with_reducible repeat first | apply qA | apply qC | apply qB); refine qG ?_ NB357_386.out _; (with_reducible repeat first | apply qA | apply qC | apply qB); exact BK357.out⟩, ⟨by (with_reducible repeat first | apply qA | apply qC | apply qB); refine qG ?_ NB362_386.out _; (with_reducible repeat first | apply qA | apply qC | apply qB); refine qG ?_ NB362_386.out _; (with_reducible repeat first | apply qA | apply qC | apply qB); refine qG ?_ NB362_386.out _; (with_reducible repeat first | apply qA | apply qC | apply qB); refine qG ?_ NB362_386.out _; (with_reducible repeat first | apply qA | apply qC | apply qB); refine qG ?_ NB362_386.out _; (with_reducible repeat first | apply qA | apply qC | apply qB); refine qG ?_ NB362_386.out _; (with_reducible repeat first | apply qA | apply qC | apply qB); exact BK362.out⟩, ⟨by (with_reducible repeat first | apply qA | apply qC | apply qB); refine qG ?_ NB367_386.out _; (with_reducible repeat first | apply qA | apply qC | apply qB); refine qG ?_ NB367_386.out _; (with_reducible repeat first | apply qA | apply qC | apply qB); refine qG ?_ NB367_386.out _; (with_reducible repeat first | apply qA | apply qC | apply qB); refine qG ?_ NB367_386.out _; (with_reducible repeat first | apply qA | apply qC | apply qB); refine qG ?_ NB367_386.out _; (with_reducible repeat first | apply qA | apply qC | apply qB); refine qG ?_ NB367_386.out _; (with_reducible repeat first | apply qA | apply qC | apply qB); exact BK367.out⟩, ⟨by (with_reducible repeat first | apply qA | apply qC | apply qB); refine qG ?_ NB372_386.out _; (with_reducible repeat first | apply qA | apply qC | apply qB); refine qG ?_ NB372_386.out _; (with_reducible repeat first | apply qA | apply qC | apply qB); refine qG ?_ NB372_386.out _; (with_reducible repeat first | apply qA | apply qC | apply qB); refine qG ?_ NB372_386.out _; (with_reducible repeat first | apply qA | apply qC | apply qB); refine qG ?_ NB372_386.out _; (with_reducible repeat first | apply qA | apply qC | apply qB); refine qG ?_ NB372_386.out _; (with_reducible repeat first | apply qA | apply qC | apply qB); exact BK372.out⟩, ⟨by (with_reducible repeat first | apply qA | apply qC | apply qB); refine qG ?_ NB377_386.out _; (with_reducible repeat first | apply qA | apply qC | apply qB); refine qG ?_ NB377_386.out _; (with_reducible repeat first | apply qA | apply qC | apply qB); refine qG ?_ NB377_386.out _; (with_reducible repeat first | apply qA | apply qC | apply qB); refine qG ?_ NB377_386.out _; (with_reducible repeat first | apply qA | apply qC | apply qB); refine qG ?_ NB377_386.out _; (with_reducible repeat first | apply qA | apply qC | apply qB); refine qG ?_ NB377_386.out _; (with_reducible repeat first | apply qA | apply qC | apply qB); exact BK377.out⟩, ⟨by (with_reducible repeat first | apply qA | apply qC | apply qB); refine qG ?_ NB384_386.out _; (with_reducible repeat first | apply qA | apply qC | apply qB); refine qG ?_ NB384_386.out _; (with_reducible repeat first | apply qA | apply qC | apply qB); refine qG ?_ NB384_386.out _; (with_reducible repeat first | apply qA | apply qC | apply qB); refine qG ?_ NB384_386.out _; (with_reducible repeat first | apply qA | apply qC | apply qB); refine qG ?_ NB384_386.out _; (with_reducible repeat first | apply qA | apply qC | apply qB); refine qG ?_ NB384_386.out _; (with_reducible repeat first | apply qA | apply qC | apply qB); exact BK384.out⟩, ⟨by (with_reducible repeat first | apply qA | apply qC | apply qB); refine blk_put (cs := #[.string a3, .int .i64 1, .slice none 0 0]) ?_ 2 _ rfl; (with_reducible repeat first | apply qA | apply qC | apply qB); refine blk_put (cs := #[.string a3, .int .i64 0, .slice none 0 0]) ?_ 1 _ rfl; (with_reducible repeat first | apply qA | apply qC | apply qB); refine blk_put (cs := #[.string (⟨#[]⟩ : ByteArray), .int .i64 0, .slice none 0 0]) ?_ 0 _ rfl; (with_reducible repeat first | apply qA | apply qC | apply qB); refine blk_put (cs := #[.string (⟨#[]⟩ : ByteArray), .int .i64 0, .slice none 0 0]) ?_ 2 _ rfl; (with_reducible repeat first | apply qA | apply qC | apply qB); refine blk_put (cs := #[.string (⟨#[]⟩ : ByteArray), .int .i64 0, .slice none 0 0]) ?_ 1 _ rfl; (with_reducible repeat first | apply qA | apply qC | apply qB); refine blk_put (cs := #[.string (⟨#[]⟩ : ByteArray), .int .i64 0, .slice none 0 0]) ?_ 0 _ rfl; (with_reducible repeat first | apply qA | apply qC | apply qB); exact BK386.out⟩, ⟨by repeat (first | (with_reducible first | exact HB.out | apply qL | apply qJ | apply qK | refine qI ?_ GE345.out | refine qI ?_ GE352.out | refine qI ?_ GE357.out | refine qI ?_ GE362.out | refine qI ?_ GE367.out | refine qI ?_ GE372.out | refine qI ?_ GE377.out | refine qI ?_ GE384.out | refine qI ?_ GE386.out) | exact HB.out)⟩⟩
     ·replace c91 := Bool.eq_false_iff.mpr c91
      subst c91
      have H1 : (codicillaw18_SubjectTells.j1 kj4 a3 t351 t356 t361 t366 t371 t376 t383 false a0_0 a0_1 l0_2 t348 t349 t350 t353 t354 t355 t358 t359 t360 t363 t364 t365 t368 t369 t370 t373 t374 t375 t378 t379 t380 (⟨#[]⟩ : ByteArray) 0) = some r := by rw [if_neg (show ¬ (false = true) by decide)] at H; exact H
      clear H
      have H := H1
      clear H1
      have H' := qH H
      clear H
      go_wp2
      go_meet
      case rel => exact ⟨_, ((⟨#[]⟩ : ByteArray)), (0), H', ⟨by have := HJ4.out; first | omega | exact Nat.le_refl _⟩, ⟨by (with_reducible repeat (first | apply Kd.R_alloc | apply Kd.R_drewN | apply Kd.R_drew)); exact Kd.R_mono (Kd.R_far (p := ⟨gb386, 2, none⟩) (Kd.R_far (p := ⟨gb386, 1, none⟩) (Kd.R_far (p := ⟨gb386, 0, none⟩) (Kd.R_types HO382.out BK386.out (by decide)) (fun _ hk => hk.2) (.string (⟨#[]⟩ : ByteArray))) (fun _ hk => hk.2) (.int .i64 0)) (fun _ hk => hk.2) (.slice none 0 0)) (fun _ hk => ⟨hk.1.1.1.1.1.1.2, ⟨hk.1.1.1.1.1.2, ⟨hk.1.1.1.1.2, ⟨hk.1.1.1.2, ⟨hk.1.1.2, hk.1.2⟩⟩⟩⟩⟩)⟩, ⟨by (with_reducible repeat first | apply qA | apply qC | apply qB); refine qG ?_ NB345_386.out _; (with_reducible repeat first | apply qA | apply qC | apply qB); refine qG ?_ NB345_386.out _; (with_reducible repeat first | apply qA | apply qC | apply qB); refine qG ?_ NB345_386.out _; (with_reducible repeat first | apply qA | apply qC | apply qB); exact BK345.out⟩, ⟨by (with_reducible repeat first | apply qA | apply qC | apply qB); refine qG ?_ NB352_386.out _; (with_reducible repeat first | apply qA | apply qC | apply qB); refine qG ?_ NB352_386.out _; (with_reducible repeat first | apply qA | apply qC | apply qB); refine qG ?_ NB352_386.out _; (with_reducible repeat first | apply qA | apply qC | apply qB); exact BK352.out⟩, ⟨by (with_reducible repeat first | apply qA | apply qC | apply qB); refine qG ?_ NB357_386.out _; (with_reducible repeat first | apply qA | apply qC | apply qB); refine qG ?_ NB357_386.out _; (with_reducible repeat first | apply qA | apply qC | apply qB); refine qG ?_ NB357_386.out _; (with_reducible repeat first | apply qA | apply qC | apply qB); exact BK357.out⟩, ⟨by (with_reducible repeat first | apply qA | apply qC | apply qB); refine qG ?_ NB362_386.out _; (with_reducible repeat first | apply qA | apply qC | apply qB); refine qG ?_ NB362_386.out _; (with_reducible repeat first | apply qA | apply qC | apply qB); refine qG ?_ NB362_386.out _; (with_reducible repeat first | apply qA | apply qC | apply qB); exact BK362.out⟩, ⟨by (with_reducible repeat first | apply qA | apply qC | apply qB); refine qG ?_ NB367_386.out _; (with_reducible repeat first | apply qA | apply qC | apply qB); refine qG ?_ NB367_386.out _; (with_reducible repeat first | apply qA | apply qC | apply qB); refine qG ?_ NB367_386.out _; (with_reducible repeat first | apply qA | apply qC | apply qB); exact BK367.out⟩, ⟨by (with_reducible repeat first | apply qA | apply qC | apply qB); refine qG ?_ NB372_386.out _; (with_reducible repeat first | apply qA | apply qC | apply qB); refine qG ?_ NB372_386.out _; (with_reducible repeat first | apply qA | apply qC | apply qB); refine qG ?_ NB372_386.out _; (with_reducible repeat first | apply qA | apply qC | apply qB); exact BK372.out⟩, ⟨by (with_reducible repeat first | apply qA | apply qC | apply qB); refine qG ?_ NB377_386.out _; (with_reducible repeat first | apply qA | apply qC | apply qB); refine qG ?_ NB377_386.out _; (with_reducible repeat first | apply qA | apply qC | apply qB); refine qG ?_ NB377_386.out _; (with_reducible repeat first | apply qA | apply qC | apply qB); exact BK377.out⟩, ⟨by (with_reducible repeat first | apply qA | apply qC | apply qB); refine qG ?_ NB384_386.out _; (with_reducible repeat first | apply qA | apply qC | apply qB); refine qG ?_ NB384_386.out _; (with_reducible repeat first | apply qA | apply qC | apply qB); refine qG ?_ NB384_386.out _; (with_reducible repeat first | apply qA | apply qC | apply qB); exact BK384.out⟩, ⟨by (with_reducible repeat first | apply qA | apply qC | apply qB); refine blk_put (cs := #[.string (⟨#[]⟩ : ByteArray), .int .i64 0, .slice none 0 0]) ?_ 2 _ rfl; (with_reducible repeat first | apply qA | apply qC | apply qB); refine blk_put (cs := #[.string (⟨#[]⟩ : ByteArray), .int .i64 0, .slice none 0 0]) ?_ 1 _ rfl; (with_reducible repeat first | apply qA | apply qC | apply qB); refine blk_put (cs := #[.string (⟨#[]⟩ : ByteArray), .int .i64 0, .slice none 0 0]) ?_ 0 _ rfl; (with_reducible repeat first | apply qA | apply qC | apply qB); exact BK386.out⟩, ⟨by repeat (first | (with_reducible first | exact HB.out | apply qL | apply qJ | apply qK | refine qI ?_ GE345.out | refine qI ?_ GE352.out | refine qI ?_ GE357.out | refine qI ?_ GE362.out | refine qI ?_ GE367.out | refine qI ?_ GE372.out | refine qI ?_ GE377.out | refine qI ?_ GE384.out | refine qI ?_ GE386.out) | exact HB.out)⟩⟩
    case rest =>
     clear HC24
     try clear c1
     try clear c2
     try clear p2
     try clear c3
     try clear c4
     try clear c5
     try clear c6
     try clear c7
     try clear c8
     try clear c9
     try clear c10
     try clear c13
     try clear c19
     try clear c20
     try clear c21
     try clear c22
     try clear c23
     try clear c24
     try clear c25
     try clear c26
     try clear c28
     try clear c33
     try clear c34
     try clear c39
     try clear c40
     try clear c41
     try clear c46
     try clear c47
     try clear c48
     try clear c49
     try clear c54
     try clear c55
     try clear c56
     try clear c57
     try clear c58
     try clear c63
     try clear c64
     try clear c65
     try clear c66
     try clear c67
     try clear c68
     try clear c72
     try clear c73
     try clear c74
     try clear c75
     try clear c76
     try clear c77
     try clear c78
     try clear c82
     try clear c83
     try clear c84
     try clear c85
     try clear c86
     try clear c87
     try clear c88
     try clear c89
     try clear c91
     try clear c92
     try clear c93
     try clear c94
     try clear c95
     try clear c96
     try clear c97
     try clear c98
     try clear c99
     try clear hcz100_0
     try clear hcz100_1
     try clear hcz100_2
     try clear hcz11_0
     try clear hcz11_1
     try clear hcz11_2
     try clear hcz25_0
     try clear hcz25_1
     try clear hcz25_2
     try clear hcz29_0
     try clear hcz29_1
     try clear hcz29_2
     try clear hcz30_0
     try clear hcz30_1
     try clear hcz30_2
     try clear hcz35_0
     try clear hcz35_1
     try clear hcz35_2
     try clear hcz36_0
     try clear hcz36_1
     try clear hcz36_2
     try clear hcz42_0
     try clear hcz42_1
     try clear hcz42_2
     try clear hcz43_0
     try clear hcz43_1
     try clear hcz43_2
     try clear hcz50_0
     try clear hcz50_1
     try clear hcz50_2
     try clear hcz51_0
     try clear hcz51_1
     try clear hcz51_2
     try clear hcz59_0
     try clear hcz59_1
     try clear hcz59_2
     try clear hcz60_0
     try clear hcz60_1
     try clear hcz60_2
     try clear hcz69_0
     try clear hcz69_1
     try clear hcz69_2
     try clear hcz79_0
     try clear hcz79_1
     try clear hcz79_2
     try clear hcz90_0
     try clear hcz90_1
     try clear hcz90_2
     try clear hcz9_0
     try clear hcz9_1
     try clear hcz9_2
     try clear hfz100_0
     try clear hfz100_1
     try clear hfz100_2
     try clear hfz11_0
     try clear hfz11_1
     try clear hfz11_2
     try clear hfz25_0
     try clear hfz25_1
     try clear hfz25_2
     try clear hfz29_0
     try clear hfz29_1
     try clear hfz29_2
     try clear hfz30_0
     try clear hfz30_1
     try clear hfz30_2
     try clear hfz35_0
     try clear hfz35_1
     try clear hfz35_2
     try clear hfz36_0
     try clear hfz36_1
     try clear hfz36_2
     try clear hfz42_0
     try clear hfz42_1
     try clear hfz42_2
     try clear hfz43_0
     try clear hfz43_1
     try clear hfz43_2
     try clear hfz50_0
     try clear hfz50_1
     try clear hfz50_2
     try clear hfz51_0
     try clear hfz51_1
     try clear hfz51_2
     try clear hfz59_0
     try clear hfz59_1
     try clear hfz59_2
     try clear hfz60_0
     try clear hfz60_1
     try clear hfz60_2
     try clear hfz69_0
     try clear hfz69_1
     try clear hfz69_2
     try clear hfz79_0
     try clear hfz79_1
     try clear hfz79_2
     try clear hfz90_0
     try clear hfz90_1
     try clear hfz90_2
     try clear hfz9_0
     try clear hfz9_1
     try clear hfz9_2
     try clear p2
     obtain ⟨kq, x387000_23, x387001_23, HA, HJ23, HO_385002, BK345, BK352, BK357, BK362, BK367, BK372, BK377, BK384, BK386, HB⟩ := hcut
     cases kq with
     | zero => exact absurd HA.out (by simp [codicillaw18_SubjectTells.j1])
     | succ kj23 =>
      have H := HA.out
      clear HA
      simp only [codicillaw18_SubjectTells.j1] at H
      have HC101 := qH H
      clear H
      go_upto_region 14 with (fail)
      go_cut [101] (fun v101 wc => ∃ (kq : Nat) (x101_100 : Bool), v101 = .bool x101_100 ∧ Aside0 (codicillaw18_SubjectTells.j2 kq t351 t356 t361 t366 t371 t376 x101_100 a0_0 a0_1 l0_2 t348 t349 t350 t353 t354 t355 t358 t359 t360 t363 t364 t365 t368 t369 t370 t373 t374 t375 = some r) ∧ Aside0 (kq ≤ kj23) ∧ Aside0 (Kd.R k30 30 wc w.heap.size (fun k_ => k_ ≠ gb352 ∧ k_ ≠ gb357 ∧ k_ ≠ gb362 ∧ k_ ≠ gb367 ∧ k_ ≠ gb372 ∧ k_ ≠ gb377) (.slice Ao80 t380.length co80) t380) ∧ Aside0 (wc.heap[gb345]? = some (.cells #[.string a0_0, .int .i64 a0_1, (.slice A0_2 l0_2.length c0_2)] 24 (0, 0))) ∧ Aside0 (wc.heap[gb352]? = some (.cells #[.int .i64 t348, .int .u32 t349, .bool t350] 30 (0, 0))) ∧ Aside0 (wc.heap[gb357]? = some (.cells #[.int .i64 t353, .int .u32 t354, .bool t355] 30 (0, 0))) ∧ Aside0 (wc.heap[gb362]? = some (.cells #[.int .i64 t358, .int .u32 t359, .bool t360] 30 (0, 0))) ∧ Aside0 (wc.heap[gb367]? = some (.cells #[.int .i64 t363, .int .u32 t364, .bool t365] 30 (0, 0))) ∧ Aside0 (wc.heap[gb372]? = some (.cells #[.int .i64 t368, .int .u32 t369, .bool t370] 30 (0, 0))) ∧ Aside0 (wc.heap[gb377]? = some (.cells #[.int .i64 t373, .int .u32 t374, .bool t375] 30 (0, 0))) ∧ Aside0 (wc.heap[gb384]? = some (.cells #[.string t378, .int .i64 t379, (.slice Ao80 t380.length co80)] 24 (0, 0))) ∧ Aside0 (wc.heap[gb386]? = some (.cells #[.string x387000_23, .int .i64 x387001_23, (.slice none 0 0)] 24 (0, 0))) ∧ Aside0 (Below w.heap.size w wc))
      case first =>
       have H := HC101.out
       clear HC101
       replace H := Option.bind_eq_some_iff.mp H
       obtain ⟨t387, A1020, H⟩ := H
       (try dsimp only at H)
       have A102 := qH A1020
       clear A1020
       by_cases c103 : (t387 != t385) = true
       ·rw [if_pos c103] at H
        have c103b0 : (t387 != t385) = true := c103
        (try (have c103b1 : decide (t387 = t385) = false := by simpa using c103))
        (try (have c103b2 : (t387 == t385) = false := by simpa using c103))
        (try (have c103b3 : ¬ (t387 = t385) := by simpa using c103))
        clear c103
        (first | rw [c103b0] | (simp only [i64_w, i32_w]; rw [c103b0]) | skip)
        have H' := qH H
        clear H
        go_wp2_with (first | ((with_reducible refine gate_callee (f := 27) rfl ?_); refine goesL_ (some 79) rfl rfl Try.func27 (by kernel_rfl) rfl #[.string a3] rfl (by (try simp only [List.map_toArray, List.map_cons, List.map_nil]); first | done | rfl | (simp only [List.length_drop, List.length_take]; rfl)) ?_; (with_reducible refine (subject_Name.calls a3 t387 _ A102.out).mono ?_); rintro e w104 ⟨rfl, hb⟩; refine ⟨_, rfl, ?_⟩; have n0_ := qH (Kd.R_below (by (with_reducible repeat (first | apply Kd.R_alloc | apply Kd.R_drewN | apply Kd.R_drew)); exact HO_385002.out) hb); have n1_ := qH (qD (g := gb345) (by (with_reducible repeat first | apply qA | apply qC | apply qB); exact BK345.out) hb); have n2_ := qH (qD (g := gb352) (by (with_reducible repeat first | apply qA | apply qC | apply qB); exact BK352.out) hb); have n3_ := qH (qD (g := gb357) (by (with_reducible repeat first | apply qA | apply qC | apply qB); exact BK357.out) hb); have n4_ := qH (qD (g := gb362) (by (with_reducible repeat first | apply qA | apply qC | apply qB); exact BK362.out) hb); have n5_ := qH (qD (g := gb367) (by (with_reducible repeat first | apply qA | apply qC | apply qB); exact BK367.out) hb); have n6_ := qH (qD (g := gb372) (by (with_reducible repeat first | apply qA | apply qC | apply qB); exact BK372.out) hb); have n7_ := qH (qD (g := gb377) (by (with_reducible repeat first | apply qA | apply qC | apply qB); exact BK377.out) hb); have n8_ := qH (qD (g := gb384) (by (with_reducible repeat first | apply qA | apply qC | apply qB); exact BK384.out) hb); have n9_ := qH (qD (g := gb386) (by (with_reducible repeat first | apply qA | apply qC | apply qB); exact BK386.out) hb); have n10_ := qH (below_step (by repeat (first | (with_reducible first | exact HB.out | apply qL | apply qJ | apply qK | refine qI ?_ GE345.out | refine qI ?_ GE352.out | refine qI ?_ GE357.out | refine qI ?_ GE362.out | refine qI ?_ GE367.out | refine qI ?_ GE372.out | refine qI ?_ GE377.out | refine qI ?_ GE384.out | refine qI ?_ GE386.out) | exact HB.out)) hb); clear HO_385002; clear BK345; clear BK352; clear BK357; clear BK362; clear BK367; clear BK372; clear BK377; clear BK384; clear BK386; clear HB; have HO_385002 := n0_; have BK345 := n1_; have BK352 := n2_; have BK357 := n3_; have BK362 := n4_; have BK367 := n5_; have BK372 := n6_; have BK377 := n7_; have BK384 := n8_; have BK386 := n9_; have HB := n10_; clear n0_ n1_ n2_ n3_ n4_ n5_ n6_ n7_ n8_ n9_ n10_; (try clear hb); (try clear hb2); (try clear hk); (try clear hi)))
        go_meet
        case rel => exact ⟨_, (true), (by first | rfl | (simp; done) | (simp [*]; done)), H', ⟨by have := HJ4.out; have := HJ23.out; first | omega | exact Nat.le_refl _⟩, ⟨by (with_reducible repeat (first | apply Kd.R_alloc | apply Kd.R_drewN | apply Kd.R_drew)); exact HO_385002.out⟩, ⟨by (with_reducible repeat first | apply qA | apply qC | apply qB); exact BK345.out⟩, ⟨by (with_reducible repeat first | apply qA | apply qC | apply qB); exact BK352.out⟩, ⟨by (with_reducible repeat first | apply qA | apply qC | apply qB); exact BK357.out⟩, ⟨by (with_reducible repeat first | apply qA | apply qC | apply qB); exact BK362.out⟩, ⟨by (with_reducible repeat first | apply qA | apply qC | apply qB); exact BK367.out⟩, ⟨by (with_reducible repeat first | apply qA | apply qC | apply qB); exact BK372.out⟩, ⟨by (with_reducible repeat first | apply qA | apply qC | apply qB); exact BK377.out⟩, ⟨by (with_reducible repeat first | apply qA | apply qC | apply qB); exact BK384.out⟩, ⟨by (with_reducible repeat first | apply qA | apply qC | apply qB); exact BK386.out⟩, ⟨by repeat (first | (with_reducible first | exact HB.out | apply qL | apply qJ | apply qK | refine qI ?_ GE345.out | refine qI ?_ GE352.out | refine qI ?_ GE357.out | refine qI ?_ GE362.out | refine qI ?_ GE367.out | refine qI ?_ GE372.out | refine qI ?_ GE377.out | refine qI ?_ GE384.out | refine qI ?_ GE386.out) | exact HB.out)⟩⟩
       ·rw [if_neg c103] at H
        have c103b0 : (t387 != t385) = false := by simpa using c103
        (try (have c103b1 : decide (t387 = t385) = true := by simpa using c103))
        (try (have c103b2 : (t387 == t385) = true := by simpa using c103))
        clear c103
        (first | rw [c103b0] | (simp only [i64_w, i32_w]; rw [c103b0]) | skip)
        replace H := Option.bind_eq_some_iff.mp H
        obtain ⟨t388, A1050, H⟩ := H
        (try dsimp only at H)
        have A105 := qH A1050
        clear A1050
        by_cases c106 : t388 = true
        ·subst c106
         have H1 : (if ((t383 == 0) != t385) = true then (codicillaw18_SubjectTells.j2 kj23 t351 t356 t361 t366 t371 t376 true a0_0 a0_1 l0_2 t348 t349 t350 t353 t354 t355 t358 t359 t360 t363 t364 t365 t368 t369 t370 t373 t374 t375) else (if t385 = true then (codicillaw18_SubjectTells.j2 kj23 t351 t356 t361 t366 t371 t376 false a0_0 a0_1 l0_2 t348 t349 t350 t353 t354 t355 t358 t359 t360 t363 t364 t365 t368 t369 t370 t373 t374 t375) else (codicillaw18_SubjectTells.j2 kj23 t351 t356 t361 t366 t371 t376 (t383 != 2) a0_0 a0_1 l0_2 t348 t349 t350 t353 t354 t355 t358 t359 t360 t363 t364 t365 t368 t369 t370 t373 t374 t375))) = some r := by rw [if_pos rfl] at H; exact H
         clear H
         have H := H1
         clear H1
         by_cases c107 : ((t383 == 0) != t385) = true
         ·rw [if_pos c107] at H
          have c107b0 : ((t383 == 0) != t385) = true := c107
          (try (have c107b1 : decide ((t383 == 0) = t385) = false := by simpa using c107))
          (try (have c107b2 : ((t383 == 0) == t385) = false := by simpa using c107))
          (try (have c107b3 : ¬ ((t383 == 0) = t385) := by simpa using c107))
          clear c107
          have H' := qH H
          clear H
          go_wp2_with (first | ((with_reducible refine gate_callee (f := 27) rfl ?_); refine goesL_ (some 79) rfl rfl Try.func27 (by kernel_rfl) rfl #[.string a3] rfl (by (try simp only [List.map_toArray, List.map_cons, List.map_nil]); first | done | rfl | (simp only [List.length_drop, List.length_take]; rfl)) ?_; (with_reducible refine (subject_Name.calls a3 t387 _ A102.out).mono ?_); rintro e w108 ⟨rfl, hb⟩; refine ⟨_, rfl, ?_⟩; have n0_ := qH (Kd.R_below (by (with_reducible repeat (first | apply Kd.R_alloc | apply Kd.R_drewN | apply Kd.R_drew)); exact HO_385002.out) hb); have n1_ := qH (qD (g := gb345) (by (with_reducible repeat first | apply qA | apply qC | apply qB); exact BK345.out) hb); have n2_ := qH (qD (g := gb352) (by (with_reducible repeat first | apply qA | apply qC | apply qB); exact BK352.out) hb); have n3_ := qH (qD (g := gb357) (by (with_reducible repeat first | apply qA | apply qC | apply qB); exact BK357.out) hb); have n4_ := qH (qD (g := gb362) (by (with_reducible repeat first | apply qA | apply qC | apply qB); exact BK362.out) hb); have n5_ := qH (qD (g := gb367) (by (with_reducible repeat first | apply qA | apply qC | apply qB); exact BK367.out) hb); have n6_ := qH (qD (g := gb372) (by (with_reducible repeat first | apply qA | apply qC | apply qB); exact BK372.out) hb); have n7_ := qH (qD (g := gb377) (by (with_reducible repeat first | apply qA | apply qC | apply qB); exact BK377.out) hb); have n8_ := qH (qD (g := gb384) (by (with_reducible repeat first | apply qA | apply qC | apply qB); exact BK384.out) hb); have n9_ := qH (qD (g := gb386) (by (with_reducible repeat first | apply qA | apply qC | apply qB); exact BK386.out) hb); have n10_ := qH (below_step (by repeat (first | (with_reducible first | exact HB.out | apply qL | apply qJ | apply qK | refine qI ?_ GE345.out | refine qI ?_ GE352.out | refine qI ?_ GE357.out | refine qI ?_ GE362.out | refine qI ?_ GE367.out | refine qI ?_ GE372.out | refine qI ?_ GE377.out | refine qI ?_ GE384.out | refine qI ?_ GE386.out) | exact HB.out)) hb); clear HO_385002; clear BK345; clear BK352; clear BK357; clear BK362; clear BK367; clear BK372; clear BK377; clear BK384; clear BK386; clear HB; have HO_385002 := n0_; have BK345 := n1_; have BK352 := n2_; have BK357 := n3_; have BK362 := n4_; have BK367 := n5_; have BK372 := n6_; have BK377 := n7_; have BK384 := n8_; have BK386 := n9_; have HB := n10_; clear n0_ n1_ n2_ n3_ n4_ n5_ n6_ n7_ n8_ n9_ n10_; (try clear hb); (try clear hb2); (try clear hk); (try clear hi); have hnb109 := NB384_345.out; have hnc109 := NB345_384.out; have hnb110 := NB384_352.out; have hnc110 := NB352_384.out; have hnb111 := NB384_357.out; have hnc111 := NB357_384.out; have hnb112 := NB384_362.out; have hnc112 := NB362_384.out; have hnb113 := NB384_367.out; have hnc113 := NB367_384.out; have hnb114 := NB384_372.out; have hnc114 := NB372_384.out; have hnb115 := NB384_377.out; have hnc115 := NB377_384.out; have hnb116 := NB384_386.out; have hnc116 := NB386_384.out; obtain ⟨hcz117_0, hcz117_1, hcz117_2⟩ := qc3 BK384.out; obtain ⟨hfz117_0, hfz117_1, hfz117_2⟩ := qf3 BK384.out; have hnb118 := NB386_345.out; have hnc118 := NB345_386.out; have hnb119 := NB386_352.out; have hnc119 := NB352_386.out; have hnb120 := NB386_357.out; have hnc120 := NB357_386.out; have hnb121 := NB386_362.out; have hnc121 := NB362_386.out; have hnb122 := NB386_367.out; have hnc122 := NB367_386.out; have hnb123 := NB386_372.out; have hnc123 := NB372_386.out; have hnb124 := NB386_377.out; have hnc124 := NB377_386.out; obtain ⟨hcz125_0, hcz125_1, hcz125_2⟩ := qc3 BK386.out; obtain ⟨hfz125_0, hfz125_1, hfz125_2⟩ := qf3 BK386.out) | (go_at_call 18; (refine (codicilref18_Same.calls kj23 t378 t379 _ _ t380 x387000_23 x387001_23 _ _ ([] : List (S30)) true _ ?side1 ?side2 ?side3 ?side4 A105.out).mono ?_); (case side1 => repeat (first | exact (Kd.R_reads' HO_385002.out).2.2 | (with_reducible refine Kd.C_alloc ?_ _) | (with_reducible refine Kd.C_drewN ?_ _) | (with_reducible refine Kd.C_drew ?_))); (case side2 => exact (Kd.R_reads' HO_385002.out).2.1); (case side3 => exact Kd.C_nil _ _); (case side4 => exact Nat.le_refl _); rintro e w126 ⟨rfl, hb⟩; have n0_ := qH (Kd.R_below (by (with_reducible repeat (first | apply Kd.R_alloc | apply Kd.R_drewN | apply Kd.R_drew)); exact HO_385002.out) hb); have n1_ := qH (qD (g := gb345) (by (with_reducible repeat first | apply qA | apply qC | apply qB); exact BK345.out) hb); have n2_ := qH (qD (g := gb352) (by (with_reducible repeat first | apply qA | apply qC | apply qB); exact BK352.out) hb); have n3_ := qH (qD (g := gb357) (by (with_reducible repeat first | apply qA | apply qC | apply qB); exact BK357.out) hb); have n4_ := qH (qD (g := gb362) (by (with_reducible repeat first | apply qA | apply qC | apply qB); exact BK362.out) hb); have n5_ := qH (qD (g := gb367) (by (with_reducible repeat first | apply qA | apply qC | apply qB); exact BK367.out) hb); have n6_ := qH (qD (g := gb372) (by (with_reducible repeat first | apply qA | apply qC | apply qB); exact BK372.out) hb); have n7_ := qH (qD (g := gb377) (by (with_reducible repeat first | apply qA | apply qC | apply qB); exact BK377.out) hb); have n8_ := qH (qD (g := gb384) (by (with_reducible repeat first | apply qA | apply qC | apply qB); exact BK384.out) hb); have n9_ := qH (qD (g := gb386) (by (with_reducible repeat first | apply qA | apply qC | apply qB); exact BK386.out) hb); have n10_ := qH (below_step (by repeat (first | (with_reducible first | exact HB.out | apply qL | apply qJ | apply qK | refine qI ?_ GE345.out | refine qI ?_ GE352.out | refine qI ?_ GE357.out | refine qI ?_ GE362.out | refine qI ?_ GE367.out | refine qI ?_ GE372.out | refine qI ?_ GE377.out | refine qI ?_ GE384.out | refine qI ?_ GE386.out) | exact HB.out)) hb); clear HO_385002; clear BK345; clear BK352; clear BK357; clear BK362; clear BK367; clear BK372; clear BK377; clear BK384; clear BK386; clear HB; have HO_385002 := n0_; have BK345 := n1_; have BK352 := n2_; have BK357 := n3_; have BK362 := n4_; have BK367 := n5_; have BK372 := n6_; have BK377 := n7_; have BK384 := n8_; have BK386 := n9_; have HB := n10_; clear n0_ n1_ n2_ n3_ n4_ n5_ n6_ n7_ n8_ n9_ n10_; (try clear hb); (try clear hb2); (try clear hk); (try clear hi)))
          go_meet
          case rel => exact ⟨_, (true), (by first | rfl | (simp; done) | (simp [*]; done)), H', ⟨by have := HJ4.out; have := HJ23.out; first | omega | exact Nat.le_refl _⟩, ⟨by (with_reducible repeat (first | apply Kd.R_alloc | apply Kd.R_drewN | apply Kd.R_drew)); exact HO_385002.out⟩, ⟨by (with_reducible repeat first | apply qA | apply qC | apply qB); exact BK345.out⟩, ⟨by (with_reducible repeat first | apply qA | apply qC | apply qB); exact BK352.out⟩, ⟨by (with_reducible repeat first | apply qA | apply qC | apply qB); exact BK357.out⟩, ⟨by (with_reducible repeat first | apply qA | apply qC | apply qB); exact BK362.out⟩, ⟨by (with_reducible repeat first | apply qA | apply qC | apply qB); exact BK367.out⟩, ⟨by (with_reducible repeat first | apply qA | apply qC | apply qB); exact BK372.out⟩, ⟨by (with_reducible repeat first | apply qA | apply qC | apply qB); exact BK377.out⟩, ⟨by (with_reducible repeat first | apply qA | apply qC | apply qB); exact BK384.out⟩, ⟨by (with_reducible repeat first | apply qA | apply qC | apply qB); exact BK386.out⟩, ⟨by repeat (first | (with_reducible first | exact HB.out | apply qL | apply qJ | apply qK | refine qI ?_ GE345.out | refine qI ?_ GE352.out | refine qI ?_ GE357.out | refine qI ?_ GE362.out | refine qI ?_ GE367.out | refine qI ?_ GE372.out | refine qI ?_ GE377.out | refine qI ?_ GE384.out | refine qI ?_ GE386.out) | exact HB.out)⟩⟩
         ·rw [if_neg c107] at H
          have c107b0 : ((t383 == 0) != t385) = false := by simpa using c107
          (try (have c107b1 : decide ((t383 == 0) = t385) = true := by simpa using c107))
          (try (have c107b2 : ((t383 == 0) == t385) = true := by simpa using c107))
          clear c107
          by_cases c127 : t385 = true
          ·subst c127
           have H1 : (codicillaw18_SubjectTells.j2 kj23 t351 t356 t361 t366 t371 t376 false a0_0 a0_1 l0_2 t348 t349 t350 t353 t354 t355 t358 t359 t360 t363 t364 t365 t368 t369 t370 t373 t374 t375) = some r := by rw [if_pos rfl] at H; exact H
           clear H
           have H := H1
           clear H1
           have H' := qH H
           clear H
           go_wp2_with (first | ((with_reducible refine gate_callee (f := 27) rfl ?_); refine goesL_ (some 79) rfl rfl Try.func27 (by kernel_rfl) rfl #[.string a3] rfl (by (try simp only [List.map_toArray, List.map_cons, List.map_nil]); first | done | rfl | (simp only [List.length_drop, List.length_take]; rfl)) ?_; (with_reducible refine (subject_Name.calls a3 t387 _ A102.out).mono ?_); rintro e w128 ⟨rfl, hb⟩; refine ⟨_, rfl, ?_⟩; have n0_ := qH (Kd.R_below (by (with_reducible repeat (first | apply Kd.R_alloc | apply Kd.R_drewN | apply Kd.R_drew)); exact HO_385002.out) hb); have n1_ := qH (qD (g := gb345) (by (with_reducible repeat first | apply qA | apply qC | apply qB); exact BK345.out) hb); have n2_ := qH (qD (g := gb352) (by (with_reducible repeat first | apply qA | apply qC | apply qB); exact BK352.out) hb); have n3_ := qH (qD (g := gb357) (by (with_reducible repeat first | apply qA | apply qC | apply qB); exact BK357.out) hb); have n4_ := qH (qD (g := gb362) (by (with_reducible repeat first | apply qA | apply qC | apply qB); exact BK362.out) hb); have n5_ := qH (qD (g := gb367) (by (with_reducible repeat first | apply qA | apply qC | apply qB); exact BK367.out) hb); have n6_ := qH (qD (g := gb372) (by (with_reducible repeat first | apply qA | apply qC | apply qB); exact BK372.out) hb); have n7_ := qH (qD (g := gb377) (by (with_reducible repeat first | apply qA | apply qC | apply qB); exact BK377.out) hb); have n8_ := qH (qD (g := gb384) (by (with_reducible repeat first | apply qA | apply qC | apply qB); exact BK384.out) hb); have n9_ := qH (qD (g := gb386) (by (with_reducible repeat first | apply qA | apply qC | apply qB); exact BK386.out) hb); have n10_ := qH (below_step (by repeat (first | (with_reducible first | exact HB.out | apply qL | apply qJ | apply qK | refine qI ?_ GE345.out | refine qI ?_ GE352.out | refine qI ?_ GE357.out | refine qI ?_ GE362.out | refine qI ?_ GE367.out | refine qI ?_ GE372.out | refine qI ?_ GE377.out | refine qI ?_ GE384.out | refine qI ?_ GE386.out) | exact HB.out)) hb); clear HO_385002; clear BK345; clear BK352; clear BK357; clear BK362; clear BK367; clear BK372; clear BK377; clear BK384; clear BK386; clear HB; have HO_385002 := n0_; have BK345 := n1_; have BK352 := n2_; have BK357 := n3_; have BK362 := n4_; have BK367 := n5_; have BK372 := n6_; have BK377 := n7_; have BK384 := n8_; have BK386 := n9_; have HB := n10_; clear n0_ n1_ n2_ n3_ n4_ n5_ n6_ n7_ n8_ n9_ n10_; (try clear hb); (try clear hb2); (try clear hk); (try clear hi); have hnb129 := NB384_345.out; have hnc129 := NB345_384.out; have hnb130 := NB384_352.out; have hnc130 := NB352_384.out; have hnb131 := NB384_357.out; have hnc131 := NB357_384.out; have hnb132 := NB384_362.out; have hnc132 := NB362_384.out; have hnb133 := NB384_367.out; have hnc133 := NB367_384.out; have hnb134 := NB384_372.out; have hnc134 := NB372_384.out; have hnb135 := NB384_377.out; have hnc135 := NB377_384.out; have hnb136 := NB384_386.out; have hnc136 := NB386_384.out; obtain ⟨hcz137_0, hcz137_1, hcz137_2⟩ := qc3 BK384.out; obtain ⟨hfz137_0, hfz137_1, hfz137_2⟩ := qf3 BK384.out; have hnb138 := NB386_345.out; have hnc138 := NB345_386.out; have hnb139 := NB386_352.out; have hnc139 := NB352_386.out; have hnb140 := NB386_357.out; have hnc140 := NB357_386.out; have hnb141 := NB386_362.out; have hnc141 := NB362_386.out; have hnb142 := NB386_367.out; have hnc142 := NB367_386.out; have hnb143 := NB386_372.out; have hnc143 := NB372_386.out; have hnb144 := NB386_377.out; have hnc144 := NB377_386.out; obtain ⟨hcz145_0, hcz145_1, hcz145_2⟩ := qc3 BK386.out; obtain ⟨hfz145_0, hfz145_1, hfz145_2⟩ := qf3 BK386.out) | (go_at_call 18; (refine (codicilref18_Same.calls kj23 t378 t379 _ _ t380 x387000_23 x387001_23 _ _ ([] : List (S30)) true _ ?side1 ?side2 ?side3 ?side4 A105.out).mono ?_); (case side1 => repeat (first | exact (Kd.R_reads' HO_385002.out).2.2 | (with_reducible refine Kd.C_alloc ?_ _) | (with_reducible refine Kd.C_drewN ?_ _) | (with_reducible refine Kd.C_drew ?_))); (case side2 => exact (Kd.R_reads' HO_385002.out).2.1); (case side3 => exact Kd.C_nil _ _); (case side4 => exact Nat.le_refl _); rintro e w146 ⟨rfl, hb⟩; have n0_ := qH (Kd.R_below (by (with_reducible repeat (first | apply Kd.R_alloc | apply Kd.R_drewN | apply Kd.R_drew)); exact HO_385002.out) hb); have n1_ := qH (qD (g := gb345) (by (with_reducible repeat first | apply qA | apply qC | apply qB); exact BK345.out) hb); have n2_ := qH (qD (g := gb352) (by (with_reducible repeat first | apply qA | apply qC | apply qB); exact BK352.out) hb); have n3_ := qH (qD (g := gb357) (by (with_reducible repeat first | apply qA | apply qC | apply qB); exact BK357.out) hb); have n4_ := qH (qD (g := gb362) (by (with_reducible repeat first | apply qA | apply qC | apply qB); exact BK362.out) hb); have n5_ := qH (qD (g := gb367) (by (with_reducible repeat first | apply qA | apply qC | apply qB); exact BK367.out) hb); have n6_ := qH (qD (g := gb372) (by (with_reducible repeat first | apply qA | apply qC | apply qB); exact BK372.out) hb); have n7_ := qH (qD (g := gb377) (by (with_reducible repeat first | apply qA | apply qC | apply qB); exact BK377.out) hb); have n8_ := qH (qD (g := gb384) (by (with_reducible repeat first | apply qA | apply qC | apply qB); exact BK384.out) hb); have n9_ := qH (qD (g := gb386) (by (with_reducible repeat first | apply qA | apply qC | apply qB); exact BK386.out) hb); have n10_ := qH (below_step (by repeat (first | (with_reducible first | exact HB.out | apply qL | apply qJ | apply qK | refine qI ?_ GE345.out | refine qI ?_ GE352.out | refine qI ?_ GE357.out | refine qI ?_ GE362.out | refine qI ?_ GE367.out | refine qI ?_ GE372.out | refine qI ?_ GE377.out | refine qI ?_ GE384.out | refine qI ?_ GE386.out) | exact HB.out)) hb); clear HO_385002; clear BK345; clear BK352; clear BK357; clear BK362; clear BK367; clear BK372; clear BK377; clear BK384; clear BK386; clear HB; have HO_385002 := n0_; have BK345 := n1_; have BK352 := n2_; have BK357 := n3_; have BK362 := n4_; have BK367 := n5_; have BK372 := n6_; have BK377 := n7_; have BK384 := n8_; have BK386 := n9_; have HB := n10_; clear n0_ n1_ n2_ n3_ n4_ n5_ n6_ n7_ n8_ n9_ n10_; (try clear hb); (try clear hb2); (try clear hk); (try clear hi)))
           go_meet
           case rel => exact ⟨_, (false), (by first | rfl | (simp; done) | (simp [*]; done)), H', ⟨by have := HJ4.out; have := HJ23.out; first | omega | exact Nat.le_refl _⟩, ⟨by (with_reducible repeat (first | apply Kd.R_alloc | apply Kd.R_drewN | apply Kd.R_drew)); exact HO_385002.out⟩, ⟨by (with_reducible repeat first | apply qA | apply qC | apply qB); exact BK345.out⟩, ⟨by (with_reducible repeat first | apply qA | apply qC | apply qB); exact BK352.out⟩, ⟨by (with_reducible repeat first | apply qA | apply qC | apply qB); exact BK357.out⟩, ⟨by (with_reducible repeat first | apply qA | apply qC | apply qB); exact BK362.out⟩, ⟨by (with_reducible repeat first | apply qA | apply qC | apply qB); exact BK367.out⟩, ⟨by (with_reducible repeat first | apply qA | apply qC | apply qB); exact BK372.out⟩, ⟨by (with_reducible repeat first | apply qA | apply qC | apply qB); exact BK377.out⟩, ⟨by (with_reducible repeat first | apply qA | apply qC | apply qB); exact BK384.out⟩, ⟨by (with_reducible repeat first | apply qA | apply qC | apply qB); exact BK386.out⟩, ⟨by repeat (first | (with_reducible first | exact HB.out | apply qL | apply qJ | apply qK | refine qI ?_ GE345.out | refine qI ?_ GE352.out | refine qI ?_ GE357.out | refine qI ?_ GE362.out | refine qI ?_ GE367.out | refine qI ?_ GE372.out | refine qI ?_ GE377.out | refine qI ?_ GE384.out | refine qI ?_ GE386.out) | exact HB.out)⟩⟩
          ·replace c127 := Bool.eq_false_iff.mpr c127
           subst c127
           have H1 : (codicillaw18_SubjectTells.j2 kj23 t351 t356 t361 t366 t371 t376 (t383 != 2) a0_0 a0_1 l0_2 t348 t349 t350 t353 t354 t355 t358 t359 t360 t363 t364 t365 t368 t369 t370 t373 t374 t375) = some r := by rw [if_neg (show ¬ (false = true) by decide)] at H; exact H
           clear H
           have H := H1
           clear H1
           have H' := qH H
           clear H
           go_wp2_with (first | ((with_reducible refine gate_callee (f := 27) rfl ?_); refine goesL_ (some 79) rfl rfl Try.func27 (by kernel_rfl) rfl #[.string a3] rfl (by (try simp only [List.map_toArray, List.map_cons, List.map_nil]); first | done | rfl | (simp only [List.length_drop, List.length_take]; rfl)) ?_; (with_reducible refine (subject_Name.calls a3 t387 _ A102.out).mono ?_); rintro e w147 ⟨rfl, hb⟩; refine ⟨_, rfl, ?_⟩; have n0_ := qH (Kd.R_below (by (with_reducible repeat (first | apply Kd.R_alloc | apply Kd.R_drewN | apply Kd.R_drew)); exact HO_385002.out) hb); have n1_ := qH (qD (g := gb345) (by (with_reducible repeat first | apply qA | apply qC | apply qB); exact BK345.out) hb); have n2_ := qH (qD (g := gb352) (by (with_reducible repeat first | apply qA | apply qC | apply qB); exact BK352.out) hb); have n3_ := qH (qD (g := gb357) (by (with_reducible repeat first | apply qA | apply qC | apply qB); exact BK357.out) hb); have n4_ := qH (qD (g := gb362) (by (with_reducible repeat first | apply qA | apply qC | apply qB); exact BK362.out) hb); have n5_ := qH (qD (g := gb367) (by (with_reducible repeat first | apply qA | apply qC | apply qB); exact BK367.out) hb); have n6_ := qH (qD (g := gb372) (by (with_reducible repeat first | apply qA | apply qC | apply qB); exact BK372.out) hb); have n7_ := qH (qD (g := gb377) (by (with_reducible repeat first | apply qA | apply qC | apply qB); exact BK377.out) hb); have n8_ := qH (qD (g := gb384) (by (with_reducible repeat first | apply qA | apply qC | apply qB); exact BK384.out) hb); have n9_ := qH (qD (g := gb386) (by (with_reducible repeat first | apply qA | apply qC | apply qB); exact BK386.out) hb); have n10_ := qH (below_step (by repeat (first | (with_reducible first | exact HB.out | apply qL | apply qJ | apply qK | refine qI ?_ GE345.out | refine qI ?_ GE352.out | refine qI ?_ GE357.out | refine qI ?_ GE362.out | refine qI ?_ GE367.out | refine qI ?_ GE372.out | refine qI ?_ GE377.out | refine qI ?_ GE384.out | refine qI ?_ GE386.out) | exact HB.out)) hb); clear HO_385002; clear BK345; clear BK352; clear BK357; clear BK362; clear BK367; clear BK372; clear BK377; clear BK384; clear BK386; clear HB; have HO_385002 := n0_; have BK345 := n1_; have BK352 := n2_; have BK357 := n3_; have BK362 := n4_; have BK367 := n5_; have BK372 := n6_; have BK377 := n7_; have BK384 := n8_; have BK386 := n9_; have HB := n10_; clear n0_ n1_ n2_ n3_ n4_ n5_ n6_ n7_ n8_ n9_ n10_; (try clear hb); (try clear hb2); (try clear hk); (try clear hi); have hnb148 := NB384_345.out; have hnc148 := NB345_384.out; have hnb149 := NB384_352.out; have hnc149 := NB352_384.out; have hnb150 := NB384_357.out; have hnc150 := NB357_384.out; have hnb151 := NB384_362.out; have hnc151 := NB362_384.out; have hnb152 := NB384_367.out; have hnc152 := NB367_384.out; have hnb153 := NB384_372.out; have hnc153 := NB372_384.out; have hnb154 := NB384_377.out; have hnc154 := NB377_384.out; have hnb155 := NB384_386.out; have hnc155 := NB386_384.out; obtain ⟨hcz156_0, hcz156_1, hcz156_2⟩ := qc3 BK384.out; obtain ⟨hfz156_0, hfz156_1, hfz156_2⟩ := qf3 BK384.out; have hnb157 := NB386_345.out; have hnc157 := NB345_386.out; have hnb158 := NB386_352.out; have hnc158 := NB352_386.out; have hnb159 := NB386_357.out; have hnc159 := NB357_386.out; have hnb160 := NB386_362.out; have hnc160 := NB362_386.out; have hnb161 := NB386_367.out; have hnc161 := NB367_386.out; have hnb162 := NB386_372.out; have hnc162 := NB372_386.out; have hnb163 := NB386_377.out; have hnc163 := NB377_386.out; obtain ⟨hcz164_0, hcz164_1, hcz164_2⟩ := qc3 BK386.out; obtain ⟨hfz164_0, hfz164_1, hfz164_2⟩ := qf3 BK386.out) | (go_at_call 18; (refine (codicilref18_Same.calls kj23 t378 t379 _ _ t380 x387000_23 x387001_23 _ _ ([] : List (S30)) true _ ?side1 ?side2 ?side3 ?side4 A105.out).mono ?_); (case side1 => repeat (first | exact (Kd.R_reads' HO_385002.out).2.2 | (with_reducible refine Kd.C_alloc ?_ _) | (with_reducible refine Kd.C_drewN ?_ _) | (with_reducible refine Kd.C_drew ?_))); (case side2 => exact (Kd.R_reads' HO_385002.out).2.1); (case side3 => exact Kd.C_nil _ _); (case side4 => exact Nat.le_refl _); rintro e w165 ⟨rfl, hb⟩; have n0_ := qH (Kd.R_below (by (with_reducible repeat (first | apply Kd.R_alloc | apply Kd.R_drewN | apply Kd.R_drew)); exact HO_385002.out) hb); have n1_ := qH (qD (g := gb345) (by (with_reducible repeat first | apply qA | apply qC | apply qB); exact BK345.out) hb); have n2_ := qH (qD (g := gb352) (by (with_reducible repeat first | apply qA | apply qC | apply qB); exact BK352.out) hb); have n3_ := qH (qD (g := gb357) (by (with_reducible repeat first | apply qA | apply qC | apply qB); exact BK357.out) hb); have n4_ := qH (qD (g := gb362) (by (with_reducible repeat first | apply qA | apply qC | apply qB); exact BK362.out) hb); have n5_ := qH (qD (g := gb367) (by (with_reducible repeat first | apply qA | apply qC | apply qB); exact BK367.out) hb); have n6_ := qH (qD (g := gb372) (by (with_reducible repeat first | apply qA | apply qC | apply qB); exact BK372.out) hb); have n7_ := qH (qD (g := gb377) (by (with_reducible repeat first | apply qA | apply qC | apply qB); exact BK377.out) hb); have n8_ := qH (qD (g := gb384) (by (with_reducible repeat first | apply qA | apply qC | apply qB); exact BK384.out) hb); have n9_ := qH (qD (g := gb386) (by (with_reducible repeat first | apply qA | apply qC | apply qB); exact BK386.out) hb); have n10_ := qH (below_step (by repeat (first | (with_reducible first | exact HB.out | apply qL | apply qJ | apply qK | refine qI ?_ GE345.out | refine qI ?_ GE352.out | refine qI ?_ GE357.out | refine qI ?_ GE362.out | refine qI ?_ GE367.out | refine qI ?_ GE372.out | refine qI ?_ GE377.out | refine qI ?_ GE384.out | refine qI ?_ GE386.out) | exact HB.out)) hb); clear HO_385002; clear BK345; clear BK352; clear BK357; clear BK362; clear BK367; clear BK372; clear BK377; clear BK384; clear BK386; clear HB; have HO_385002 := n0_; have BK345 := n1_; have BK352 := n2_; have BK357 := n3_; have BK362 := n4_; have BK367 := n5_; have BK372 := n6_; have BK377 := n7_; have BK384 := n8_; have BK386 := n9_; have HB := n10_; clear n0_ n1_ n2_ n3_ n4_ n5_ n6_ n7_ n8_ n9_ n10_; (try clear hb); (try clear hb2); (try clear hk); (try clear hi)))
           go_meet
           case rel => exact ⟨_, ((t383 != 2)), (by first | rfl | (simp; done) | (simp [*]; done)), H', ⟨by have := HJ4.out; have := HJ23.out; first | omega | exact Nat.le_refl _⟩, ⟨by (with_reducible repeat (first | apply Kd.R_alloc | apply Kd.R_drewN | apply Kd.R_drew)); exact HO_385002.out⟩, ⟨by (with_reducible repeat first | apply qA | apply qC | apply qB); exact BK345.out⟩, ⟨by (with_reducible repeat first | apply qA | apply qC | apply qB); exact BK352.out⟩, ⟨by (with_reducible repeat first | apply qA | apply qC | apply qB); exact BK357.out⟩, ⟨by (with_reducible repeat first | apply qA | apply qC | apply qB); exact BK362.out⟩, ⟨by (with_reducible repeat first | apply qA | apply qC | apply qB); exact BK367.out⟩, ⟨by (with_reducible repeat first | apply qA | apply qC | apply qB); exact BK372.out⟩, ⟨by (with_reducible repeat first | apply qA | apply qC | apply qB); exact BK377.out⟩, ⟨by (with_reducible repeat first | apply qA | apply qC | apply qB); exact BK384.out⟩, ⟨by (with_reducible repeat first | apply qA | apply qC | apply qB); exact BK386.out⟩, ⟨by repeat (first | (with_reducible first | exact HB.out | apply qL | apply qJ | apply qK | refine qI ?_ GE345.out | refine qI ?_ GE352.out | refine qI ?_ GE357.out | refine qI ?_ GE362.out | refine qI ?_ GE367.out | refine qI ?_ GE372.out | refine qI ?_ GE377.out | refine qI ?_ GE384.out | refine qI ?_ GE386.out) | exact HB.out)⟩⟩
        ·replace c106 := Bool.eq_false_iff.mpr c106
         subst c106
         have H1 : (codicillaw18_SubjectTells.j2 kj23 t351 t356 t361 t366 t371 t376 true a0_0 a0_1 l0_2 t348 t349 t350 t353 t354 t355 t358 t359 t360 t363 t364 t365 t368 t369 t370 t373 t374 t375) = some r := by rw [if_neg (show ¬ (false = true) by decide)] at H; exact H
         clear H
         have H := H1
         clear H1
         have H' := qH H
         clear H
         go_wp2_with (first | ((with_reducible refine gate_callee (f := 27) rfl ?_); refine goesL_ (some 79) rfl rfl Try.func27 (by kernel_rfl) rfl #[.string a3] rfl (by (try simp only [List.map_toArray, List.map_cons, List.map_nil]); first | done | rfl | (simp only [List.length_drop, List.length_take]; rfl)) ?_; (with_reducible refine (subject_Name.calls a3 t387 _ A102.out).mono ?_); rintro e w166 ⟨rfl, hb⟩; refine ⟨_, rfl, ?_⟩; have n0_ := qH (Kd.R_below (by (with_reducible repeat (first | apply Kd.R_alloc | apply Kd.R_drewN | apply Kd.R_drew)); exact HO_385002.out) hb); have n1_ := qH (qD (g := gb345) (by (with_reducible repeat first | apply qA | apply qC | apply qB); exact BK345.out) hb); have n2_ := qH (qD (g := gb352) (by (with_reducible repeat first | apply qA | apply qC | apply qB); exact BK352.out) hb); have n3_ := qH (qD (g := gb357) (by (with_reducible repeat first | apply qA | apply qC | apply qB); exact BK357.out) hb); have n4_ := qH (qD (g := gb362) (by (with_reducible repeat first | apply qA | apply qC | apply qB); exact BK362.out) hb); have n5_ := qH (qD (g := gb367) (by (with_reducible repeat first | apply qA | apply qC | apply qB); exact BK367.out) hb); have n6_ := qH (qD (g := gb372) (by (with_reducible repeat first | apply qA | apply qC | apply qB); exact BK372.out) hb); have n7_ := qH (qD (g := gb377) (by (with_reducible repeat first | apply qA | apply qC | apply qB); exact BK377.out) hb); have n8_ := qH (qD (g := gb384) (by (with_reducible repeat first | apply qA | apply qC | apply qB); exact BK384.out) hb); have n9_ := qH (qD (g := gb386) (by (with_reducible repeat first | apply qA | apply qC | apply qB); exact BK386.out) hb); have n10_ := qH (below_step (by repeat (first | (with_reducible first | exact HB.out | apply qL | apply qJ | apply qK | refine qI ?_ GE345.out | refine qI ?_ GE352.out | refine qI ?_ GE357.out | refine qI ?_ GE362.out | refine qI ?_ GE367.out | refine qI ?_ GE372.out | refine qI ?_ GE377.out | refine qI ?_ GE384.out | refine qI ?_ GE386.out) | exact HB.out)) hb); clear HO_385002; clear BK345; clear BK352; clear BK357; clear BK362; clear BK367; clear BK372; clear BK377; clear BK384; clear BK386; clear HB; have HO_385002 := n0_; have BK345 := n1_; have BK352 := n2_; have BK357 := n3_; have BK362 := n4_; have BK367 := n5_; have BK372 := n6_; have BK377 := n7_; have BK384 := n8_; have BK386 := n9_; have HB := n10_; clear n0_ n1_ n2_ n3_ n4_ n5_ n6_ n7_ n8_ n9_ n10_; (try clear hb); (try clear hb2); (try clear hk); (try clear hi); have hnb167 := NB384_345.out; have hnc167 := NB345_384.out; have hnb168 := NB384_352.out; have hnc168 := NB352_384.out; have hnb169 := NB384_357.out; have hnc169 := NB357_384.out; have hnb170 := NB384_362.out; have hnc170 := NB362_384.out; have hnb171 := NB384_367.out; have hnc171 := NB367_384.out; have hnb172 := NB384_372.out; have hnc172 := NB372_384.out; have hnb173 := NB384_377.out; have hnc173 := NB377_384.out; have hnb174 := NB384_386.out; have hnc174 := NB386_384.out; obtain ⟨hcz175_0, hcz175_1, hcz175_2⟩ := qc3 BK384.out; obtain ⟨hfz175_0, hfz175_1, hfz175_2⟩ := qf3 BK384.out; have hnb176 := NB386_345.out; have hnc176 := NB345_386.out; have hnb177 := NB386_352.out; have hnc177 := NB352_386.out; have hnb178 := NB386_357.out; have hnc178 := NB357_386.out; have hnb179 := NB386_362.out; have hnc179 := NB362_386.out; have hnb180 := NB386_367.out; have hnc180 := NB367_386.out; have hnb181 := NB386_372.out; have hnc181 := NB372_386.out; have hnb182 := NB386_377.out; have hnc182 := NB377_386.out; obtain ⟨hcz183_0, hcz183_1, hcz183_2⟩ := qc3 BK386.out; obtain ⟨hfz183_0, hfz183_1, hfz183_2⟩ := qf3 BK386.out) | (go_at_call 18; (refine (codicilref18_Same.calls kj23 t378 t379 _ _ t380 x387000_23 x387001_23 _ _ ([] : List (S30)) false _ ?side1 ?side2 ?side3 ?side4 A105.out).mono ?_); (case side1 => repeat (first | exact (Kd.R_reads' HO_385002.out).2.2 | (with_reducible refine Kd.C_alloc ?_ _) | (with_reducible refine Kd.C_drewN ?_ _) | (with_reducible refine Kd.C_drew ?_))); (case side2 => exact (Kd.R_reads' HO_385002.out).2.1); (case side3 => exact Kd.C_nil _ _); (case side4 => exact Nat.le_refl _); rintro e w184 ⟨rfl, hb⟩; have n0_ := qH (Kd.R_below (by (with_reducible repeat (first | apply Kd.R_alloc | apply Kd.R_drewN | apply Kd.R_drew)); exact HO_385002.out) hb); have n1_ := qH (qD (g := gb345) (by (with_reducible repeat first | apply qA | apply qC | apply qB); exact BK345.out) hb); have n2_ := qH (qD (g := gb352) (by (with_reducible repeat first | apply qA | apply qC | apply qB); exact BK352.out) hb); have n3_ := qH (qD (g := gb357) (by (with_reducible repeat first | apply qA | apply qC | apply qB); exact BK357.out) hb); have n4_ := qH (qD (g := gb362) (by (with_reducible repeat first | apply qA | apply qC | apply qB); exact BK362.out) hb); have n5_ := qH (qD (g := gb367) (by (with_reducible repeat first | apply qA | apply qC | apply qB); exact BK367.out) hb); have n6_ := qH (qD (g := gb372) (by (with_reducible repeat first | apply qA | apply qC | apply qB); exact BK372.out) hb); have n7_ := qH (qD (g := gb377) (by (with_reducible repeat first | apply qA | apply qC | apply qB); exact BK377.out) hb); have n8_ := qH (qD (g := gb384) (by (with_reducible repeat first | apply qA | apply qC | apply qB); exact BK384.out) hb); have n9_ := qH (qD (g := gb386) (by (with_reducible repeat first | apply qA | apply qC | apply qB); exact BK386.out) hb); have n10_ := qH (below_step (by repeat (first | (with_reducible first | exact HB.out | apply qL | apply qJ | apply qK | refine qI ?_ GE345.out | refine qI ?_ GE352.out | refine qI ?_ GE357.out | refine qI ?_ GE362.out | refine qI ?_ GE367.out | refine qI ?_ GE372.out | refine qI ?_ GE377.out | refine qI ?_ GE384.out | refine qI ?_ GE386.out) | exact HB.out)) hb); clear HO_385002; clear BK345; clear BK352; clear BK357; clear BK362; clear BK367; clear BK372; clear BK377; clear BK384; clear BK386; clear HB; have HO_385002 := n0_; have BK345 := n1_; have BK352 := n2_; have BK357 := n3_; have BK362 := n4_; have BK367 := n5_; have BK372 := n6_; have BK377 := n7_; have BK384 := n8_; have BK386 := n9_; have HB := n10_; clear n0_ n1_ n2_ n3_ n4_ n5_ n6_ n7_ n8_ n9_ n10_; (try clear hb); (try clear hb2); (try clear hk); (try clear hi)))
         go_meet
         case rel => exact ⟨_, (true), (by first | rfl | (simp; done) | (simp [*]; done)), H', ⟨by have := HJ4.out; have := HJ23.out; first | omega | exact Nat.le_refl _⟩, ⟨by (with_reducible repeat (first | apply Kd.R_alloc | apply Kd.R_drewN | apply Kd.R_drew)); exact HO_385002.out⟩, ⟨by (with_reducible repeat first | apply qA | apply qC | apply qB); exact BK345.out⟩, ⟨by (with_reducible repeat first | apply qA | apply qC | apply qB); exact BK352.out⟩, ⟨by (with_reducible repeat first | apply qA | apply qC | apply qB); exact BK357.out⟩, ⟨by (with_reducible repeat first | apply qA | apply qC | apply qB); exact BK362.out⟩, ⟨by (with_reducible repeat first | apply qA | apply qC | apply qB); exact BK367.out⟩, ⟨by (with_reducible repeat first | apply qA | apply qC | apply qB); exact BK372.out⟩, ⟨by (with_reducible repeat first | apply qA | apply qC | apply qB); exact BK377.out⟩, ⟨by (with_reducible repeat first | apply qA | apply qC | apply qB); exact BK384.out⟩, ⟨by (with_reducible repeat first | apply qA | apply qC | apply qB); exact BK386.out⟩, ⟨by repeat (first | (with_reducible first | exact HB.out | apply qL | apply qJ | apply qK | refine qI ?_ GE345.out | refine qI ?_ GE352.out | refine qI ?_ GE357.out | refine qI ?_ GE362.out | refine qI ?_ GE367.out | refine qI ?_ GE372.out | refine qI ?_ GE377.out | refine qI ?_ GE384.out | refine qI ?_ GE386.out) | exact HB.out)⟩⟩
      case rest =>
       clear HC101
       try clear c1
       try clear c2
       try clear p2
       try clear c3
       try clear c4
       try clear c5
       try clear c6
       try clear c7
       try clear c8
       try clear c9
       try clear c10
       try clear c11
       try clear c12
       try clear c13
       try clear c14
       try clear c15
       try clear c16
       try clear c17
       try clear c18
       try clear c19
       try clear c20
       try clear c21
       try clear c22
       try clear c23
       try clear c24
       try clear c25
       try clear c26
       try clear c27
       try clear c28
       try clear c33
       try clear c34
       try clear c39
       try clear c40
       try clear c41
       try clear c46
       try clear c47
       try clear c48
       try clear c49
       try clear c54
       try clear c55
       try clear c56
       try clear c57
       try clear c58
       try clear c63
       try clear c64
       try clear c65
       try clear c66
       try clear c67
       try clear c68
       try clear c72
       try clear c73
       try clear c74
       try clear c75
       try clear c76
       try clear c77
       try clear c78
       try clear c82
       try clear c83
       try clear c84
       try clear c85
       try clear c86
       try clear c87
       try clear c88
       try clear c89
       try clear c91
       try clear c92
       try clear c93
       try clear c94
       try clear c95
       try clear c96
       try clear c97
       try clear c98
       try clear c99
       try clear c103
       try clear c103b0
       try clear c103b1
       try clear c103b2
       try clear c106
       try clear c107
       try clear c107b0
       try clear c107b1
       try clear c107b2
       try clear c109
       try clear c110
       try clear c111
       try clear c112
       try clear c113
       try clear c114
       try clear c115
       try clear c116
       try clear c118
       try clear c119
       try clear c120
       try clear c121
       try clear c122
       try clear c123
       try clear c124
       try clear c127
       try clear c129
       try clear c130
       try clear c131
       try clear c132
       try clear c133
       try clear c134
       try clear c135
       try clear c136
       try clear c138
       try clear c139
       try clear c140
       try clear c141
       try clear c142
       try clear c143
       try clear c144
       try clear c148
       try clear c149
       try clear c150
       try clear c151
       try clear c152
       try clear c153
       try clear c154
       try clear c155
       try clear c157
       try clear c158
       try clear c159
       try clear c160
       try clear c161
       try clear c162
       try clear c163
       try clear c167
       try clear c168
       try clear c169
       try clear c170
       try clear c171
       try clear c172
       try clear c173
       try clear c174
       try clear c176
       try clear c177
       try clear c178
       try clear c179
       try clear c180
       try clear c181
       try clear c182
       try clear hcz100_0
       try clear hcz100_1
       try clear hcz100_2
       try clear hcz117_0
       try clear hcz117_1
       try clear hcz117_2
       try clear hcz11_0
       try clear hcz11_1
       try clear hcz11_2
       try clear hcz125_0
       try clear hcz125_1
       try clear hcz125_2
       try clear hcz137_0
       try clear hcz137_1
       try clear hcz137_2
       try clear hcz145_0
       try clear hcz145_1
       try clear hcz145_2
       try clear hcz156_0
       try clear hcz156_1
       try clear hcz156_2
       try clear hcz164_0
       try clear hcz164_1
       try clear hcz164_2
       try clear hcz175_0
       try clear hcz175_1
       try clear hcz175_2
       try clear hcz183_0
       try clear hcz183_1
       try clear hcz183_2
       try clear hcz25_0
       try clear hcz25_1
       try clear hcz25_2
       try clear hcz29_0
       try clear hcz29_1
       try clear hcz29_2
       try clear hcz30_0
       try clear hcz30_1
       try clear hcz30_2
       try clear hcz35_0
       try clear hcz35_1
       try clear hcz35_2
       try clear hcz36_0
       try clear hcz36_1
       try clear hcz36_2
       try clear hcz42_0
       try clear hcz42_1
       try clear hcz42_2
       try clear hcz43_0
       try clear hcz43_1
       try clear hcz43_2
       try clear hcz50_0
       try clear hcz50_1
       try clear hcz50_2
       try clear hcz51_0
       try clear hcz51_1
       try clear hcz51_2
       try clear hcz59_0
       try clear hcz59_1
       try clear hcz59_2
       try clear hcz60_0
       try clear hcz60_1
       try clear hcz60_2
       try clear hcz69_0
       try clear hcz69_1
       try clear hcz69_2
       try clear hcz79_0
       try clear hcz79_1
       try clear hcz79_2
       try clear hcz90_0
       try clear hcz90_1
       try clear hcz90_2
       try clear hcz9_0
       try clear hcz9_1
       try clear hcz9_2
       try clear hfz100_0
       try clear hfz100_1
       try clear hfz100_2
       try clear hfz117_0
       try clear hfz117_1
       try clear hfz117_2
       try clear hfz11_0
       try clear hfz11_1
       try clear hfz11_2
       try clear hfz125_0
       try clear hfz125_1
       try clear hfz125_2
       try clear hfz137_0
       try clear hfz137_1
       try clear hfz137_2
       try clear hfz145_0
       try clear hfz145_1
       try clear hfz145_2
       try clear hfz156_0
       try clear hfz156_1
       try clear hfz156_2
       try clear hfz164_0
       try clear hfz164_1
       try clear hfz164_2
       try clear hfz175_0
       try clear hfz175_1
       try clear hfz175_2
       try clear hfz183_0
       try clear hfz183_1
       try clear hfz183_2
       try clear hfz25_0
       try clear hfz25_1
       try clear hfz25_2
       try clear hfz29_0
       try clear hfz29_1
       try clear hfz29_2
       try clear hfz30_0
       try clear hfz30_1
       try clear hfz30_2
       try clear hfz35_0
       try clear hfz35_1
       try clear hfz35_2
       try clear hfz36_0
       try clear hfz36_1
       try clear hfz36_2
       try clear hfz42_0
       try clear hfz42_1
       try clear hfz42_2
       try clear hfz43_0
       try clear hfz43_1
       try clear hfz43_2
       try clear hfz50_0
       try clear hfz50_1
       try clear hfz50_2
       try clear hfz51_0
       try clear hfz51_1
       try clear hfz51_2
       try clear hfz59_0
       try clear hfz59_1
       try clear hfz59_2
       try clear hfz60_0
       try clear hfz60_1
       try clear hfz60_2
       try clear hfz69_0
       try clear hfz69_1
       try clear hfz69_2
       try clear hfz79_0
       try clear hfz79_1
       try clear hfz79_2
       try clear hfz90_0
       try clear hfz90_1
       try clear hfz90_2
       try clear hfz9_0
       try clear hfz9_1
       try clear hfz9_2
       try clear p2
       obtain ⟨kq, x101_100, rfl, HA, HJ100, HO_385002, BK345, BK352, BK357, BK362, BK367, BK372, BK377, BK384, BK386, HB⟩ := hcut
       cases kq with
       | zero => exact absurd HA.out (by simp [codicillaw18_SubjectTells.j2])
       | succ kj100 =>
        have H := HA.out
        clear HA
        simp only [codicillaw18_SubjectTells.j2] at H
        by_cases c185 : x101_100 = true
        ·subst c185
         have H1 : (some false) = some r := by rw [if_pos rfl] at H; exact H
         clear H
         have H := H1
         clear H1
         obtain rfl := Option.some.inj H
         exact absurd hTrue.out (by decide)
        ·replace c185 := Bool.eq_false_iff.mpr c185
         subst c185
         have H1 : ((subject_May.f a0_0 a0_1 l0_2).bind fun t389 => ((codicilref18_May.f kj100 a0_0 a0_1 l0_2).bind fun t390 => (if t389 = t390 then ((subject_Live.f kj100 a0_0 a0_1 l0_2).bind fun t391 => ((codicilref18_Live.f kj100 a0_0 a0_1 l0_2).bind fun t394 => ((codicillaw18_same.f kj100 t391 t394).bind fun t397 => (if t397 = true then (if (t348 == t353 && (t349 == t354 && (t350 == t355))) = true then (if (t351 == t356) = true then (if (t358 == t363 && (t359 == t364 && (t360 == t365))) = true then (if (t361 == t366) = true then (if (t368 == t373 && (t369 == t374 && (t370 == t375))) = true then (if (t371 == t376) = true then ((codicillaw18_alive.f kj100).bind fun t398 => (some t398)) else (some false)) else (some false)) else (some false)) else (some false)) else (some false)) else (some false)) else (some false))))) else (some false)))) = some r := by rw [if_neg (show ¬ (false = true) by decide)] at H; exact H
         clear H
         have H := H1
         clear H1
         replace H := Option.bind_eq_some_iff.mp H
         obtain ⟨t389, A1860, H⟩ := H
         (try dsimp only at H)
         have A186 := qH A1860
         clear A1860
         replace H := Option.bind_eq_some_iff.mp H
         obtain ⟨t390, A1870, H⟩ := H
         (try dsimp only at H)
         have A187 := qH A1870
         clear A1870
         by_cases c188 : t389 = t390
         ·rw [if_pos c188] at H
          have c188b0 : (t389 == t390) = true := beq_iff_eq.mpr c188
          have c188b1 : (t389 != t390) = false := bne_eq_false_iff_eq.mpr c188
          clear c188
          replace H := Option.bind_eq_some_iff.mp H
          obtain ⟨t391, A1890, H⟩ := H
          (try dsimp only at H)
          have A189 := qH A1890
          clear A1890
          replace H := Option.bind_eq_some_iff.mp H
          obtain ⟨t394, A1900, H⟩ := H
          (try dsimp only at H)
          have A190 := qH A1900
          clear A1900
          replace H := Option.bind_eq_some_iff.mp H
          obtain ⟨t397, A1910, H⟩ := H
          (try dsimp only at H)
          have A191 := qH A1910
          clear A1910
          by_cases c192 : t397 = true
          ·subst c192
           have H1 : (if (t348 == t353 && (t349 == t354 && (t350 == t355))) = true then (if (t351 == t356) = true then (if (t358 == t363 && (t359 == t364 && (t360 == t365))) = true then (if (t361 == t366) = true then (if (t368 == t373 && (t369 == t374 && (t370 == t375))) = true then (if (t371 == t376) = true then ((codicillaw18_alive.f kj100).bind fun t398 => (some t398)) else (some false)) else (some false)) else (some false)) else (some false)) else (some false)) else (some false)) = some r := by rw [if_pos rfl] at H; exact H
           clear H
           have H := H1
           clear H1
           by_cases c193 : (t348 == t353 && (t349 == t354 && (t350 == t355))) = true
           ·rw [if_pos c193] at H
            have c193b0 : (t348 == t353 && (t349 == t354 && (t350 == t355))) = true := c193
            (try (have c193b1 : decide (t348 = t353 && (t349 == t354 && (t350 == t355))) = true := by simpa using c193))
            (try (have c193b2 : (t348 == t353 && (t349 == t354 && (t350 == t355))) = true := by simpa using c193))
            clear c193
            by_cases c194 : (t351 == t356) = true
            ·rw [if_pos c194] at H
             have c194b0 : (t351 == t356) = true := c194
             (try (have c194b1 : decide (t351 = t356) = true := by simpa using c194))
             (try (have c194b2 : (t351 == t356) = true := by simpa using c194))
             clear c194
             by_cases c195 : (t358 == t363 && (t359 == t364 && (t360 == t365))) = true
             ·rw [if_pos c195] at H
              have c195b0 : (t358 == t363 && (t359 == t364 && (t360 == t365))) = true := c195
              (try (have c195b1 : decide (t358 = t363 && (t359 == t364 && (t360 == t365))) = true := by simpa using c195))
              (try (have c195b2 : (t358 == t363 && (t359 == t364 && (t360 == t365))) = true := by simpa using c195))
              clear c195
              by_cases c196 : (t361 == t366) = true
              ·rw [if_pos c196] at H
               have c196b0 : (t361 == t366) = true := c196
               (try (have c196b1 : decide (t361 = t366) = true := by simpa using c196))
               (try (have c196b2 : (t361 == t366) = true := by simpa using c196))
               clear c196
               by_cases c197 : (t368 == t373 && (t369 == t374 && (t370 == t375))) = true
               ·rw [if_pos c197] at H
                have c197b0 : (t368 == t373 && (t369 == t374 && (t370 == t375))) = true := c197
                (try (have c197b1 : decide (t368 = t373 && (t369 == t374 && (t370 == t375))) = true := by simpa using c197))
                (try (have c197b2 : (t368 == t373 && (t369 == t374 && (t370 == t375))) = true := by simpa using c197))
                clear c197
                by_cases c198 : (t371 == t376) = true
                ·rw [if_pos c198] at H
                 have c198b0 : (t371 == t376) = true := c198
                 (try (have c198b1 : decide (t371 = t376) = true := by simpa using c198))
                 (try (have c198b2 : (t371 == t376) = true := by simpa using c198))
                 clear c198
                 replace H := Option.bind_eq_some_iff.mp H
                 obtain ⟨t398, A1990, H⟩ := H
                 (try dsimp only at H)
                 have A199 := qH A1990
                 clear A1990
                 obtain rfl := Option.some.inj H
                 simp only [Option.some.injEq, Prod.mk.injEq] at H
                 obtain ⟨rfl⟩ := H
                 try go_wp2
                 have n0_ := qH (Kd.R_drew HO_385002.out)
                 have n1_ := qH (qC BK345.out)
                 have n2_ := qH (qC BK352.out)
                 have n3_ := qH (qC BK357.out)
                 have n4_ := qH (qC BK362.out)
                 have n5_ := qH (qC BK367.out)
                 have n6_ := qH (qC BK372.out)
                 have n7_ := qH (qC BK377.out)
                 have n8_ := qH (qC BK384.out)
                 have n9_ := qH (qC BK386.out)
                 have n10_ := qH (qK HB.out)
                 clear HO_385002
                 clear BK345
                 clear BK352
                 clear BK357
                 clear BK362
                 clear BK367
                 clear BK372
                 clear BK377
                 clear BK384
                 clear BK386
                 clear HB
                 have HO_385002 := n0_
                 have BK345 := n1_
                 have BK352 := n2_
                 have BK357 := n3_
                 have BK362 := n4_
                 have BK367 := n5_
                 have BK372 := n6_
                 have BK377 := n7_
                 have BK384 := n8_
                 have BK386 := n9_
                 have HB := n10_
                 clear n0_ n1_ n2_ n3_ n4_ n5_ n6_ n7_ n8_ n9_ n10_
                 refine start_ (n := 46) (S := fun w' => w'.cell? ⟨gb345, 0, none⟩ = some (.string a0_0) ∧ w'.cell? ⟨gb345, 1, none⟩ = some (.int .i64 a0_1) ∧ w'.cell? ⟨gb345, 2, none⟩ = some (.slice A0_2 l0_2.length c0_2) ∧ w'.cell? ⟨gb352, 0, none⟩ = some (.int .i64 t348) ∧ w'.cell? ⟨gb352, 1, none⟩ = some (.int .u32 t349) ∧ w'.cell? ⟨gb352, 2, none⟩ = some (.bool t350) ∧ w'.cell? ⟨gb357, 0, none⟩ = some (.int .i64 t353) ∧ w'.cell? ⟨gb357, 1, none⟩ = some (.int .u32 t354) ∧ w'.cell? ⟨gb357, 2, none⟩ = some (.bool t355) ∧ w'.cell? ⟨gb362, 0, none⟩ = some (.int .i64 t358) ∧ w'.cell? ⟨gb362, 1, none⟩ = some (.int .u32 t359) ∧ w'.cell? ⟨gb362, 2, none⟩ = some (.bool t360) ∧ w'.cell? ⟨gb367, 0, none⟩ = some (.int .i64 t363) ∧ w'.cell? ⟨gb367, 1, none⟩ = some (.int .u32 t364) ∧ w'.cell? ⟨gb367, 2, none⟩ = some (.bool t365) ∧ w'.cell? ⟨gb372, 0, none⟩ = some (.int .i64 t368) ∧ w'.cell? ⟨gb372, 1, none⟩ = some (.int .u32 t369) ∧ w'.cell? ⟨gb372, 2, none⟩ = some (.bool t370) ∧ w'.cell? ⟨gb377, 0, none⟩ = some (.int .i64 t373) ∧ w'.cell? ⟨gb377, 1, none⟩ = some (.int .u32 t374) ∧ w'.cell? ⟨gb377, 2, none⟩ = some (.bool t375)) (ds := []) #[false, false, false, false, false, false, false, false, false, false, false, false, false, false, false, false, false, false, false, false, false, false, false, false, false, false, false, false, false, false, false, false, false, false, false, false, false, false, false, false, false, false, false, false, false, false] (by kernel_rfl) rfl rfl ⟨(qE BK345.out 0).trans rfl, (qE BK345.out 1).trans rfl, (qE BK345.out 2).trans rfl, (qE BK352.out 0).trans rfl, (qE BK352.out 1).trans rfl, (qE BK352.out 2).trans rfl, (qE BK357.out 0).trans rfl, (qE BK357.out 1).trans rfl, (qE BK357.out 2).trans rfl, (qE BK362.out 0).trans rfl, (qE BK362.out 1).trans rfl, (qE BK362.out 2).trans rfl, (qE BK367.out 0).trans rfl, (qE BK367.out 1).trans rfl, (qE BK367.out 2).trans rfl, (qE BK372.out 0).trans rfl, (qE BK372.out 1).trans rfl, (qE BK372.out 2).trans rfl, (qE BK377.out 0).trans rfl, (qE BK377.out 1).trans rfl, (qE BK377.out 2).trans rfl⟩ (fun hHeld => ?_); refine with_tabW codicillaw18_SubjectTells.tab16 codicillaw18_SubjectTells.bits16 (fun HT_ HW_ => ?_)
                 generalize wc.drew = w200 at HO_385002 BK345 BK352 BK357 BK362 BK367 BK372 BK377 BK384 BK386 HB hHeld ⊢
                 refine take_ (i := 0) (N := some 102) (v := ?_) (a' := ?_) #[true, false, false, false, false, false, false, false, false, false, false, false, false, false, false, false, false, false, false, false, false, false, false, false, false, false, false, false, false, false, false, false, false, false, false, false, false, false, false, false, false, false, false, false, false, false] rfl rfl (take_ofW HT_.out HW_.out (by kernel_rfl)) (fun _ _ _ h => h) (Or.inl ⟨by rfl, ?_⟩) hHeld ?_ ?_
                 rotate_left
                 ·rintro w' ⟨s0, s1, s2, s3, s4, s5, s6, s7, s8, s9, s10, s11, s12, s13, s14, s15, s16, s17, s18, s19, s20⟩
                  go_simp
                  with_reducible rfl
                 rotate_left
                 ·simp only [Act.put, List.setIfInBounds_toArray, List.set_cons_zero, List.set_cons_succ, i64_w, i32_w]
                  rfl
                 refine take_ (i := 2) (N := some 104) (v := ?_) (a' := ?_) #[true, false, true, false, false, false, false, false, false, false, false, false, false, false, false, false, false, false, false, false, false, false, false, false, false, false, false, false, false, false, false, false, false, false, false, false, false, false, false, false, false, false, false, false, false, false] rfl rfl (take_ofW HT_.out HW_.out (by kernel_rfl)) (fun _ _ _ h => h) (Or.inl ⟨by rfl, ?_⟩) hHeld ?_ ?_
                 rotate_left
                 ·rintro w' ⟨s0, s1, s2, s3, s4, s5, s6, s7, s8, s9, s10, s11, s12, s13, s14, s15, s16, s17, s18, s19, s20⟩
                  go_simp
                  with_reducible rfl
                 rotate_left
                 ·simp only [Act.put, List.setIfInBounds_toArray, List.set_cons_zero, List.set_cons_succ, i64_w, i32_w]
                  rfl
                 refine one_ (i := 1) (N := some 103) #[true, true, true, false, false, false, false, false, false, false, false, false, false, false, false, false, false, false, false, false, false, false, false, false, false, false, false, false, false, false, false, false, false, false, false, false, false, false, false, false, false, false, false, false, false, false] rfl rfl (one_of HT_.out (by kernel_rfl)) (by decide) (fun K hK => ?_)
                 refine goes_ Try.func28 (by kernel_rfl) rfl #[.agg #[.string a0_0, .int .i64 a0_1, .slice A0_2 l0_2.length c0_2]] (by rfl) rfl rfl (by (try simp only [List.map_toArray, List.map_cons, List.map_nil]); first | done | rfl | (simp only [List.length_drop, List.length_take]; rfl)) ?_
                 with_reducible refine (subject_May.calls a0_0 a0_1 _ _ l0_2 t389 _ ?side1 ?side2 A186.out).mono ?_
                 (case side1 => repeat (first | exact (Kd.C_below HR0_2.out HB.out) | (with_reducible refine Kd.C_alloc ?_ _) | (with_reducible refine Kd.C_drewN ?_ _) | (with_reducible refine Kd.C_drew ?_)))
                 (case side2 => exact HC0_2.out)
                 rintro e w201 ⟨rfl, hb⟩
                 refine ⟨_, rfl, ?_⟩
                 have n0_ := qH (Kd.R_below (by (with_reducible repeat (first | apply Kd.R_alloc | apply Kd.R_drewN | apply Kd.R_drew)); exact HO_385002.out) hb)
                 have n1_ := qH (qD (g := gb345) (by (with_reducible repeat first | apply qA | apply qC | apply qB); exact BK345.out) hb)
                 have n2_ := qH (qD (g := gb352) (by (with_reducible repeat first | apply qA | apply qC | apply qB); exact BK352.out) hb)
                 have n3_ := qH (qD (g := gb357) (by (with_reducible repeat first | apply qA | apply qC | apply qB); exact BK357.out) hb)
                 have n4_ := qH (qD (g := gb362) (by (with_reducible repeat first | apply qA | apply qC | apply qB); exact BK362.out) hb)
                 have n5_ := qH (qD (g := gb367) (by (with_reducible repeat first | apply qA | apply qC | apply qB); exact BK367.out) hb)
                 have n6_ := qH (qD (g := gb372) (by (with_reducible repeat first | apply qA | apply qC | apply qB); exact BK372.out) hb)
                 have n7_ := qH (qD (g := gb377) (by (with_reducible repeat first | apply qA | apply qC | apply qB); exact BK377.out) hb)
                 have n8_ := qH (qD (g := gb384) (by (with_reducible repeat first | apply qA | apply qC | apply qB); exact BK384.out) hb)
                 have n9_ := qH (qD (g := gb386) (by (with_reducible repeat first | apply qA | apply qC | apply qB); exact BK386.out) hb)
                 have n10_ := qH (below_step (by repeat (first | (with_reducible first | exact HB.out | apply qL | apply qJ | apply qK | refine qI ?_ GE345.out | refine qI ?_ GE352.out | refine qI ?_ GE357.out | refine qI ?_ GE362.out | refine qI ?_ GE367.out | refine qI ?_ GE372.out | refine qI ?_ GE377.out | refine qI ?_ GE384.out | refine qI ?_ GE386.out) | exact HB.out)) hb)
                 clear HO_385002
                 clear BK345
                 clear BK352
                 clear BK357
                 clear BK362
                 clear BK367
                 clear BK372
                 clear BK377
                 clear BK384
                 clear BK386
                 clear HB
                 have HO_385002 := n0_
                 have BK345 := n1_
                 have BK352 := n2_
                 have BK357 := n3_
                 have BK362 := n4_
                 have BK367 := n5_
                 have BK372 := n6_
                 have BK377 := n7_
                 have BK384 := n8_
                 have BK386 := n9_
                 have HB := n10_
                 clear n0_ n1_ n2_ n3_ n4_ n5_ n6_ n7_ n8_ n9_ n10_
                 (try clear hb)
                 (try clear hb2)
                 (try clear hk)
                 (try clear hi)
                 refine hK.out _ _ ⟨(qE BK345.out 0).trans rfl, (qE BK345.out 1).trans rfl, (qE BK345.out 2).trans rfl, (qE BK352.out 0).trans rfl, (qE BK352.out 1).trans rfl, (qE BK352.out 2).trans rfl, (qE BK357.out 0).trans rfl, (qE BK357.out 1).trans rfl, (qE BK357.out 2).trans rfl, (qE BK362.out 0).trans rfl, (qE BK362.out 1).trans rfl, (qE BK362.out 2).trans rfl, (qE BK367.out 0).trans rfl, (qE BK367.out 1).trans rfl, (qE BK367.out 2).trans rfl, (qE BK372.out 0).trans rfl, (qE BK372.out 1).trans rfl, (qE BK372.out 2).trans rfl, (qE BK377.out 0).trans rfl, (qE BK377.out 1).trans rfl, (qE BK377.out 2).trans rfl⟩ (fun hHeld => ?_)
                 clear hK K
                 refine norm_ (a' := ?_) ?_ ?_
                 rotate_left
                 ·show Act.put _ (some 103) _ = _
                  simp only [Act.put, List.setIfInBounds_toArray, List.set_cons_zero, List.set_cons_succ, i64_w, i32_w]
                  rfl
                 refine one_ (i := 3) (N := some 105) #[true, true, true, true, false, false, false, false, false, false, false, false, false, false, false, false, false, false, false, false, false, false, false, false, false, false, false, false, false, false, false, false, false, false, false, false, false, false, false, false, false, false, false, false, false, false] rfl rfl (one_of HT_.out (by kernel_rfl)) (by decide) (fun K hK => ?_)
                 refine goes_ Try.func29 (by kernel_rfl) rfl #[.agg #[.string a0_0, .int .i64 a0_1, .slice A0_2 l0_2.length c0_2]] (by rfl) rfl rfl (by (try simp only [List.map_toArray, List.map_cons, List.map_nil]); first | done | rfl | (simp only [List.length_drop, List.length_take]; rfl)) ?_
                 with_reducible refine (codicilref18_May.calls kj100 a0_0 a0_1 _ _ l0_2 t390 _ ?side1 ?side2 A187.out).mono ?_
                 (case side1 => repeat (first | exact (Kd.C_below HR0_2.out HB.out) | (with_reducible refine Kd.C_alloc ?_ _) | (with_reducible refine Kd.C_drewN ?_ _) | (with_reducible refine Kd.C_drew ?_)))
                 (case side2 => exact HC0_2.out)
                 rintro e w202 ⟨rfl, hb⟩
                 refine ⟨_, rfl, ?_⟩
                 have n0_ := qH (Kd.R_below (by (with_reducible repeat (first | apply Kd.R_alloc | apply Kd.R_drewN | apply Kd.R_drew)); exact HO_385002.out) hb)
                 have n1_ := qH (qD (g := gb345) (by (with_reducible repeat first | apply qA | apply qC | apply qB); exact BK345.out) hb)
                 have n2_ := qH (qD (g := gb352) (by (with_reducible repeat first | apply qA | apply qC | apply qB); exact BK352.out) hb)
                 have n3_ := qH (qD (g := gb357) (by (with_reducible repeat first | apply qA | apply qC | apply qB); exact BK357.out) hb)
                 have n4_ := qH (qD (g := gb362) (by (with_reducible repeat first | apply qA | apply qC | apply qB); exact BK362.out) hb)
                 have n5_ := qH (qD (g := gb367) (by (with_reducible repeat first | apply qA | apply qC | apply qB); exact BK367.out) hb)
                 have n6_ := qH (qD (g := gb372) (by (with_reducible repeat first | apply qA | apply qC | apply qB); exact BK372.out) hb)
                 have n7_ := qH (qD (g := gb377) (by (with_reducible repeat first | apply qA | apply qC | apply qB); exact BK377.out) hb)
                 have n8_ := qH (qD (g := gb384) (by (with_reducible repeat first | apply qA | apply qC | apply qB); exact BK384.out) hb)
                 have n9_ := qH (qD (g := gb386) (by (with_reducible repeat first | apply qA | apply qC | apply qB); exact BK386.out) hb)
                 have n10_ := qH (below_step (by repeat (first | (with_reducible first | exact HB.out | apply qL | apply qJ | apply qK | refine qI ?_ GE345.out | refine qI ?_ GE352.out | refine qI ?_ GE357.out | refine qI ?_ GE362.out | refine qI ?_ GE367.out | refine qI ?_ GE372.out | refine qI ?_ GE377.out | refine qI ?_ GE384.out | refine qI ?_ GE386.out) | exact HB.out)) hb)
                 clear HO_385002
                 clear BK345
                 clear BK352
                 clear BK357
                 clear BK362
                 clear BK367
                 clear BK372
                 clear BK377
                 clear BK384
                 clear BK386
                 clear HB
                 have HO_385002 := n0_
                 have BK345 := n1_
                 have BK352 := n2_
                 have BK357 := n3_
                 have BK362 := n4_
                 have BK367 := n5_
                 have BK372 := n6_
                 have BK377 := n7_
                 have BK384 := n8_
                 have BK386 := n9_
                 have HB := n10_
                 clear n0_ n1_ n2_ n3_ n4_ n5_ n6_ n7_ n8_ n9_ n10_
                 (try clear hb)
                 (try clear hb2)
                 (try clear hk)
                 (try clear hi)
                 refine hK.out _ _ ⟨(qE BK345.out 0).trans rfl, (qE BK345.out 1).trans rfl, (qE BK345.out 2).trans rfl, (qE BK352.out 0).trans rfl, (qE BK352.out 1).trans rfl, (qE BK352.out 2).trans rfl, (qE BK357.out 0).trans rfl, (qE BK357.out 1).trans rfl, (qE BK357.out 2).trans rfl, (qE BK362.out 0).trans rfl, (qE BK362.out 1).trans rfl, (qE BK362.out 2).trans rfl, (qE BK367.out 0).trans rfl, (qE BK367.out 1).trans rfl, (qE BK367.out 2).trans rfl, (qE BK372.out 0).trans rfl, (qE BK372.out 1).trans rfl, (qE BK372.out 2).trans rfl, (qE BK377.out 0).trans rfl, (qE BK377.out 1).trans rfl, (qE BK377.out 2).trans rfl⟩ (fun hHeld => ?_)
                 clear hK K
                 refine norm_ (a' := ?_) ?_ ?_
                 rotate_left
                 ·show Act.put _ (some 105) _ = _
                  simp only [Act.put, List.setIfInBounds_toArray, List.set_cons_zero, List.set_cons_succ, i64_w, i32_w]
                  rfl
                 refine pure_ (i := 4) (N := some 106) (v := ?_) (a' := ?_) #[true, true, true, true, true, false, false, false, false, false, false, false, false, false, false, false, false, false, false, false, false, false, false, false, false, false, false, false, false, false, false, false, false, false, false, false, false, false, false, false, false, false, false, false, false, false] rfl rfl (any_of HT_.out (by kernel_rfl)) (fun _ _ _ h => h) (Or.inl ⟨by rfl, ?_⟩) ?_ ?_
                 rotate_left
                 ·intro w'
                  go_simp
                  with_reducible rfl
                 rotate_left
                 ·simp only [Act.put, List.setIfInBounds_toArray, List.set_cons_zero, List.set_cons_succ, i64_w, i32_w]
                  rfl
                 refine pure_ (i := 5) (N := some 107) (v := ?_) (a' := ?_) #[true, true, true, true, true, true, false, false, false, false, false, false, false, false, false, false, false, false, false, false, false, false, false, false, false, false, false, false, false, false, false, false, false, false, false, false, false, false, false, false, false, false, false, false, false, false] rfl rfl (any_of HT_.out (by kernel_rfl)) (fun _ _ _ h => h) (Or.inl ⟨by rfl, ?_⟩) ?_ ?_
                 rotate_left
                 ·intro w'
                  go_simp
                  with_reducible rfl
                 rotate_left
                 ·simp only [Act.put, List.setIfInBounds_toArray, List.set_cons_zero, List.set_cons_succ, i64_w, i32_w]
                  rfl
                 refine take_ (i := 6) (N := some 108) (v := ?_) (a' := ?_) #[true, true, true, true, true, true, true, false, false, false, false, false, false, false, false, false, false, false, false, false, false, false, false, false, false, false, false, false, false, false, false, false, false, false, false, false, false, false, false, false, false, false, false, false, false, false] rfl rfl (take_ofW HT_.out HW_.out (by kernel_rfl)) (fun _ _ _ h => h) (Or.inl ⟨by rfl, ?_⟩) hHeld ?_ ?_
                 rotate_left
                 ·rintro w' ⟨s0, s1, s2, s3, s4, s5, s6, s7, s8, s9, s10, s11, s12, s13, s14, s15, s16, s17, s18, s19, s20⟩
                  go_simp
                  with_reducible rfl
                 rotate_left
                 ·simp only [Act.put, List.setIfInBounds_toArray, List.set_cons_zero, List.set_cons_succ, i64_w, i32_w]
                  rfl
                 refine take_ (i := 8) (N := some 110) (v := ?_) (a' := ?_) #[true, true, true, true, true, true, true, false, true, false, false, false, false, false, false, false, false, false, false, false, false, false, false, false, false, false, false, false, false, false, false, false, false, false, false, false, false, false, false, false, false, false, false, false, false, false] rfl rfl (take_ofW HT_.out HW_.out (by kernel_rfl)) (fun _ _ _ h => h) (Or.inl ⟨by rfl, ?_⟩) hHeld ?_ ?_
                 rotate_left
                 ·rintro w' ⟨s0, s1, s2, s3, s4, s5, s6, s7, s8, s9, s10, s11, s12, s13, s14, s15, s16, s17, s18, s19, s20⟩
                  go_simp
                  with_reducible rfl
                 rotate_left
                 ·simp only [Act.put, List.setIfInBounds_toArray, List.set_cons_zero, List.set_cons_succ, i64_w, i32_w]
                  rfl
                 refine one_ (i := 7) (N := some 109) #[true, true, true, true, true, true, true, true, true, false, false, false, false, false, false, false, false, false, false, false, false, false, false, false, false, false, false, false, false, false, false, false, false, false, false, false, false, false, false, false, false, false, false, false, false, false] rfl rfl (one_of HT_.out (by kernel_rfl)) (by decide) (fun K hK => ?_)
                 refine goes_ Try.func31 (by kernel_rfl) rfl #[.agg #[.string a0_0, .int .i64 a0_1, .slice A0_2 l0_2.length c0_2]] (by rfl) rfl rfl (by (try simp only [List.map_toArray, List.map_cons, List.map_nil]); first | done | rfl | (simp only [List.length_drop, List.length_take]; rfl)) ?_
                 with_reducible refine (subject_Live.calls kj100 a0_0 a0_1 _ _ l0_2 t391 _ ?side1 ?side2 A189.out).mono ?_
                 (case side1 => repeat (first | exact (Kd.C_below HR0_2.out HB.out) | (with_reducible refine Kd.C_alloc ?_ _) | (with_reducible refine Kd.C_drewN ?_ _) | (with_reducible refine Kd.C_drew ?_)))
                 (case side2 => exact HC0_2.out)
                 rintro e w203 ⟨v392, rfl, ho0, hb⟩
                 refine ⟨_, rfl, ?_⟩
                 have n0_ := qH (Kd.R_elder' (by (with_reducible repeat (first | apply Kd.R_alloc | apply Kd.R_drewN | apply Kd.R_drew)); exact HO_385002.out) (Kd.R_base ho0) hb)
                 have n1_ := qH (Kd.R_lower (Kd.R_newB (Kd.R_newB (Kd.R_newB (Kd.R_newB (Kd.R_newB (Kd.R_newB (Kd.R_new' ho0 (Kd.R_lt (by (with_reducible repeat (first | apply Kd.R_alloc | apply Kd.R_drewN | apply Kd.R_drew)); exact HO_385002.out))) (g := gb352) (by (with_reducible repeat first | apply qA | apply qC | apply qB); exact BK352.out)) (g := gb357) (by (with_reducible repeat first | apply qA | apply qC | apply qB); exact BK357.out)) (g := gb362) (by (with_reducible repeat first | apply qA | apply qC | apply qB); exact BK362.out)) (g := gb367) (by (with_reducible repeat first | apply qA | apply qC | apply qB); exact BK367.out)) (g := gb372) (by (with_reducible repeat first | apply qA | apply qC | apply qB); exact BK372.out)) (g := gb377) (by (with_reducible repeat first | apply qA | apply qC | apply qB); exact BK377.out)) (below_size (by repeat (first | (with_reducible first | exact HB.out | apply qL | apply qJ | apply qK | refine qI ?_ GE345.out | refine qI ?_ GE352.out | refine qI ?_ GE357.out | refine qI ?_ GE362.out | refine qI ?_ GE367.out | refine qI ?_ GE372.out | refine qI ?_ GE377.out | refine qI ?_ GE384.out | refine qI ?_ GE386.out) | exact HB.out))))
                 have n2_ := qH (qD (g := gb345) (by (with_reducible repeat first | apply qA | apply qC | apply qB); exact BK345.out) hb)
                 have n3_ := qH (qD (g := gb352) (by (with_reducible repeat first | apply qA | apply qC | apply qB); exact BK352.out) hb)
                 have n4_ := qH (qD (g := gb357) (by (with_reducible repeat first | apply qA | apply qC | apply qB); exact BK357.out) hb)
                 have n5_ := qH (qD (g := gb362) (by (with_reducible repeat first | apply qA | apply qC | apply qB); exact BK362.out) hb)
                 have n6_ := qH (qD (g := gb367) (by (with_reducible repeat first | apply qA | apply qC | apply qB); exact BK367.out) hb)
                 have n7_ := qH (qD (g := gb372) (by (with_reducible repeat first | apply qA | apply qC | apply qB); exact BK372.out) hb)
                 have n8_ := qH (qD (g := gb377) (by (with_reducible repeat first | apply qA | apply qC | apply qB); exact BK377.out) hb)
                 have n9_ := qH (qD (g := gb384) (by (with_reducible repeat first | apply qA | apply qC | apply qB); exact BK384.out) hb)
                 have n10_ := qH (qD (g := gb386) (by (with_reducible repeat first | apply qA | apply qC | apply qB); exact BK386.out) hb)
                 have n11_ := qH (below_step (by repeat (first | (with_reducible first | exact HB.out | apply qL | apply qJ | apply qK | refine qI ?_ GE345.out | refine qI ?_ GE352.out | refine qI ?_ GE357.out | refine qI ?_ GE362.out | refine qI ?_ GE367.out | refine qI ?_ GE372.out | refine qI ?_ GE377.out | refine qI ?_ GE384.out | refine qI ?_ GE386.out) | exact HB.out)) hb)
                 clear HO_385002
                 clear BK345
                 clear BK352
                 clear BK357
                 clear BK362
                 clear BK367
                 clear BK372
                 clear BK377
                 clear BK384
                 clear BK386
                 clear HB
                 have HO_385002 := n0_
                 have HO393 := n1_
                 have BK345 := n2_
                 have BK352 := n3_
                 have BK357 := n4_
                 have BK362 := n5_
                 have BK367 := n6_
                 have BK372 := n7_
                 have BK377 := n8_
                 have BK384 := n9_
                 have BK386 := n10_
                 have HB := n11_
                 clear n0_ n1_ n2_ n3_ n4_ n5_ n6_ n7_ n8_ n9_ n10_ n11_
                 (try clear hb)
                 (try clear hb2)
                 (try clear hk)
                 (try clear hi)
                 (try clear ho0)
                 refine hK.out _ _ ⟨(qE BK345.out 0).trans rfl, (qE BK345.out 1).trans rfl, (qE BK345.out 2).trans rfl, (qE BK352.out 0).trans rfl, (qE BK352.out 1).trans rfl, (qE BK352.out 2).trans rfl, (qE BK357.out 0).trans rfl, (qE BK357.out 1).trans rfl, (qE BK357.out 2).trans rfl, (qE BK362.out 0).trans rfl, (qE BK362.out 1).trans rfl, (qE BK362.out 2).trans rfl, (qE BK367.out 0).trans rfl, (qE BK367.out 1).trans rfl, (qE BK367.out 2).trans rfl, (qE BK372.out 0).trans rfl, (qE BK372.out 1).trans rfl, (qE BK372.out 2).trans rfl, (qE BK377.out 0).trans rfl, (qE BK377.out 1).trans rfl, (qE BK377.out 2).trans rfl⟩ (fun hHeld => ?_)
                 clear hK K
                 refine norm_ (a' := ?_) ?_ ?_
                 rotate_left
                 ·show Act.put _ (some 109) _ = _
                  simp only [Act.put, List.setIfInBounds_toArray, List.set_cons_zero, List.set_cons_succ, i64_w, i32_w]
                  rfl
                 refine one_ (i := 9) (N := some 111) #[true, true, true, true, true, true, true, true, true, true, false, false, false, false, false, false, false, false, false, false, false, false, false, false, false, false, false, false, false, false, false, false, false, false, false, false, false, false, false, false, false, false, false, false, false, false] rfl rfl (one_of HT_.out (by kernel_rfl)) (by decide) (fun K hK => ?_)
                 refine goes_ Try.func32 (by kernel_rfl) rfl #[.agg #[.string a0_0, .int .i64 a0_1, .slice A0_2 l0_2.length c0_2]] (by rfl) rfl rfl (by (try simp only [List.map_toArray, List.map_cons, List.map_nil]); first | done | rfl | (simp only [List.length_drop, List.length_take]; rfl)) ?_
                 with_reducible refine (codicilref18_Live.calls kj100 a0_0 a0_1 _ _ l0_2 t394 _ ?side1 ?side2 A190.out).mono ?_
                 (case side1 => repeat (first | exact (Kd.C_below HR0_2.out HB.out) | (with_reducible refine Kd.C_alloc ?_ _) | (with_reducible refine Kd.C_drewN ?_ _) | (with_reducible refine Kd.C_drew ?_)))
                 (case side2 => exact HC0_2.out)
                 rintro e w204 ⟨v395, rfl, ho0, hb⟩
                 refine ⟨_, rfl, ?_⟩
                 have n0_ := qH (Kd.R_elder' (by (with_reducible repeat (first | apply Kd.R_alloc | apply Kd.R_drewN | apply Kd.R_drew)); exact HO_385002.out) (Kd.R_base ho0) hb)
                 have n1_ := qH (Kd.R_elder' (by (with_reducible repeat (first | apply Kd.R_alloc | apply Kd.R_drewN | apply Kd.R_drew)); exact HO393.out) (Kd.R_base ho0) hb)
                 have n2_ := qH (Kd.R_lower (Kd.R_newB (Kd.R_newB (Kd.R_newB (Kd.R_newB (Kd.R_newB (Kd.R_newB (Kd.R_new' (Kd.R_new' ho0 (Kd.R_lt (by (with_reducible repeat (first | apply Kd.R_alloc | apply Kd.R_drewN | apply Kd.R_drew)); exact HO_385002.out))) (Kd.R_lt (by (with_reducible repeat (first | apply Kd.R_alloc | apply Kd.R_drewN | apply Kd.R_drew)); exact HO393.out))) (g := gb352) (by (with_reducible repeat first | apply qA | apply qC | apply qB); exact BK352.out)) (g := gb357) (by (with_reducible repeat first | apply qA | apply qC | apply qB); exact BK357.out)) (g := gb362) (by (with_reducible repeat first | apply qA | apply qC | apply qB); exact BK362.out)) (g := gb367) (by (with_reducible repeat first | apply qA | apply qC | apply qB); exact BK367.out)) (g := gb372) (by (with_reducible repeat first | apply qA | apply qC | apply qB); exact BK372.out)) (g := gb377) (by (with_reducible repeat first | apply qA | apply qC | apply qB); exact BK377.out)) (below_size (by repeat (first | (with_reducible first | exact HB.out | apply qL | apply qJ | apply qK | refine qI ?_ GE345.out | refine qI ?_ GE352.out | refine qI ?_ GE357.out | refine qI ?_ GE362.out | refine qI ?_ GE367.out | refine qI ?_ GE372.out | refine qI ?_ GE377.out | refine qI ?_ GE384.out | refine qI ?_ GE386.out) | exact HB.out))))
                 have n3_ := qH (qD (g := gb345) (by (with_reducible repeat first | apply qA | apply qC | apply qB); exact BK345.out) hb)
                 have n4_ := qH (qD (g := gb352) (by (with_reducible repeat first | apply qA | apply qC | apply qB); exact BK352.out) hb)
                 have n5_ := qH (qD (g := gb357) (by (with_reducible repeat first | apply qA | apply qC | apply qB); exact BK357.out) hb)
                 have n6_ := qH (qD (g := gb362) (by (with_reducible repeat first | apply qA | apply qC | apply qB); exact BK362.out) hb)
                 have n7_ := qH (qD (g := gb367) (by (with_reducible repeat first | apply qA | apply qC | apply qB); exact BK367.out) hb)
                 have n8_ := qH (qD (g := gb372) (by (with_reducible repeat first | apply qA | apply qC | apply qB); exact BK372.out) hb)
                 have n9_ := qH (qD (g := gb377) (by (with_reducible repeat first | apply qA | apply qC | apply qB); exact BK377.out) hb)
                 have n10_ := qH (qD (g := gb384) (by (with_reducible repeat first | apply qA | apply qC | apply qB); exact BK384.out) hb)
                 have n11_ := qH (qD (g := gb386) (by (with_reducible repeat first | apply qA | apply qC | apply qB); exact BK386.out) hb)
                 have n12_ := qH (below_step (by repeat (first | (with_reducible first | exact HB.out | apply qL | apply qJ | apply qK | refine qI ?_ GE345.out | refine qI ?_ GE352.out | refine qI ?_ GE357.out | refine qI ?_ GE362.out | refine qI ?_ GE367.out | refine qI ?_ GE372.out | refine qI ?_ GE377.out | refine qI ?_ GE384.out | refine qI ?_ GE386.out) | exact HB.out)) hb)
                 clear HO_385002
                 clear HO393
                 clear BK345
                 clear BK352
                 clear BK357
                 clear BK362
                 clear BK367
                 clear BK372
                 clear BK377
                 clear BK384
                 clear BK386
                 clear HB
                 have HO_385002 := n0_
                 have HO393 := n1_
                 have HO396 := n2_
                 have BK345 := n3_
                 have BK352 := n4_
                 have BK357 := n5_
                 have BK362 := n6_
                 have BK367 := n7_
                 have BK372 := n8_
                 have BK377 := n9_
                 have BK384 := n10_
                 have BK386 := n11_
                 have HB := n12_
                 clear n0_ n1_ n2_ n3_ n4_ n5_ n6_ n7_ n8_ n9_ n10_ n11_ n12_
                 (try clear hb)
                 (try clear hb2)
                 (try clear hk)
                 (try clear hi)
                 (try clear ho0)
                 obtain ⟨Ao205, co205, eo205⟩ := Kd.R_slice HO393.out
                 (first | subst eo205 | (injection eo205 with f1_ f2_ f3_; have f4_ := f1_.symm; have f5_ := f3_.symm; clear f1_ f2_ f3_; subst f4_; subst f5_))
                 obtain ⟨Ao206, co206, eo206⟩ := Kd.R_slice HO396.out
                 (first | subst eo206 | (injection eo206 with f1_ f2_ f3_; have f4_ := f1_.symm; have f5_ := f3_.symm; clear f1_ f2_ f3_; subst f4_; subst f5_))
                 refine hK.out _ _ ⟨(qE BK345.out 0).trans rfl, (qE BK345.out 1).trans rfl, (qE BK345.out 2).trans rfl, (qE BK352.out 0).trans rfl, (qE BK352.out 1).trans rfl, (qE BK352.out 2).trans rfl, (qE BK357.out 0).trans rfl, (qE BK357.out 1).trans rfl, (qE BK357.out 2).trans rfl, (qE BK362.out 0).trans rfl, (qE BK362.out 1).trans rfl, (qE BK362.out 2).trans rfl, (qE BK367.out 0).trans rfl, (qE BK367.out 1).trans rfl, (qE BK367.out 2).trans rfl, (qE BK372.out 0).trans rfl, (qE BK372.out 1).trans rfl, (qE BK372.out 2).trans rfl, (qE BK377.out 0).trans rfl, (qE BK377.out 1).trans rfl, (qE BK377.out 2).trans rfl⟩ (fun hHeld => ?_)
                 clear hK K
                 refine norm_ (a' := ?_) ?_ ?_
                 rotate_left
                 ·show Act.put _ (some 111) _ = _
                  simp only [Act.put, List.setIfInBounds_toArray, List.set_cons_zero, List.set_cons_succ, i64_w, i32_w]
                  rfl
                 refine one_ (i := 10) (N := some 112) #[true, true, true, true, true, true, true, true, true, true, true, false, false, false, false, false, false, false, false, false, false, false, false, false, false, false, false, false, false, false, false, false, false, false, false, false, false, false, false, false, false, false, false, false, false, false] rfl rfl (one_of HT_.out (by kernel_rfl)) (by decide) (fun K hK => ?_)
                 refine goes_ Try.func30 (by kernel_rfl) rfl #[.slice Ao205 t391.length co205, .slice Ao206 t394.length co206] (by rfl) rfl rfl (by (try simp only [List.map_toArray, List.map_cons, List.map_nil]); first | done | rfl | (simp only [List.length_drop, List.length_take]; rfl)) ?_
                 with_reducible refine (codicillaw18_same.calls kj100 _ _ t391 _ _ t394 true _ ?side1 ?side2 ?side3 ?side4 A191.out).mono ?_
                 (case side1 => repeat (first | exact (Kd.R_reads' HO393.out).2.2 | (with_reducible refine Kd.C_alloc ?_ _) | (with_reducible refine Kd.C_drewN ?_ _) | (with_reducible refine Kd.C_drew ?_)))
                 (case side2 => exact (Kd.R_reads' HO393.out).2.1)
                 (case side3 => repeat (first | exact (Kd.R_reads' HO396.out).2.2 | (with_reducible refine Kd.C_alloc ?_ _) | (with_reducible refine Kd.C_drewN ?_ _) | (with_reducible refine Kd.C_drew ?_)))
                 (case side4 => exact (Kd.R_reads' HO396.out).2.1)
                 rintro e w' ⟨rfl, ⟨nd, rfl⟩⟩
                 refine ⟨_, rfl, ?_⟩
                 refine hK.out _ _ ⟨(qE BK345.out 0).trans rfl, (qE BK345.out 1).trans rfl, (qE BK345.out 2).trans rfl, (qE BK352.out 0).trans rfl, (qE BK352.out 1).trans rfl, (qE BK352.out 2).trans rfl, (qE BK357.out 0).trans rfl, (qE BK357.out 1).trans rfl, (qE BK357.out 2).trans rfl, (qE BK362.out 0).trans rfl, (qE BK362.out 1).trans rfl, (qE BK362.out 2).trans rfl, (qE BK367.out 0).trans rfl, (qE BK367.out 1).trans rfl, (qE BK367.out 2).trans rfl, (qE BK372.out 0).trans rfl, (qE BK372.out 1).trans rfl, (qE BK372.out 2).trans rfl, (qE BK377.out 0).trans rfl, (qE BK377.out 1).trans rfl, (qE BK377.out 2).trans rfl⟩ (fun hHeld => ?_)
                 clear hK K
                 refine norm_ (a' := ?_) ?_ ?_
                 rotate_left
                 ·show Act.put _ (some 112) _ = _
                  simp only [Act.put, List.setIfInBounds_toArray, List.set_cons_zero, List.set_cons_succ, i64_w, i32_w]
                  rfl
                 refine pure_ (i := 11) (N := some 113) (v := ?_) (a' := ?_) #[true, true, true, true, true, true, true, true, true, true, true, true, false, false, false, false, false, false, false, false, false, false, false, false, false, false, false, false, false, false, false, false, false, false, false, false, false, false, false, false, false, false, false, false, false, false] rfl rfl (any_of HT_.out (by kernel_rfl)) (fun _ _ _ h => h) (Or.inl ⟨by rfl, ?_⟩) ?_ ?_
                 rotate_left
                 ·intro w'
                  go_simp
                  with_reducible rfl
                 rotate_left
                 ·simp only [Act.put, List.setIfInBounds_toArray, List.set_cons_zero, List.set_cons_succ, i64_w, i32_w]
                  rfl
                 refine pure_ (i := 12) (N := some 114) (v := ?_) (a' := ?_) #[true, true, true, true, true, true, true, true, true, true, true, true, true, false, false, false, false, false, false, false, false, false, false, false, false, false, false, false, false, false, false, false, false, false, false, false, false, false, false, false, false, false, false, false, false, false] rfl rfl (any_of HT_.out (by kernel_rfl)) (fun _ _ _ h => h) (Or.inl ⟨by rfl, ?_⟩) ?_ ?_
                 rotate_left
                 ·intro w'
                  go_simp
                  with_reducible rfl
                 rotate_left
                 ·simp only [Act.put, List.setIfInBounds_toArray, List.set_cons_zero, List.set_cons_succ, i64_w, i32_w]
                  rfl
                 refine take_ (i := 13) (N := some 115) (v := ?_) (a' := ?_) #[true, true, true, true, true, true, true, true, true, true, true, true, true, true, false, false, false, false, false, false, false, false, false, false, false, false, false, false, false, false, false, false, false, false, false, false, false, false, false, false, false, false, false, false, false, false] rfl rfl (take_ofW HT_.out HW_.out (by kernel_rfl)) (fun _ _ _ h => h) (Or.inl ⟨by rfl, ?_⟩) hHeld ?_ ?_
                 rotate_left
                 ·rintro w' ⟨s0, s1, s2, s3, s4, s5, s6, s7, s8, s9, s10, s11, s12, s13, s14, s15, s16, s17, s18, s19, s20⟩
                  go_simp
                  with_reducible rfl
                 rotate_left
                 ·simp only [Act.put, List.setIfInBounds_toArray, List.set_cons_zero, List.set_cons_succ, i64_w, i32_w]
                  rfl
                 refine take_ (i := 14) (N := some 116) (v := ?_) (a' := ?_) #[true, true, true, true, true, true, true, true, true, true, true, true, true, true, true, false, false, false, false, false, false, false, false, false, false, false, false, false, false, false, false, false, false, false, false, false, false, false, false, false, false, false, false, false, false, false] rfl rfl (take_ofW HT_.out HW_.out (by kernel_rfl)) (fun _ _ _ h => h) (Or.inl ⟨by rfl, ?_⟩) hHeld ?_ ?_
                 rotate_left
                 ·rintro w' ⟨s0, s1, s2, s3, s4, s5, s6, s7, s8, s9, s10, s11, s12, s13, s14, s15, s16, s17, s18, s19, s20⟩
                  go_simp
                  with_reducible rfl
                 rotate_left
                 ·simp only [Act.put, List.setIfInBounds_toArray, List.set_cons_zero, List.set_cons_succ, i64_w, i32_w]
                  rfl
                 refine pure_ (i := 15) (N := some 117) (v := ?_) (a' := ?_) #[true, true, true, true, true, true, true, true, true, true, true, true, true, true, true, true, false, false, false, false, false, false, false, false, false, false, false, false, false, false, false, false, false, false, false, false, false, false, false, false, false, false, false, false, false, false] rfl rfl (any_of HT_.out (by kernel_rfl)) (fun _ _ _ h => h) (Or.inl ⟨by rfl, ?_⟩) ?_ ?_
                 rotate_left
                 ·intro w'
                  go_simp
                  with_reducible rfl
                 rotate_left
                 ·simp only [Act.put, List.setIfInBounds_toArray, List.set_cons_zero, List.set_cons_succ, i64_w, i32_w]
                  rfl
                 refine pure_ (i := 16) (N := some 118) (v := ?_) (a' := ?_) #[true, true, true, true, true, true, true, true, true, true, true, true, true, true, true, true, true, false, false, false, false, false, false, false, false, false, false, false, false, false, false, false, false, false, false, false, false, false, false, false, false, false, false, false, false, false] rfl rfl (any_of HT_.out (by kernel_rfl)) (fun _ _ _ h => h) (Or.inl ⟨by rfl, ?_⟩) ?_ ?_
                 rotate_left
                 ·intro w'
                  go_simp
                  with_reducible rfl
                 rotate_left
                 ·simp only [Act.put, List.setIfInBounds_toArray, List.set_cons_zero, List.set_cons_succ, i64_w, i32_w]
                  rfl
                 refine pure_ (i := 17) (N := some 119) (v := ?_) (a' := ?_) #[true, true, true, true, true, true, true, true, true, true, true, true, true, true, true, true, true, true, false, false, false, false, false, false, false, false, false, false, false, false, false, false, false, false, false, false, false, false, false, false, false, false, false, false, false, false] rfl rfl (any_of HT_.out (by kernel_rfl)) (fun _ _ _ h => h) (Or.inl ⟨by rfl, ?_⟩) ?_ ?_
                 rotate_left
                 ·intro w'
                  go_simp
                  with_reducible rfl
                 rotate_left
                 ·simp only [Act.put, List.setIfInBounds_toArray, List.set_cons_zero, List.set_cons_succ, i64_w, i32_w]
                  rfl
                 refine pure_ (i := 18) (N := some 120) (v := ?_) (a' := ?_) #[true, true, true, true, true, true, true, true, true, true, true, true, true, true, true, true, true, true, true, false, false, false, false, false, false, false, false, false, false, false, false, false, false, false, false, false, false, false, false, false, false, false, false, false, false, false] rfl rfl (any_of HT_.out (by kernel_rfl)) (fun _ _ _ h => h) (Or.inl ⟨by rfl, ?_⟩) ?_ ?_
                 rotate_left
                 ·intro w'
                  go_simp
                  with_reducible rfl
                 rotate_left
                 ·simp only [Act.put, List.setIfInBounds_toArray, List.set_cons_zero, List.set_cons_succ, i64_w, i32_w]
                  rfl
                 refine pure_ (i := 19) (N := some 121) (v := ?_) (a' := ?_) #[true, true, true, true, true, true, true, true, true, true, true, true, true, true, true, true, true, true, true, true, false, false, false, false, false, false, false, false, false, false, false, false, false, false, false, false, false, false, false, false, false, false, false, false, false, false] rfl rfl (any_of HT_.out (by kernel_rfl)) (fun _ _ _ h => h) (Or.inl ⟨by rfl, ?_⟩) ?_ ?_
                 rotate_left
                 ·intro w'
                  go_simp
                  with_reducible rfl
                 rotate_left
                 ·simp only [Act.put, List.setIfInBounds_toArray, List.set_cons_zero, List.set_cons_succ, i64_w, i32_w]
                  rfl
                 refine pure_ (i := 20) (N := some 122) (v := ?_) (a' := ?_) #[true, true, true, true, true, true, true, true, true, true, true, true, true, true, true, true, true, true, true, true, true, false, false, false, false, false, false, false, false, false, false, false, false, false, false, false, false, false, false, false, false, false, false, false, false, false] rfl rfl (any_of HT_.out (by kernel_rfl)) (fun _ _ _ h => h) (Or.inl ⟨by rfl, ?_⟩) ?_ ?_
                 rotate_left
                 ·intro w'
                  go_simp
                  with_reducible rfl
                 rotate_left
                 ·simp only [Act.put, List.setIfInBounds_toArray, List.set_cons_zero, List.set_cons_succ, i64_w, i32_w]
                  rfl
                 refine pure_ (i := 21) (N := some 123) (v := ?_) (a' := ?_) #[true, true, true, true, true, true, true, true, true, true, true, true, true, true, true, true, true, true, true, true, true, true, false, false, false, false, false, false, false, false, false, false, false, false, false, false, false, false, false, false, false, false, false, false, false, false] rfl rfl (any_of HT_.out (by kernel_rfl)) (fun _ _ _ h => h) (Or.inl ⟨by rfl, ?_⟩) ?_ ?_
                 rotate_left
                 ·intro w'
                  go_simp
                  with_reducible rfl
                 rotate_left
                 ·simp only [Act.put, List.setIfInBounds_toArray, List.set_cons_zero, List.set_cons_succ, i64_w, i32_w]
                  rfl
                 refine pure_ (i := 22) (N := some 124) (v := ?_) (a' := ?_) #[true, true, true, true, true, true, true, true, true, true, true, true, true, true, true, true, true, true, true, true, true, true, true, false, false, false, false, false, false, false, false, false, false, false, false, false, false, false, false, false, false, false, false, false, false, false] rfl rfl (any_of HT_.out (by kernel_rfl)) (fun _ _ _ h => h) (Or.inl ⟨by rfl, ?_⟩) ?_ ?_
                 rotate_left
                 ·intro w'
                  go_simp
                  with_reducible rfl
                 rotate_left
                 ·simp only [Act.put, List.setIfInBounds_toArray, List.set_cons_zero, List.set_cons_succ, i64_w, i32_w]
                  rfl
                 refine take_ (i := 23) (N := some 125) (v := ?_) (a' := ?_) #[true, true, true, true, true, true, true, true, true, true, true, true, true, true, true, true, true, true, true, true, true, true, true, true, false, false, false, false, false, false, false, false, false, false, false, false, false, false, false, false, false, false, false, false, false, false] rfl rfl (take_ofW HT_.out HW_.out (by kernel_rfl)) (fun _ _ _ h => h) (Or.inl ⟨by rfl, ?_⟩) hHeld ?_ ?_
                 rotate_left
                 ·rintro w' ⟨s0, s1, s2, s3, s4, s5, s6, s7, s8, s9, s10, s11, s12, s13, s14, s15, s16, s17, s18, s19, s20⟩
                  go_simp
                  with_reducible rfl
                 rotate_left
                 ·simp only [Act.put, List.setIfInBounds_toArray, List.set_cons_zero, List.set_cons_succ, i64_w, i32_w]
                  rfl
                 refine take_ (i := 24) (N := some 126) (v := ?_) (a' := ?_) #[true, true, true, true, true, true, true, true, true, true, true, true, true, true, true, true, true, true, true, true, true, true, true, true, true, false, false, false, false, false, false, false, false, false, false, false, false, false, false, false, false, false, false, false, false, false] rfl rfl (take_ofW HT_.out HW_.out (by kernel_rfl)) (fun _ _ _ h => h) (Or.inl ⟨by rfl, ?_⟩) hHeld ?_ ?_
                 rotate_left
                 ·rintro w' ⟨s0, s1, s2, s3, s4, s5, s6, s7, s8, s9, s10, s11, s12, s13, s14, s15, s16, s17, s18, s19, s20⟩
                  go_simp
                  with_reducible rfl
                 rotate_left
                 ·simp only [Act.put, List.setIfInBounds_toArray, List.set_cons_zero, List.set_cons_succ, i64_w, i32_w]
                  rfl
                 refine pure_ (i := 25) (N := some 127) (v := ?_) (a' := ?_) #[true, true, true, true, true, true, true, true, true, true, true, true, true, true, true, true, true, true, true, true, true, true, true, true, true, true, false, false, false, false, false, false, false, false, false, false, false, false, false, false, false, false, false, false, false, false] rfl rfl (any_of HT_.out (by kernel_rfl)) (fun _ _ _ h => h) (Or.inl ⟨by rfl, ?_⟩) ?_ ?_
                 rotate_left
                 ·intro w'
                  go_simp
                  with_reducible rfl
                 rotate_left
                 ·simp only [Act.put, List.setIfInBounds_toArray, List.set_cons_zero, List.set_cons_succ, i64_w, i32_w]
                  rfl
                 refine pure_ (i := 26) (N := some 128) (v := ?_) (a' := ?_) #[true, true, true, true, true, true, true, true, true, true, true, true, true, true, true, true, true, true, true, true, true, true, true, true, true, true, true, false, false, false, false, false, false, false, false, false, false, false, false, false, false, false, false, false, false, false] rfl rfl (any_of HT_.out (by kernel_rfl)) (fun _ _ _ h => h) (Or.inl ⟨by rfl, ?_⟩) ?_ ?_
                 rotate_left
                 ·intro w'
                  go_simp
                  with_reducible rfl
                 rotate_left
                 ·simp only [Act.put, List.setIfInBounds_toArray, List.set_cons_zero, List.set_cons_succ, i64_w, i32_w]
                  rfl
                 refine pure_ (i := 27) (N := some 129) (v := ?_) (a' := ?_) #[true, true, true, true, true, true, true, true, true, true, true, true, true, true, true, true, true, true, true, true, true, true, true, true, true, true, true, true, false, false, false, false, false, false, false, false, false, false, false, false, false, false, false, false, false, false] rfl rfl (any_of HT_.out (by kernel_rfl)) (fun _ _ _ h => h) (Or.inl ⟨by rfl, ?_⟩) ?_ ?_
                 rotate_left
                 ·intro w'
                  go_simp
                  with_reducible rfl
                 rotate_left
                 ·simp only [Act.put, List.setIfInBounds_toArray, List.set_cons_zero, List.set_cons_succ, i64_w, i32_w]
                  rfl
                 refine pure_ (i := 28) (N := some 130) (v := ?_) (a' := ?_) #[true, true, true, true, true, true, true, true, true, true, true, true, true, true, true, true, true, true, true, true, true, true, true, true, true, true, true, true, true, false, false, false, false, false, false, false, false, false, false, false, false, false, false, false, false, false] rfl rfl (any_of HT_.out (by kernel_rfl)) (fun _ _ _ h => h) (Or.inl ⟨by rfl, ?_⟩) ?_ ?_
                 rotate_left
                 ·intro w'
                  go_simp
                  with_reducible rfl
                 rotate_left
                 ·simp only [Act.put, List.setIfInBounds_toArray, List.set_cons_zero, List.set_cons_succ, i64_w, i32_w]
                  rfl
                 refine pure_ (i := 29) (N := some 131) (v := ?_) (a' := ?_) #[true, true, true, true, true, true, true, true, true, true, true, true, true, true, true, true, true, true, true, true, true, true, true, true, true, true, true, true, true, true, false, false, false, false, false, false, false, false, false, false, false, false, false, false, false, false] rfl rfl (any_of HT_.out (by kernel_rfl)) (fun _ _ _ h => h) (Or.inl ⟨by rfl, ?_⟩) ?_ ?_
                 rotate_left
                 ·intro w'
                  go_simp
                  with_reducible rfl
                 rotate_left
                 ·simp only [Act.put, List.setIfInBounds_toArray, List.set_cons_zero, List.set_cons_succ, i64_w, i32_w]
                  rfl
                 refine pure_ (i := 30) (N := some 132) (v := ?_) (a' := ?_) #[true, true, true, true, true, true, true, true, true, true, true, true, true, true, true, true, true, true, true, true, true, true, true, true, true, true, true, true, true, true, true, false, false, false, false, false, false, false, false, false, false, false, false, false, false, false] rfl rfl (any_of HT_.out (by kernel_rfl)) (fun _ _ _ h => h) (Or.inl ⟨by rfl, ?_⟩) ?_ ?_
                 rotate_left
                 ·intro w'
                  go_simp
                  with_reducible rfl
                 rotate_left
                 ·simp only [Act.put, List.setIfInBounds_toArray, List.set_cons_zero, List.set_cons_succ, i64_w, i32_w]
                  rfl
                 refine pure_ (i := 31) (N := some 133) (v := ?_) (a' := ?_) #[true, true, true, true, true, true, true, true, true, true, true, true, true, true, true, true, true, true, true, true, true, true, true, true, true, true, true, true, true, true, true, true, false, false, false, false, false, false, false, false, false, false, false, false, false, false] rfl rfl (any_of HT_.out (by kernel_rfl)) (fun _ _ _ h => h) (Or.inl ⟨by rfl, ?_⟩) ?_ ?_
                 rotate_left
                 ·intro w'
                  go_simp
                  with_reducible rfl
                 rotate_left
                 ·simp only [Act.put, List.setIfInBounds_toArray, List.set_cons_zero, List.set_cons_succ, i64_w, i32_w]
                  rfl
                 refine pure_ (i := 32) (N := some 134) (v := ?_) (a' := ?_) #[true, true, true, true, true, true, true, true, true, true, true, true, true, true, true, true, true, true, true, true, true, true, true, true, true, true, true, true, true, true, true, true, true, false, false, false, false, false, false, false, false, false, false, false, false, false] rfl rfl (any_of HT_.out (by kernel_rfl)) (fun _ _ _ h => h) (Or.inl ⟨by rfl, ?_⟩) ?_ ?_
                 rotate_left
                 ·intro w'
                  go_simp
                  with_reducible rfl
                 rotate_left
                 ·simp only [Act.put, List.setIfInBounds_toArray, List.set_cons_zero, List.set_cons_succ, i64_w, i32_w]
                  rfl
                 refine take_ (i := 33) (N := some 135) (v := ?_) (a' := ?_) #[true, true, true, true, true, true, true, true, true, true, true, true, true, true, true, true, true, true, true, true, true, true, true, true, true, true, true, true, true, true, true, true, true, true, false, false, false, false, false, false, false, false, false, false, false, false] rfl rfl (take_ofW HT_.out HW_.out (by kernel_rfl)) (fun _ _ _ h => h) (Or.inl ⟨by rfl, ?_⟩) hHeld ?_ ?_
                 rotate_left
                 ·rintro w' ⟨s0, s1, s2, s3, s4, s5, s6, s7, s8, s9, s10, s11, s12, s13, s14, s15, s16, s17, s18, s19, s20⟩
                  go_simp
                  with_reducible rfl
                 rotate_left
                 ·simp only [Act.put, List.setIfInBounds_toArray, List.set_cons_zero, List.set_cons_succ, i64_w, i32_w]
                  rfl
                 refine take_ (i := 34) (N := some 136) (v := ?_) (a' := ?_) #[true, true, true, true, true, true, true, true, true, true, true, true, true, true, true, true, true, true, true, true, true, true, true, true, true, true, true, true, true, true, true, true, true, true, true, false, false, false, false, false, false, false, false, false, false, false] rfl rfl (take_ofW HT_.out HW_.out (by kernel_rfl)) (fun _ _ _ h => h) (Or.inl ⟨by rfl, ?_⟩) hHeld ?_ ?_
                 rotate_left
                 ·rintro w' ⟨s0, s1, s2, s3, s4, s5, s6, s7, s8, s9, s10, s11, s12, s13, s14, s15, s16, s17, s18, s19, s20⟩
                  go_simp
                  with_reducible rfl
                 rotate_left
                 ·simp only [Act.put, List.setIfInBounds_toArray, List.set_cons_zero, List.set_cons_succ, i64_w, i32_w]
                  rfl
                 refine pure_ (i := 35) (N := some 137) (v := ?_) (a' := ?_) #[true, true, true, true, true, true, true, true, true, true, true, true, true, true, true, true, true, true, true, true, true, true, true, true, true, true, true, true, true, true, true, true, true, true, true, true, false, false, false, false, false, false, false, false, false, false] rfl rfl (any_of HT_.out (by kernel_rfl)) (fun _ _ _ h => h) (Or.inl ⟨by rfl, ?_⟩) ?_ ?_
                 rotate_left
                 ·intro w'
                  go_simp
                  with_reducible rfl
                 rotate_left
                 ·simp only [Act.put, List.setIfInBounds_toArray, List.set_cons_zero, List.set_cons_succ, i64_w, i32_w]
                  rfl
                 refine pure_ (i := 36) (N := some 138) (v := ?_) (a' := ?_) #[true, true, true, true, true, true, true, true, true, true, true, true, true, true, true, true, true, true, true, true, true, true, true, true, true, true, true, true, true, true, true, true, true, true, true, true, true, false, false, false, false, false, false, false, false, false] rfl rfl (any_of HT_.out (by kernel_rfl)) (fun _ _ _ h => h) (Or.inl ⟨by rfl, ?_⟩) ?_ ?_
                 rotate_left
                 ·intro w'
                  go_simp
                  with_reducible rfl
                 rotate_left
                 ·simp only [Act.put, List.setIfInBounds_toArray, List.set_cons_zero, List.set_cons_succ, i64_w, i32_w]
                  rfl
                 refine pure_ (i := 37) (N := some 139) (v := ?_) (a' := ?_) #[true, true, true, true, true, true, true, true, true, true, true, true, true, true, true, true, true, true, true, true, true, true, true, true, true, true, true, true, true, true, true, true, true, true, true, true, true, true, false, false, false, false, false, false, false, false] rfl rfl (any_of HT_.out (by kernel_rfl)) (fun _ _ _ h => h) (Or.inl ⟨by rfl, ?_⟩) ?_ ?_
                 rotate_left
                 ·intro w'
                  go_simp
                  with_reducible rfl
                 rotate_left
                 ·simp only [Act.put, List.setIfInBounds_toArray, List.set_cons_zero, List.set_cons_succ, i64_w, i32_w]
                  rfl
                 refine pure_ (i := 38) (N := some 140) (v := ?_) (a' := ?_) #[true, true, true, true, true, true, true, true, true, true, true, true, true, true, true, true, true, true, true, true, true, true, true, true, true, true, true, true, true, true, true, true, true, true, true, true, true, true, true, false, false, false, false, false, false, false] rfl rfl (any_of HT_.out (by kernel_rfl)) (fun _ _ _ h => h) (Or.inl ⟨by rfl, ?_⟩) ?_ ?_
                 rotate_left
                 ·intro w'
                  go_simp
                  with_reducible rfl
                 rotate_left
                 ·simp only [Act.put, List.setIfInBounds_toArray, List.set_cons_zero, List.set_cons_succ, i64_w, i32_w]
                  rfl
                 refine pure_ (i := 39) (N := some 141) (v := ?_) (a' := ?_) #[true, true, true, true, true, true, true, true, true, true, true, true, true, true, true, true, true, true, true, true, true, true, true, true, true, true, true, true, true, true, true, true, true, true, true, true, true, true, true, true, false, false, false, false, false, false] rfl rfl (any_of HT_.out (by kernel_rfl)) (fun _ _ _ h => h) (Or.inl ⟨by rfl, ?_⟩) ?_ ?_
                 rotate_left
                 ·intro w'
                  go_simp
                  with_reducible rfl
                 rotate_left
                 ·simp only [Act.put, List.setIfInBounds_toArray, List.set_cons_zero, List.set_cons_succ, i64_w, i32_w]
                  rfl
                 refine pure_ (i := 40) (N := some 142) (v := ?_) (a' := ?_) #[true, true, true, true, true, true, true, true, true, true, true, true, true, true, true, true, true, true, true, true, true, true, true, true, true, true, true, true, true, true, true, true, true, true, true, true, true, true, true, true, true, false, false, false, false, false] rfl rfl (any_of HT_.out (by kernel_rfl)) (fun _ _ _ h => h) (Or.inl ⟨by rfl, ?_⟩) ?_ ?_
                 rotate_left
                 ·intro w'
                  go_simp
                  with_reducible rfl
                 rotate_left
                 ·simp only [Act.put, List.setIfInBounds_toArray, List.set_cons_zero, List.set_cons_succ, i64_w, i32_w]
                  rfl
                 refine pure_ (i := 41) (N := some 143) (v := ?_) (a' := ?_) #[true, true, true, true, true, true, true, true, true, true, true, true, true, true, true, true, true, true, true, true, true, true, true, true, true, true, true, true, true, true, true, true, true, true, true, true, true, true, true, true, true, true, false, false, false, false] rfl rfl (any_of HT_.out (by kernel_rfl)) (fun _ _ _ h => h) (Or.inl ⟨by rfl, ?_⟩) ?_ ?_
                 rotate_left
                 ·intro w'
                  go_simp
                  with_reducible rfl
                 rotate_left
                 ·simp only [Act.put, List.setIfInBounds_toArray, List.set_cons_zero, List.set_cons_succ, i64_w, i32_w]
                  rfl
                 refine pure_ (i := 42) (N := some 144) (v := ?_) (a' := ?_) #[true, true, true, true, true, true, true, true, true, true, true, true, true, true, true, true, true, true, true, true, true, true, true, true, true, true, true, true, true, true, true, true, true, true, true, true, true, true, true, true, true, true, true, false, false, false] rfl rfl (any_of HT_.out (by kernel_rfl)) (fun _ _ _ h => h) (Or.inl ⟨by rfl, ?_⟩) ?_ ?_
                 rotate_left
                 ·intro w'
                  go_simp
                  with_reducible rfl
                 rotate_left
                 ·simp only [Act.put, List.setIfInBounds_toArray, List.set_cons_zero, List.set_cons_succ, i64_w, i32_w]
                  rfl
                 refine one_ (i := 43) (N := some 145) #[true, true, true, true, true, true, true, true, true, true, true, true, true, true, true, true, true, true, true, true, true, true, true, true, true, true, true, true, true, true, true, true, true, true, true, true, true, true, true, true, true, true, true, true, false, false] rfl rfl (one_of HT_.out (by kernel_rfl)) (by decide) (fun K hK => ?_)
                 refine goes_ Try.func10 (by kernel_rfl) rfl #[] (by rfl) rfl rfl (by (try simp only [List.map_toArray, List.map_cons, List.map_nil]); first | done | rfl | (simp only [List.length_drop, List.length_take]; rfl)) ?_
                 with_reducible refine (codicillaw18_alive.calls kj100  t398 _ A199.out).mono ?_
                 rintro e w207 ⟨rfl, hb⟩
                 refine ⟨_, rfl, ?_⟩
                 have n0_ := qH (Kd.R_below (by (with_reducible repeat (first | apply Kd.R_alloc | apply Kd.R_drewN | apply Kd.R_drew)); exact HO_385002.out) hb)
                 have n1_ := qH (Kd.R_below (by (with_reducible repeat (first | apply Kd.R_alloc | apply Kd.R_drewN | apply Kd.R_drew)); exact HO393.out) hb)
                 have n2_ := qH (Kd.R_below (by (with_reducible repeat (first | apply Kd.R_alloc | apply Kd.R_drewN | apply Kd.R_drew)); exact HO396.out) hb)
                 have n3_ := qH (qD (g := gb345) (by (with_reducible repeat first | apply qA | apply qC | apply qB); exact BK345.out) hb)
                 have n4_ := qH (qD (g := gb352) (by (with_reducible repeat first | apply qA | apply qC | apply qB); exact BK352.out) hb)
                 have n5_ := qH (qD (g := gb357) (by (with_reducible repeat first | apply qA | apply qC | apply qB); exact BK357.out) hb)
                 have n6_ := qH (qD (g := gb362) (by (with_reducible repeat first | apply qA | apply qC | apply qB); exact BK362.out) hb)
                 have n7_ := qH (qD (g := gb367) (by (with_reducible repeat first | apply qA | apply qC | apply qB); exact BK367.out) hb)
                 have n8_ := qH (qD (g := gb372) (by (with_reducible repeat first | apply qA | apply qC | apply qB); exact BK372.out) hb)
                 have n9_ := qH (qD (g := gb377) (by (with_reducible repeat first | apply qA | apply qC | apply qB); exact BK377.out) hb)
                 have n10_ := qH (qD (g := gb384) (by (with_reducible repeat first | apply qA | apply qC | apply qB); exact BK384.out) hb)
                 have n11_ := qH (qD (g := gb386) (by (with_reducible repeat first | apply qA | apply qC | apply qB); exact BK386.out) hb)
                 have n12_ := qH (below_step (by repeat (first | (with_reducible first | exact HB.out | apply qL | apply qJ | apply qK | refine qI ?_ GE345.out | refine qI ?_ GE352.out | refine qI ?_ GE357.out | refine qI ?_ GE362.out | refine qI ?_ GE367.out | refine qI ?_ GE372.out | refine qI ?_ GE377.out | refine qI ?_ GE384.out | refine qI ?_ GE386.out) | exact HB.out)) hb)
                 clear HO_385002
                 clear HO393
                 clear HO396
                 clear BK345
                 clear BK352
                 clear BK357
                 clear BK362
                 clear BK367
                 clear BK372
                 clear BK377
                 clear BK384
                 clear BK386
                 clear HB
                 have HO_385002 := n0_
                 have HO393 := n1_
                 have HO396 := n2_
                 have BK345 := n3_
                 have BK352 := n4_
                 have BK357 := n5_
                 have BK362 := n6_
                 have BK367 := n7_
                 have BK372 := n8_
                 have BK377 := n9_
                 have BK384 := n10_
                 have BK386 := n11_
                 have HB := n12_
                 clear n0_ n1_ n2_ n3_ n4_ n5_ n6_ n7_ n8_ n9_ n10_ n11_ n12_
                 (try clear hb)
                 (try clear hb2)
                 (try clear hk)
                 (try clear hi)
                 refine hK.out _ _ ⟨(qE BK345.out 0).trans rfl, (qE BK345.out 1).trans rfl, (qE BK345.out 2).trans rfl, (qE BK352.out 0).trans rfl, (qE BK352.out 1).trans rfl, (qE BK352.out 2).trans rfl, (qE BK357.out 0).trans rfl, (qE BK357.out 1).trans rfl, (qE BK357.out 2).trans rfl, (qE BK362.out 0).trans rfl, (qE BK362.out 1).trans rfl, (qE BK362.out 2).trans rfl, (qE BK367.out 0).trans rfl, (qE BK367.out 1).trans rfl, (qE BK367.out 2).trans rfl, (qE BK372.out 0).trans rfl, (qE BK372.out 1).trans rfl, (qE BK372.out 2).trans rfl, (qE BK377.out 0).trans rfl, (qE BK377.out 1).trans rfl, (qE BK377.out 2).trans rfl⟩ (fun hHeld => ?_)
                 clear hK K
                 refine norm_ (a' := ?_) ?_ ?_
                 rotate_left
                 ·show Act.put _ (some 145) _ = _
                  simp only [Act.put, List.setIfInBounds_toArray, List.set_cons_zero, List.set_cons_succ, i64_w, i32_w]
                  rfl
                 refine pure_ (i := 44) (N := some 146) (v := ?_) (a' := ?_) #[true, true, true, true, true, true, true, true, true, true, true, true, true, true, true, true, true, true, true, true, true, true, true, true, true, true, true, true, true, true, true, true, true, true, true, true, true, true, true, true, true, true, true, true, true, false] rfl rfl (any_of HT_.out (by kernel_rfl)) (fun _ _ _ h => h) (Or.inl ⟨by rfl, ?_⟩) ?_ ?_
                 rotate_left
                 ·intro w'
                  go_simp
                  with_reducible rfl
                 rotate_left
                 ·simp only [Act.put, List.setIfInBounds_toArray, List.set_cons_zero, List.set_cons_succ, i64_w, i32_w]
                  rfl
                 refine pure_ (i := 45) (N := some 8) (v := ?_) (a' := ?_) #[true, true, true, true, true, true, true, true, true, true, true, true, true, true, true, true, true, true, true, true, true, true, true, true, true, true, true, true, true, true, true, true, true, true, true, true, true, true, true, true, true, true, true, true, true, true] rfl rfl (any_of HT_.out (by kernel_rfl)) (fun _ _ _ h => h) (Or.inl ⟨by rfl, ?_⟩) ?_ ?_
                 rotate_left
                 ·intro w'
                  go_simp
                  with_reducible rfl
                 rotate_left
                 ·simp only [Act.put, List.setIfInBounds_toArray, List.set_cons_zero, List.set_cons_succ, i64_w, i32_w]
                  rfl
                 refine done_ (done_of HT_.out (by kernel_rfl)) ?_
                 try go_wp2
                 go_ret
                 exact ⟨by first | rfl | (simp [errW_none, errW_some] <;> rfl) | (simp [*, errW_none, errW_some] <;> rfl), by repeat (first | (with_reducible first | exact HB.out | apply qL | apply qJ | apply qK | refine qI ?_ GE345.out | refine qI ?_ GE352.out | refine qI ?_ GE357.out | refine qI ?_ GE362.out | refine qI ?_ GE367.out | refine qI ?_ GE372.out | refine qI ?_ GE377.out | refine qI ?_ GE384.out | refine qI ?_ GE386.out) | exact HB.out)⟩
                ·rw [if_neg c198] at H
                 have c198b0 : (t371 == t376) = false := by simpa using c198
                 (try (have c198b1 : decide (t371 = t376) = false := by simpa using c198))
                 (try (have c198b2 : (t371 == t376) = false := by simpa using c198))
                 (try (have c198b3 : ¬ (t371 = t376) := by simpa using c198))
                 clear c198
                 obtain rfl := Option.some.inj H
                 exact absurd hTrue.out (by decide)
               ·rw [if_neg c197] at H
                have c197b0 : (t368 == t373 && (t369 == t374 && (t370 == t375))) = false := by simpa using c197
                (try (have c197b1 : decide (t368 = t373 && (t369 == t374 && (t370 == t375))) = false := by simpa using c197))
                (try (have c197b2 : (t368 == t373 && (t369 == t374 && (t370 == t375))) = false := by simpa using c197))
                (try (have c197b3 : ¬ (t368 = t373 && (t369 == t374 && (t370 == t375))) := by simpa using c197))
                clear c197
                obtain rfl := Option.some.inj H
                exact absurd hTrue.out (by decide)
              ·rw [if_neg c196] at H
               have c196b0 : (t361 == t366) = false := by simpa using c196
               (try (have c196b1 : decide (t361 = t366) = false := by simpa using c196))
               (try (have c196b2 : (t361 == t366) = false := by simpa using c196))
               (try (have c196b3 : ¬ (t361 = t366) := by simpa using c196))
               clear c196
               obtain rfl := Option.some.inj H
               exact absurd hTrue.out (by decide)
             ·rw [if_neg c195] at H
              have c195b0 : (t358 == t363 && (t359 == t364 && (t360 == t365))) = false := by simpa using c195
              (try (have c195b1 : decide (t358 = t363 && (t359 == t364 && (t360 == t365))) = false := by simpa using c195))
              (try (have c195b2 : (t358 == t363 && (t359 == t364 && (t360 == t365))) = false := by simpa using c195))
              (try (have c195b3 : ¬ (t358 = t363 && (t359 == t364 && (t360 == t365))) := by simpa using c195))
              clear c195
              obtain rfl := Option.some.inj H
              exact absurd hTrue.out (by decide)
            ·rw [if_neg c194] at H
             have c194b0 : (t351 == t356) = false := by simpa using c194
             (try (have c194b1 : decide (t351 = t356) = false := by simpa using c194))
             (try (have c194b2 : (t351 == t356) = false := by simpa using c194))
             (try (have c194b3 : ¬ (t351 = t356) := by simpa using c194))
             clear c194
             obtain rfl := Option.some.inj H
             exact absurd hTrue.out (by decide)
           ·rw [if_neg c193] at H
            have c193b0 : (t348 == t353 && (t349 == t354 && (t350 == t355))) = false := by simpa using c193
            (try (have c193b1 : decide (t348 = t353 && (t349 == t354 && (t350 == t355))) = false := by simpa using c193))
            (try (have c193b2 : (t348 == t353 && (t349 == t354 && (t350 == t355))) = false := by simpa using c193))
            (try (have c193b3 : ¬ (t348 = t353 && (t349 == t354 && (t350 == t355))) := by simpa using c193))
            clear c193
            obtain rfl := Option.some.inj H
            exact absurd hTrue.out (by decide)
          ·replace c192 := Bool.eq_false_iff.mpr c192
           subst c192
           have H1 : (some false) = some r := by rw [if_neg (show ¬ (false = true) by decide)] at H; exact H
           clear H
           have H := H1
           clear H1
           obtain rfl := Option.some.inj H
           exact absurd hTrue.out (by decide)
         ·rw [if_neg c188] at H
          have c188b0 : (t389 == t390) = false := beq_eq_false_iff_ne.mpr c188
          have c188b1 : (t389 != t390) = true := bne_iff_ne.mpr c188
          obtain rfl := Option.some.inj H
          exact absurd hTrue.out (by decide)

end Go.Proofs.Ytkcjekboakoejaa.Print
