-- Written by wip/tools/xprint.py of this session's repo (the kit's print, run with external functions). Lean checks it.
import Derived.Test.YtddjhmelniphgaaHLb
import Derived.Test.YtddjhmelniphgaaPrint0
import Derived.Test.YtddjhmelniphgaaPrint1
import Derived.Test.YtddjhmelniphgaaPrint2
import Derived.Test.YtddjhmelniphgaaPrint3
import Derived.Test.YtddjhmelniphgaaHGAdd
import Derived.Test.YtddjhmelniphgaaHGDrop
import Derived.Test.YtddjhmelniphgaaHGMay
import Derived.Test.YtddjhmelniphgaaHGOrder
namespace Go.Proofs.Ytddjhmelniphgaa.Print
open Go.RowKit Go.Proofs.YtddjhmelniphgaaW.PrintWords Go.Proofs.YtddjhmelniphgaaW.PrintLast Go.Proofs.YtddjhmelniphgaaW.PrintMore
attribute [local go_sem] max2_int min2_int max_two min_two max_three min_three max_four min_four   -- for this text's walks alone
set_option linter.unusedVariables false
set_option linter.unusedSimpArgs false

attribute [local go_sem high] eqA24
/-! ### codicillaw19_alive: function 8 -/
def codicillaw19_alive.f (k : Nat)  : Option (Bool) := (codicillaw19_node.f (⟨#[97]⟩ : ByteArray)).bind fun bt129 => ((graph_Add.f ([] : List (S40)) bt129.1 bt129.2 ([] : List (S24))).bind fun bt131 => ((codicillaw19_node.f (⟨#[98]⟩ : ByteArray)).bind fun bt135 => ((codicillaw19_node.f (⟨#[97]⟩ : ByteArray)).bind fun bt137 => ((graph_Add.f bt131.1 bt135.1 bt135.2 (([(⟨bt137.1, bt137.2⟩ : S24)] : List (S24)))).bind fun bt142 => ((codicillaw19_node.f (⟨#[99]⟩ : ByteArray)).bind fun bt146 => ((codicillaw19_node.f (⟨#[98]⟩ : ByteArray)).bind fun bt148 => ((codicillaw19_node.f (⟨#[97]⟩ : ByteArray)).bind fun bt150 => ((graph_Add.f bt142.1 bt146.1 bt146.2 (([(⟨bt148.1, bt148.2⟩ : S24), (⟨bt150.1, bt150.2⟩ : S24)] : List (S24)))).bind fun bt155 => ((codicillaw19_node.f (⟨#[99]⟩ : ByteArray)).bind fun bt159 => ((graph_Order.f bt155.1 (([(⟨bt159.1, bt159.2⟩ : S24)] : List (S24)))).bind fun bt164 => ((codicillaw19_node.f (⟨#[97]⟩ : ByteArray)).bind fun bt168 => ((graph_Drop.f bt155.1 bt168.1 bt168.2).bind fun bt170 => ((codicillaw19_node.f (⟨#[99]⟩ : ByteArray)).bind fun bt174 => ((graph_Drop.f bt155.1 bt174.1 bt174.2).bind fun bt176 => ((codicillaw19_node.f (⟨#[100]⟩ : ByteArray)).bind fun bt180 => ((codicillaw19_node.f (⟨#[101]⟩ : ByteArray)).bind fun bt182 => ((graph_Add.f bt155.1 bt180.1 bt180.2 (([(⟨bt182.1, bt182.2⟩ : S24)] : List (S24)))).bind fun bt187 => (if bt131.2 = 0 then (if bt142.2 = 0 then (if bt155.2 = 0 then (if (bt164.1.length : Int) = 3 then (if 0 < (bt164.1.length : Int) then ((codicillaw19_node.f (⟨#[97]⟩ : ByteArray)).bind fun bt192 => (if ((((rd_T24 bt164.1 0).f0).toList) == bt192.1.toList && (((rd_T24 bt164.1 0).f1) == bt192.2)) = true then (if 2 < (bt164.1.length : Int) then ((codicillaw19_node.f (⟨#[99]⟩ : ByteArray)).bind fun bt195 => (if ((((rd_T24 bt164.1 2).f0).toList) == bt195.1.toList && (((rd_T24 bt164.1 2).f1) == bt195.2)) = true then (if bt164.2 = 0 then (if bt170.2 = 3 then (if (bt176.1.length : Int) = 2 then (if bt176.2 = 0 then (if bt187.2 = 5 then ((graph_May.f bt155.1).bind fun t197 => (if t197 = 0 then ((codicillaw19_node.f (⟨#[97]⟩ : ByteArray)).bind fun bt198 => ((graph_Users.f k bt155.1 bt198.1 bt198.2).bind fun t200 => (if (t200.length : Int) = 2 then ((codicillaw19_node.f (⟨#[97]⟩ : ByteArray)).bind fun bt203 => ((codicillaw19_node.f (⟨#[98]⟩ : ByteArray)).bind fun bt205 => ((graph_Less.f k bt203.1 bt203.2 bt205.1 bt205.2).bind fun t207 => (some t207)))) else (some false)))) else (some false))) else (some false)) else (some false)) else (some false)) else (some false)) else (some false)) else (some false))) else (none)) else (some false))) else (none)) else (some false)) else (some false)) else (some false)) else (some false)))))))))))))))))))
theorem codicillaw19_alive.mono : ∀ k, LeO (codicillaw19_alive.f k ) (codicillaw19_alive.f (k + 1) ) := by
 intro  k
 unfold codicillaw19_alive.f
 repeat' first
   | (with_reducible exact graph_Less.mono _ _ _ _ _)
   | (with_reducible exact graph_Users.mono _ _ _ _)
   | (with_reducible exact LeO.refl _)
   | (with_reducible exact LeO.none _)
   | (with_reducible refine LeO.ite ?_ ?_)
   | (with_reducible refine LeO.bind ?_ (fun _ => ?_))
   | exact graph_Less.mono _ _ _ _ _
   | exact graph_Users.mono _ _ _ _
   | exact LeO.none _
   | refine LeO.ite ?_ ?_
   | refine LeO.bind ?_ (fun _ => ?_)
def codicillaw19_alive.T8 : Bool × List (List Nat × List Nat) := (true, [([], []), ([0], [0]), ([1], [1]), ([2], [2]), ([3, 2], [2, 3]), ([2, 4], [2, 4]), ([5, 2], [5]), ([6], [6]), ([7, 6], [6, 7]), ([6, 8], [6, 8]), ([9, 6], [9]), ([10], [10]), ([11, 10], [10, 11]), ([12, 10], [10, 12]), ([10, 13], [10, 13]), ([14, 10], [14]), ([15], [15]), ([16, 15], [15, 16]), ([17, 15], [15, 17]), ([15, 15], [15]), ([18, 19, 15], [15, 18, 19]), ([15, 20], [15, 20]), ([21, 19], [21]), ([22], [22]), ([23, 22], [22, 23]), ([24, 22], [22, 24]), ([22, 22], [22]), ([25, 26, 22], [22, 25, 26]), ([22, 27], [22, 27]), ([28, 26], [28]), ([29], [29]), ([30, 29], [29, 30]), ([29, 31], [29, 31]), ([32, 29], [32]), ([33], [33]), ([34, 33], [33, 34]), ([33, 35], [33, 35]), ([36, 33], [36]), ([37], [37]), ([38, 37], [37, 38]), ([39, 37], [37, 39]), ([37, 40], [37, 40]), ([41, 37], [41]), ([42], [42]), ([43, 42], [42, 43]), ([42, 44], [42, 44]), ([45, 42], [45]), ([46], [46]), ([47, 46], [46, 47]), ([46, 48], [46, 48]), ([49, 46], [49]), ([50], [50]), ([51, 50, 50], [50, 51]), ([52, 50], [50, 52]), ([50, 53], [50, 53]), ([54, 52], [54]), ([55], [55]), ([55, 55], [55]), ([56, 57, 57, 55], [55, 56, 57]), ([58, 55], [55, 58]), ([59, 55], [55, 59]), ([55, 60], [55, 60]), ([61, 58], [61]), ([62, 62], [62]), ([63, 62], [62]), ([63, 64, 64, 62], [62, 63, 64]), ([62, 65], [62, 65]), ([66, 65, 0, 1, 2, 3, 4, 5, 6, 7, 8, 9, 10, 11, 12, 13, 14, 15, 16, 17, 18, 19, 20, 21, 22, 23, 24, 25, 26, 27, 28, 29, 30, 31, 32, 33, 34, 35, 36, 37, 38, 39, 40, 41, 42, 43, 44, 45, 46, 47, 48, 49, 50, 51, 52, 53, 54, 55, 56, 57, 58, 59, 60, 61, 62, 63, 64, 65, 66], [66])])
def codicillaw19_alive.B8 : List Nat := [0, 1, 3, 7, 15, 31, 63, 127, 255, 511, 1023, 2047, 4095, 8191, 16383, 32767, 65535, 131071, 262143, 65535, 1048575, 2097151, 4194303, 8388607, 16777215, 33554431, 8388607, 134217727, 268435455, 536870911, 1073741823, 2147483647, 4294967295, 8589934591, 17179869183, 34359738367, 68719476735, 137438953471, 274877906943, 549755813887, 1099511627775, 2199023255551, 4398046511103, 8796093022207, 17592186044415, 35184372088831, 70368744177663, 140737488355327, 281474976710655, 562949953421311, 1125899906842623, 2251799813685247, 4503599627370495, 9007199254740991, 18014398509481983, 36028797018963967, 72057594037927935, 72057594037927935, 288230376151711743, 576460752303423487, 1152921504606846975, 2305843009213693951, 4611686018427387903, 9223372036854775807, 18446744073709551615, 36893488147419103231, 73786976294838206463, 147573952589676412927]
theorem codicillaw19_alive.tab8 : rtab .any (opsOf Try.f8 8) = codicillaw19_alive.T8 := by kernel_rfl
theorem codicillaw19_alive.bits8 : waitsOk codicillaw19_alive.T8.2 codicillaw19_alive.B8 = true := by kernel_rfl
set_option maxHeartbeats 8000000 in
set_option maxRecDepth 100000 in
theorem codicillaw19_alive.calls1 (k : Nat)  (r : Bool) (w : World) (h : codicillaw19_alive.f k  = some r) (hTrue : Aside0 (r = true)) :
  Calls Try.prog 8 #[] w fun e w' => e = .returned (.bool r) ∧ Below w.heap.size w w' := by
 have hu40 := Try.underlying40
 have hu24 := Try.underlying24
 have HB := qH (Below.refl w.heap.size w)
 have H : ((codicillaw19_node.f (⟨#[97]⟩ : ByteArray)).bind fun bt129 => ((graph_Add.f ([] : List (S40)) bt129.1 bt129.2 ([] : List (S24))).bind fun bt131 => ((codicillaw19_node.f (⟨#[98]⟩ : ByteArray)).bind fun bt135 => ((codicillaw19_node.f (⟨#[97]⟩ : ByteArray)).bind fun bt137 => ((graph_Add.f bt131.1 bt135.1 bt135.2 (([(⟨bt137.1, bt137.2⟩ : S24)] : List (S24)))).bind fun bt142 => ((codicillaw19_node.f (⟨#[99]⟩ : ByteArray)).bind fun bt146 => ((codicillaw19_node.f (⟨#[98]⟩ : ByteArray)).bind fun bt148 => ((codicillaw19_node.f (⟨#[97]⟩ : ByteArray)).bind fun bt150 => ((graph_Add.f bt142.1 bt146.1 bt146.2 (([(⟨bt148.1, bt148.2⟩ : S24), (⟨bt150.1, bt150.2⟩ : S24)] : List (S24)))).bind fun bt155 => ((codicillaw19_node.f (⟨#[99]⟩ : ByteArray)).bind fun bt159 => ((graph_Order.f bt155.1 (([(⟨bt159.1, bt159.2⟩ : S24)] : List (S24)))).bind fun bt164 => ((codicillaw19_node.f (⟨#[97]⟩ : ByteArray)).bind fun bt168 => ((graph_Drop.f bt155.1 bt168.1 bt168.2).bind fun bt170 => ((codicillaw19_node.f (⟨#[99]⟩ : ByteArray)).bind fun bt174 => ((graph_Drop.f bt155.1 bt174.1 bt174.2).bind fun bt176 => ((codicillaw19_node.f (⟨#[100]⟩ : ByteArray)).bind fun bt180 => ((codicillaw19_node.f (⟨#[101]⟩ : ByteArray)).bind fun bt182 => ((graph_Add.f bt155.1 bt180.1 bt180.2 (([(⟨bt182.1, bt182.2⟩ : S24)] : List (S24)))).bind fun bt187 => (if bt131.2 = 0 then (if bt142.2 = 0 then (if bt155.2 = 0 then (if (bt164.1.length : Int) = 3 then (if 0 < (bt164.1.length : Int) then ((codicillaw19_node.f (⟨#[97]⟩ : ByteArray)).bind fun bt192 => (if ((((rd_T24 bt164.1 0).f0).toList) == bt192.1.toList && (((rd_T24 bt164.1 0).f1) == bt192.2)) = true then (if 2 < (bt164.1.length : Int) then ((codicillaw19_node.f (⟨#[99]⟩ : ByteArray)).bind fun bt195 => (if ((((rd_T24 bt164.1 2).f0).toList) == bt195.1.toList && (((rd_T24 bt164.1 2).f1) == bt195.2)) = true then (if bt164.2 = 0 then (if bt170.2 = 3 then (if (bt176.1.length : Int) = 2 then (if bt176.2 = 0 then (if bt187.2 = 5 then ((graph_May.f bt155.1).bind fun t197 => (if t197 = 0 then ((codicillaw19_node.f (⟨#[97]⟩ : ByteArray)).bind fun bt198 => ((graph_Users.f k bt155.1 bt198.1 bt198.2).bind fun t200 => (if (t200.length : Int) = 2 then ((codicillaw19_node.f (⟨#[97]⟩ : ByteArray)).bind fun bt203 => ((codicillaw19_node.f (⟨#[98]⟩ : ByteArray)).bind fun bt205 => ((graph_Less.f k bt203.1 bt203.2 bt205.1 bt205.2).bind fun t207 => (some t207)))) else (some false)))) else (some false))) else (some false)) else (some false)) else (some false)) else (some false)) else (some false)) else (some false))) else (none)) else (some false))) else (none)) else (some false)) else (some false)) else (some false)) else (some false)))))))))))))))))))) = some r := h
 clear h
 replace H := Option.bind_eq_some_iff.mp H
 obtain ⟨⟨t129, t130⟩, A10, H⟩ := H
 (try dsimp only at H)
 have A1 := qH A10
 clear A10
 replace H := Option.bind_eq_some_iff.mp H
 obtain ⟨⟨t131, t134⟩, A20, H⟩ := H
 (try dsimp only at H)
 have A2 := qH A20
 clear A20
 replace H := Option.bind_eq_some_iff.mp H
 obtain ⟨⟨t135, t136⟩, A30, H⟩ := H
 (try dsimp only at H)
 have A3 := qH A30
 clear A30
 replace H := Option.bind_eq_some_iff.mp H
 obtain ⟨⟨t137, t138⟩, A40, H⟩ := H
 (try dsimp only at H)
 have A4 := qH A40
 clear A40
 obtain ⟨y139, hy139⟩ : ∃ y_ : List (S24), y_ = (([(⟨t137, t138⟩ : S24)] : List (S24))) := ⟨_, rfl⟩
 replace H : ((graph_Add.f t131 t135 t136 y139).bind fun bt142 => ((codicillaw19_node.f (⟨#[99]⟩ : ByteArray)).bind fun bt146 => ((codicillaw19_node.f (⟨#[98]⟩ : ByteArray)).bind fun bt148 => ((codicillaw19_node.f (⟨#[97]⟩ : ByteArray)).bind fun bt150 => ((graph_Add.f bt142.1 bt146.1 bt146.2 (([(⟨bt148.1, bt148.2⟩ : S24), (⟨bt150.1, bt150.2⟩ : S24)] : List (S24)))).bind fun bt155 => ((codicillaw19_node.f (⟨#[99]⟩ : ByteArray)).bind fun bt159 => ((graph_Order.f bt155.1 (([(⟨bt159.1, bt159.2⟩ : S24)] : List (S24)))).bind fun bt164 => ((codicillaw19_node.f (⟨#[97]⟩ : ByteArray)).bind fun bt168 => ((graph_Drop.f bt155.1 bt168.1 bt168.2).bind fun bt170 => ((codicillaw19_node.f (⟨#[99]⟩ : ByteArray)).bind fun bt174 => ((graph_Drop.f bt155.1 bt174.1 bt174.2).bind fun bt176 => ((codicillaw19_node.f (⟨#[100]⟩ : ByteArray)).bind fun bt180 => ((codicillaw19_node.f (⟨#[101]⟩ : ByteArray)).bind fun bt182 => ((graph_Add.f bt155.1 bt180.1 bt180.2 (([(⟨bt182.1, bt182.2⟩ : S24)] : List (S24)))).bind fun bt187 => (if t134 = 0 then (if bt142.2 = 0 then (if bt155.2 = 0 then (if (bt164.1.length : Int) = 3 then (if 0 < (bt164.1.length : Int) then ((codicillaw19_node.f (⟨#[97]⟩ : ByteArray)).bind fun bt192 => (if ((((rd_T24 bt164.1 0).f0).toList) == bt192.1.toList && (((rd_T24 bt164.1 0).f1) == bt192.2)) = true then (if 2 < (bt164.1.length : Int) then ((codicillaw19_node.f (⟨#[99]⟩ : ByteArray)).bind fun bt195 => (if ((((rd_T24 bt164.1 2).f0).toList) == bt195.1.toList && (((rd_T24 bt164.1 2).f1) == bt195.2)) = true then (if bt164.2 = 0 then (if bt170.2 = 3 then (if (bt176.1.length : Int) = 2 then (if bt176.2 = 0 then (if bt187.2 = 5 then ((graph_May.f bt155.1).bind fun t197 => (if t197 = 0 then ((codicillaw19_node.f (⟨#[97]⟩ : ByteArray)).bind fun bt198 => ((graph_Users.f k bt155.1 bt198.1 bt198.2).bind fun t200 => (if (t200.length : Int) = 2 then ((codicillaw19_node.f (⟨#[97]⟩ : ByteArray)).bind fun bt203 => ((codicillaw19_node.f (⟨#[98]⟩ : ByteArray)).bind fun bt205 => ((graph_Less.f k bt203.1 bt203.2 bt205.1 bt205.2).bind fun t207 => (some t207)))) else (some false)))) else (some false))) else (some false)) else (some false)) else (some false)) else (some false)) else (some false)) else (some false))) else (none)) else (some false))) else (none)) else (some false)) else (some false)) else (some false)) else (some false)))))))))))))))) = some r := by first | (rw [hy139]; with_reducible exact H) | (have H2_ := (Option.bind_some _ _).symm.trans H; rw [hy139]; with_reducible exact H2_) | (have H2_ := (Option.bind_some _ _).symm.trans H; with_reducible exact H2_) | with_reducible exact H | (rw [hy139]; exact H) | exact H
 have Ny139 := qH hy139
 clear hy139
 replace H := Option.bind_eq_some_iff.mp H
 obtain ⟨⟨t142, t145⟩, A50, H⟩ := H
 (try dsimp only at H)
 have A5 := qH A50
 clear A50
 replace H := Option.bind_eq_some_iff.mp H
 obtain ⟨⟨t146, t147⟩, A60, H⟩ := H
 (try dsimp only at H)
 have A6 := qH A60
 clear A60
 replace H := Option.bind_eq_some_iff.mp H
 obtain ⟨⟨t148, t149⟩, A70, H⟩ := H
 (try dsimp only at H)
 have A7 := qH A70
 clear A70
 replace H := Option.bind_eq_some_iff.mp H
 obtain ⟨⟨t150, t151⟩, A80, H⟩ := H
 (try dsimp only at H)
 have A8 := qH A80
 clear A80
 obtain ⟨y152, hy152⟩ : ∃ y_ : List (S24), y_ = (([(⟨t148, t149⟩ : S24), (⟨t150, t151⟩ : S24)] : List (S24))) := ⟨_, rfl⟩
 replace H : ((graph_Add.f t142 t146 t147 y152).bind fun bt155 => ((codicillaw19_node.f (⟨#[99]⟩ : ByteArray)).bind fun bt159 => ((graph_Order.f bt155.1 (([(⟨bt159.1, bt159.2⟩ : S24)] : List (S24)))).bind fun bt164 => ((codicillaw19_node.f (⟨#[97]⟩ : ByteArray)).bind fun bt168 => ((graph_Drop.f bt155.1 bt168.1 bt168.2).bind fun bt170 => ((codicillaw19_node.f (⟨#[99]⟩ : ByteArray)).bind fun bt174 => ((graph_Drop.f bt155.1 bt174.1 bt174.2).bind fun bt176 => ((codicillaw19_node.f (⟨#[100]⟩ : ByteArray)).bind fun bt180 => ((codicillaw19_node.f (⟨#[101]⟩ : ByteArray)).bind fun bt182 => ((graph_Add.f bt155.1 bt180.1 bt180.2 (([(⟨bt182.1, bt182.2⟩ : S24)] : List (S24)))).bind fun bt187 => (if t134 = 0 then (if t145 = 0 then (if bt155.2 = 0 then (if (bt164.1.length : Int) = 3 then (if 0 < (bt164.1.length : Int) then ((codicillaw19_node.f (⟨#[97]⟩ : ByteArray)).bind fun bt192 => (if ((((rd_T24 bt164.1 0).f0).toList) == bt192.1.toList && (((rd_T24 bt164.1 0).f1) == bt192.2)) = true then (if 2 < (bt164.1.length : Int) then ((codicillaw19_node.f (⟨#[99]⟩ : ByteArray)).bind fun bt195 => (if ((((rd_T24 bt164.1 2).f0).toList) == bt195.1.toList && (((rd_T24 bt164.1 2).f1) == bt195.2)) = true then (if bt164.2 = 0 then (if bt170.2 = 3 then (if (bt176.1.length : Int) = 2 then (if bt176.2 = 0 then (if bt187.2 = 5 then ((graph_May.f bt155.1).bind fun t197 => (if t197 = 0 then ((codicillaw19_node.f (⟨#[97]⟩ : ByteArray)).bind fun bt198 => ((graph_Users.f k bt155.1 bt198.1 bt198.2).bind fun t200 => (if (t200.length : Int) = 2 then ((codicillaw19_node.f (⟨#[97]⟩ : ByteArray)).bind fun bt203 => ((codicillaw19_node.f (⟨#[98]⟩ : ByteArray)).bind fun bt205 => ((graph_Less.f k bt203.1 bt203.2 bt205.1 bt205.2).bind fun t207 => (some t207)))) else (some false)))) else (some false))) else (some false)) else (some false)) else (some false)) else (some false)) else (some false)) else (some false))) else (none)) else (some false))) else (none)) else (some false)) else (some false)) else (some false)) else (some false)))))))))))) = some r := by first | (rw [hy152]; with_reducible exact H) | (have H2_ := (Option.bind_some _ _).symm.trans H; rw [hy152]; with_reducible exact H2_) | (have H2_ := (Option.bind_some _ _).symm.trans H; with_reducible exact H2_) | with_reducible exact H | (rw [hy152]; exact H) | exact H
 have Ny152 := qH hy152
 clear hy152
 replace H := Option.bind_eq_some_iff.mp H
 obtain ⟨⟨t155, t158⟩, A90, H⟩ := H
 (try dsimp only at H)
 have A9 := qH A90
 clear A90
 replace H := Option.bind_eq_some_iff.mp H
 obtain ⟨⟨t159, t160⟩, A100, H⟩ := H
 (try dsimp only at H)
 have A10 := qH A100
 clear A100
 obtain ⟨y161, hy161⟩ : ∃ y_ : List (S24), y_ = (([(⟨t159, t160⟩ : S24)] : List (S24))) := ⟨_, rfl⟩
 replace H : ((graph_Order.f t155 y161).bind fun bt164 => ((codicillaw19_node.f (⟨#[97]⟩ : ByteArray)).bind fun bt168 => ((graph_Drop.f t155 bt168.1 bt168.2).bind fun bt170 => ((codicillaw19_node.f (⟨#[99]⟩ : ByteArray)).bind fun bt174 => ((graph_Drop.f t155 bt174.1 bt174.2).bind fun bt176 => ((codicillaw19_node.f (⟨#[100]⟩ : ByteArray)).bind fun bt180 => ((codicillaw19_node.f (⟨#[101]⟩ : ByteArray)).bind fun bt182 => ((graph_Add.f t155 bt180.1 bt180.2 (([(⟨bt182.1, bt182.2⟩ : S24)] : List (S24)))).bind fun bt187 => (if t134 = 0 then (if t145 = 0 then (if t158 = 0 then (if (bt164.1.length : Int) = 3 then (if 0 < (bt164.1.length : Int) then ((codicillaw19_node.f (⟨#[97]⟩ : ByteArray)).bind fun bt192 => (if ((((rd_T24 bt164.1 0).f0).toList) == bt192.1.toList && (((rd_T24 bt164.1 0).f1) == bt192.2)) = true then (if 2 < (bt164.1.length : Int) then ((codicillaw19_node.f (⟨#[99]⟩ : ByteArray)).bind fun bt195 => (if ((((rd_T24 bt164.1 2).f0).toList) == bt195.1.toList && (((rd_T24 bt164.1 2).f1) == bt195.2)) = true then (if bt164.2 = 0 then (if bt170.2 = 3 then (if (bt176.1.length : Int) = 2 then (if bt176.2 = 0 then (if bt187.2 = 5 then ((graph_May.f t155).bind fun t197 => (if t197 = 0 then ((codicillaw19_node.f (⟨#[97]⟩ : ByteArray)).bind fun bt198 => ((graph_Users.f k t155 bt198.1 bt198.2).bind fun t200 => (if (t200.length : Int) = 2 then ((codicillaw19_node.f (⟨#[97]⟩ : ByteArray)).bind fun bt203 => ((codicillaw19_node.f (⟨#[98]⟩ : ByteArray)).bind fun bt205 => ((graph_Less.f k bt203.1 bt203.2 bt205.1 bt205.2).bind fun t207 => (some t207)))) else (some false)))) else (some false))) else (some false)) else (some false)) else (some false)) else (some false)) else (some false)) else (some false))) else (none)) else (some false))) else (none)) else (some false)) else (some false)) else (some false)) else (some false)))))))))) = some r := by first | (rw [hy161]; with_reducible exact H) | (have H2_ := (Option.bind_some _ _).symm.trans H; rw [hy161]; with_reducible exact H2_) | (have H2_ := (Option.bind_some _ _).symm.trans H; with_reducible exact H2_) | with_reducible exact H | (rw [hy161]; exact H) | exact H
 have Ny161 := qH hy161
 clear hy161
 replace H := Option.bind_eq_some_iff.mp H
 obtain ⟨⟨t164, t165⟩, A110, H⟩ := H
 (try dsimp only at H)
 have A11 := qH A110
 clear A110
 replace H := Option.bind_eq_some_iff.mp H
 obtain ⟨⟨t168, t169⟩, A120, H⟩ := H
 (try dsimp only at H)
 have A12 := qH A120
 clear A120
 replace H := Option.bind_eq_some_iff.mp H
 obtain ⟨⟨t170, t173⟩, A130, H⟩ := H
 (try dsimp only at H)
 have A13 := qH A130
 clear A130
 replace H := Option.bind_eq_some_iff.mp H
 obtain ⟨⟨t174, t175⟩, A140, H⟩ := H
 (try dsimp only at H)
 have A14 := qH A140
 clear A140
 replace H := Option.bind_eq_some_iff.mp H
 obtain ⟨⟨t176, t179⟩, A150, H⟩ := H
 (try dsimp only at H)
 have A15 := qH A150
 clear A150
 replace H := Option.bind_eq_some_iff.mp H
 obtain ⟨⟨t180, t181⟩, A160, H⟩ := H
 (try dsimp only at H)
 have A16 := qH A160
 clear A160
 replace H := Option.bind_eq_some_iff.mp H
 obtain ⟨⟨t182, t183⟩, A170, H⟩ := H
 (try dsimp only at H)
 have A17 := qH A170
 clear A170
 obtain ⟨y184, hy184⟩ : ∃ y_ : List (S24), y_ = (([(⟨t182, t183⟩ : S24)] : List (S24))) := ⟨_, rfl⟩
 replace H : ((graph_Add.f t155 t180 t181 y184).bind fun bt187 => (if t134 = 0 then (if t145 = 0 then (if t158 = 0 then (if (t164.length : Int) = 3 then (if 0 < (t164.length : Int) then ((codicillaw19_node.f (⟨#[97]⟩ : ByteArray)).bind fun bt192 => (if ((((rd_T24 t164 0).f0).toList) == bt192.1.toList && (((rd_T24 t164 0).f1) == bt192.2)) = true then (if 2 < (t164.length : Int) then ((codicillaw19_node.f (⟨#[99]⟩ : ByteArray)).bind fun bt195 => (if ((((rd_T24 t164 2).f0).toList) == bt195.1.toList && (((rd_T24 t164 2).f1) == bt195.2)) = true then (if t165 = 0 then (if t173 = 3 then (if (t176.length : Int) = 2 then (if t179 = 0 then (if bt187.2 = 5 then ((graph_May.f t155).bind fun t197 => (if t197 = 0 then ((codicillaw19_node.f (⟨#[97]⟩ : ByteArray)).bind fun bt198 => ((graph_Users.f k t155 bt198.1 bt198.2).bind fun t200 => (if (t200.length : Int) = 2 then ((codicillaw19_node.f (⟨#[97]⟩ : ByteArray)).bind fun bt203 => ((codicillaw19_node.f (⟨#[98]⟩ : ByteArray)).bind fun bt205 => ((graph_Less.f k bt203.1 bt203.2 bt205.1 bt205.2).bind fun t207 => (some t207)))) else (some false)))) else (some false))) else (some false)) else (some false)) else (some false)) else (some false)) else (some false)) else (some false))) else (none)) else (some false))) else (none)) else (some false)) else (some false)) else (some false)) else (some false))) = some r := by first | (rw [hy184]; with_reducible exact H) | (have H2_ := (Option.bind_some _ _).symm.trans H; rw [hy184]; with_reducible exact H2_) | (have H2_ := (Option.bind_some _ _).symm.trans H; with_reducible exact H2_) | with_reducible exact H | (rw [hy184]; exact H) | exact H
 have Ny184 := qH hy184
 clear hy184
 replace H := Option.bind_eq_some_iff.mp H
 obtain ⟨⟨t187, t190⟩, A180, H⟩ := H
 (try dsimp only at H)
 have A18 := qH A180
 clear A180
 by_cases c19 : t134 = 0
 ·rw [if_pos c19] at H
  have c19b0 : (t134 == 0) = true := beq_iff_eq.mpr c19
  have c19b1 : (t134 != 0) = false := bne_eq_false_iff_eq.mpr c19
  clear c19
  by_cases c20 : t145 = 0
  ·rw [if_pos c20] at H
   have c20b0 : (t145 == 0) = true := beq_iff_eq.mpr c20
   have c20b1 : (t145 != 0) = false := bne_eq_false_iff_eq.mpr c20
   clear c20
   by_cases c21 : t158 = 0
   ·rw [if_pos c21] at H
    have c21b0 : (t158 == 0) = true := beq_iff_eq.mpr c21
    have c21b1 : (t158 != 0) = false := bne_eq_false_iff_eq.mpr c21
    clear c21
    by_cases c22 : (t164.length : Int) = 3
    ·rw [if_pos c22] at H
     have c22b0 : ((t164.length : Int) == 3) = true := beq_iff_eq.mpr c22
     have c22b1 : ((t164.length : Int) != 3) = false := bne_eq_false_iff_eq.mpr c22
     clear c22
     by_cases c23 : 0 < (t164.length : Int)
     ·rw [if_pos c23] at H
      have c23b0 : decide (0 < (t164.length : Int)) = true := decide_eq_true c23
      have c23b1 : decide (0 < t164.length) = true := decide_eq_true (by omega)
      clear c23
      replace H := Option.bind_eq_some_iff.mp H
      obtain ⟨⟨t192, t193⟩, A240, H⟩ := H
      (try dsimp only at H)
      have A24 := qH A240
      clear A240
      by_cases c25 : ((((rd_T24 t164 0).f0).toList) == t192.toList && (((rd_T24 t164 0).f1) == t193)) = true
      ·rw [if_pos c25] at H
       have c25b0 : ((((rd_T24 t164 0).f0).toList) == t192.toList && (((rd_T24 t164 0).f1) == t193)) = true := c25
       (try (have c25b1 : decide ((((rd_T24 t164 0).f0).toList) = t192.toList && (((rd_T24 t164 0).f1) == t193)) = true := by simpa using c25))
       (try (have c25b2 : ((((rd_T24 t164 0).f0).toList) == t192.toList && (((rd_T24 t164 0).f1) == t193)) = true := by simpa using c25))
       clear c25
       by_cases c26 : 2 < (t164.length : Int)
       ·rw [if_pos c26] at H
        have c26b0 : decide (2 < (t164.length : Int)) = true := decide_eq_true c26
        have c26b1 : decide (2 < t164.length) = true := decide_eq_true (by omega)
        clear c26
        replace H := Option.bind_eq_some_iff.mp H
        obtain ⟨⟨t195, t196⟩, A270, H⟩ := H
        (try dsimp only at H)
        have A27 := qH A270
        clear A270
        by_cases c28 : ((((rd_T24 t164 2).f0).toList) == t195.toList && (((rd_T24 t164 2).f1) == t196)) = true
        ·rw [if_pos c28] at H
         have c28b0 : ((((rd_T24 t164 2).f0).toList) == t195.toList && (((rd_T24 t164 2).f1) == t196)) = true := c28
         (try (have c28b1 : decide ((((rd_T24 t164 2).f0).toList) = t195.toList && (((rd_T24 t164 2).f1) == t196)) = true := by simpa using c28))
         (try (have c28b2 : ((((rd_T24 t164 2).f0).toList) == t195.toList && (((rd_T24 t164 2).f1) == t196)) = true := by simpa using c28))
         clear c28
         by_cases c29 : t165 = 0
         ·rw [if_pos c29] at H
          have c29b0 : (t165 == 0) = true := beq_iff_eq.mpr c29
          have c29b1 : (t165 != 0) = false := bne_eq_false_iff_eq.mpr c29
          clear c29
          by_cases c30 : t173 = 3
          ·rw [if_pos c30] at H
           have c30b0 : (t173 == 3) = true := beq_iff_eq.mpr c30
           have c30b1 : (t173 != 3) = false := bne_eq_false_iff_eq.mpr c30
           clear c30
           by_cases c31 : (t176.length : Int) = 2
           ·rw [if_pos c31] at H
            have c31b0 : ((t176.length : Int) == 2) = true := beq_iff_eq.mpr c31
            have c31b1 : ((t176.length : Int) != 2) = false := bne_eq_false_iff_eq.mpr c31
            clear c31
            by_cases c32 : t179 = 0
            ·rw [if_pos c32] at H
             have c32b0 : (t179 == 0) = true := beq_iff_eq.mpr c32
             have c32b1 : (t179 != 0) = false := bne_eq_false_iff_eq.mpr c32
             clear c32
             by_cases c33 : t190 = 5
             ·rw [if_pos c33] at H
              have c33b0 : (t190 == 5) = true := beq_iff_eq.mpr c33
              have c33b1 : (t190 != 5) = false := bne_eq_false_iff_eq.mpr c33
              clear c33
              replace H := Option.bind_eq_some_iff.mp H
              obtain ⟨t197, A340, H⟩ := H
              (try dsimp only at H)
              have A34 := qH A340
              clear A340
              by_cases c35 : t197 = 0
              ·rw [if_pos c35] at H
               have c35b0 : (t197 == 0) = true := beq_iff_eq.mpr c35
               have c35b1 : (t197 != 0) = false := bne_eq_false_iff_eq.mpr c35
               clear c35
               replace H := Option.bind_eq_some_iff.mp H
               obtain ⟨⟨t198, t199⟩, A360, H⟩ := H
               (try dsimp only at H)
               have A36 := qH A360
               clear A360
               replace H := Option.bind_eq_some_iff.mp H
               obtain ⟨t200, A370, H⟩ := H
               (try dsimp only at H)
               have A37 := qH A370
               clear A370
               by_cases c38 : (t200.length : Int) = 2
               ·rw [if_pos c38] at H
                have c38b0 : ((t200.length : Int) == 2) = true := beq_iff_eq.mpr c38
                have c38b1 : ((t200.length : Int) != 2) = false := bne_eq_false_iff_eq.mpr c38
                clear c38
                replace H := Option.bind_eq_some_iff.mp H
                obtain ⟨⟨t203, t204⟩, A390, H⟩ := H
                (try dsimp only at H)
                have A39 := qH A390
                clear A390
                replace H := Option.bind_eq_some_iff.mp H
                obtain ⟨⟨t205, t206⟩, A400, H⟩ := H
                (try dsimp only at H)
                have A40 := qH A400
                clear A400
                replace H := Option.bind_eq_some_iff.mp H
                obtain ⟨t207, A410, H⟩ := H
                (try dsimp only at H)
                have A41 := qH A410
                clear A410
                obtain rfl := Option.some.inj H
                simp only [Option.some.injEq, Prod.mk.injEq] at H
                obtain ⟨rfl⟩ := H
                go_enter Try.func8, Try.ntmps8
                try go_wp2_with (first | ((with_reducible refine gate_callee (f := 25) rfl ?_); refine goesL_ (some 14) rfl rfl Try.func25 (by kernel_rfl) rfl #[.string (⟨#[97]⟩ : ByteArray)] rfl (by (try simp only [zX, zY, zZ]); first | done | rfl | (simp only [zD, zE]; rfl)) ?_; (with_reducible refine (codicillaw19_node.calls (⟨#[97]⟩ : ByteArray) t129 t130 _ A1.out).mono ?_); rintro e w42 ⟨rfl, hb⟩; refine ⟨_, rfl, ?_⟩; have n0_ := qH (below_step (by repeat (first | (with_reducible first | exact HB.out | apply qL | apply qJ | apply qK) | exact HB.out)) hb); clear HB; have HB := n0_; clear n0_; (try clear hb); (try clear hb2); (try clear hk); (try clear hi)) | ((with_reducible refine gate_callee (f := 19) rfl ?_); refine goesL_ (some 16) rfl rfl Try.func19 (by kernel_rfl) rfl #[.slice none 0 0, .agg #[.string t129, .int .i64 t130, .slice none 0 0]] rfl (by (try simp only [zX, zY, zZ]); first | done | rfl | (simp only [zD, zE]; rfl)) ?_; (refine (graph_Add.calls (fun k_ => False) _ _ ([] : List (S40)) t129 t130 (fun k_ => False) _ _ ([] : List (S24)) t131 t134 _ ?side1 ?side2 A2.out).mono ?_); (case side1 => exact Kd.V_nil _ _ _ _ _); (case side2 => exact Kd.V_nil _ _ _ _ _); rintro e w43 ⟨v132, rfl, ho0, hb⟩; refine ⟨_, rfl, ?_⟩; have n0_ := qH (Kd.V_lower (Kd.V_mono (ok' := fun k_ => True) ho0 (fun k_ hk_ => trivial)) (below_size (by repeat (first | (with_reducible first | exact HB.out | apply qL | apply qJ | apply qK) | exact HB.out)))); have n1_ := qH (below_step (by repeat (first | (with_reducible first | exact HB.out | apply qL | apply qJ | apply qK) | exact HB.out)) hb); clear HB; have HO133 := n0_; have HB := n1_; clear n0_ n1_; (try clear hb); (try clear hb2); (try clear hk); (try clear hi); (try clear ho0)) | ((with_reducible refine gate_callee (f := 25) rfl ?_); refine goesL_ (some 21) rfl rfl Try.func25 (by kernel_rfl) rfl #[.string (⟨#[98]⟩ : ByteArray)] rfl (by (try simp only [zX, zY, zZ]); first | done | rfl | (simp only [zD, zE]; rfl)) ?_; (with_reducible refine (codicillaw19_node.calls (⟨#[98]⟩ : ByteArray) t135 t136 _ A3.out).mono ?_); rintro e w44 ⟨rfl, hb⟩; refine ⟨_, rfl, ?_⟩; have n0_ := qH (Kd.V_below (by (with_reducible repeat first | apply zVa | apply zVb | apply zVc); exact HO133.out) hb); have n1_ := qH (below_step (by repeat (first | (with_reducible first | exact HB.out | apply qL | apply qJ | apply qK) | exact HB.out)) hb); clear HO133; clear HB; have HO133 := n0_; have HB := n1_; clear n0_ n1_; (try clear hb); (try clear hb2); (try clear hk); (try clear hi)) | ((with_reducible refine gate_callee (f := 25) rfl ?_); refine goesL_ (some 22) rfl rfl Try.func25 (by kernel_rfl) rfl #[.string (⟨#[97]⟩ : ByteArray)] rfl (by (try simp only [zX, zY, zZ]); first | done | rfl | (simp only [zD, zE]; rfl)) ?_; (with_reducible refine (codicillaw19_node.calls (⟨#[97]⟩ : ByteArray) t137 t138 _ A4.out).mono ?_); rintro e w45 ⟨rfl, hb⟩; refine ⟨_, rfl, ?_⟩; have n0_ := qH (Kd.V_below (by (with_reducible repeat first | apply zVa | apply zVb | apply zVc); exact HO133.out) hb); have n1_ := qH (below_step (by repeat (first | (with_reducible first | exact HB.out | apply qL | apply qJ | apply qK) | exact HB.out)) hb); clear HO133; clear HB; have HO133 := n0_; have HB := n1_; clear n0_ n1_; (try clear hb); (try clear hb2); (try clear hk); (try clear hi)) | ((with_reducible refine gate_dst (N := 23) rfl ?_); (try (refine gate_guard (by rfl) ?_; dsimp only)); refine Kd.R_lit k24 _ 24 ?hg (N := 23) ?hd (xs := ([(⟨t137, t138⟩ : S24)] : List (S24))) (inner := [.string t137, .int .i64 t138]) (ok := fun _ => True) (okp := fun _ => True) ?hr ?hp (fun _ hk => hk) trivial (Below.refl _ _) (Nat.le_refl _) (by simp) ?_; (case hd => rfl); (case hg => rfl); (case hr => first | (go_simp; done) | (go_simp; rfl) | (go_simp; simp [IntKind.wrap_u32]; done)); (case hp => exact (Reps.c2 (show Kd.M k24 _ _ _ (⟨t137, t138⟩ : S24) [.string t137, .int .i64 t138] from (k24_mkM _ _ _ (⟨t137, t138⟩ : S24) )) (Reps.none _ _))); intro v140 w46 ho47 hb hg_ hnew_; clear hg_ hnew_; (first | rw [← Ny139.out] at ho47 | (simp only [Int.reduceToNat] at ho47; rw [← Ny139.out] at ho47)); have n0_ := qH (Kd.V_elder' (by (with_reducible repeat first | apply zVa | apply zVb | apply zVc); exact HO133.out) (Kd.R_base ho47) hb); have n1_ := qH (Kd.R_lower ho47 (below_size (by repeat (first | (with_reducible first | exact HB.out | apply qL | apply qJ | apply qK) | exact HB.out)))); have n2_ := qH (below_step (by repeat (first | (with_reducible first | exact HB.out | apply qL | apply qJ | apply qK) | exact HB.out)) hb); clear HO133; clear HB; have HO133 := n0_; have HO141 := n1_; have HB := n2_; clear n0_ n1_ n2_; clear hb ho47; obtain ⟨Ao48, co48, eo48⟩ := Kd.R_slice HO141.out; subst eo48; obtain ⟨Ao49, co49, eo49⟩ := Kd.V_slice HO133.out; subst eo49) | ((with_reducible refine gate_callee (f := 19) rfl ?_); refine goesL_ (some 25) rfl rfl Try.func19 (by kernel_rfl) rfl #[.slice Ao49 t131.length co49, .agg #[.string t135, .int .i64 t136, .slice Ao48 y139.length co48]] rfl (by (try simp only [zX, zY, zZ]); first | done | rfl | (simp only [zD, zE]; rfl)) ?_; (with_reducible refine (graph_Add.calls (fun k_ => (True ∧ some k_ ≠ (.slice Ao48 y139.length co48 : Value).ownBlock)) _ _ t131 t135 t136 (fun k_ => some k_ = (.slice Ao48 y139.length co48 : Value).ownBlock) _ _ y139 t142 t145 _ ?side1 ?side2 A5.out).mono ?_); (case side1 => exact HO133.out); (case side2 => exact Kd.R_V (Kd.R_tight rfl (HO141.out))); rintro e w50 ⟨v143, rfl, ho0, hb⟩; refine ⟨_, rfl, ?_⟩; have n0_ := qH (Kd.V_below (by (with_reducible repeat first | apply zVa | apply zVb | apply zVc); exact HO133.out) hb); have n1_ := qH (Kd.R_below (by (with_reducible repeat first | apply zRa | apply zRb | apply zRc); exact HO141.out) hb); have n2_ := qH (Kd.V_lower (Kd.V_mono (ok' := fun k_ => True) ho0 (fun k_ hk_ => trivial)) (below_size (by repeat (first | (with_reducible first | exact HB.out | apply qL | apply qJ | apply qK) | exact HB.out)))); have n3_ := qH (below_step (by repeat (first | (with_reducible first | exact HB.out | apply qL | apply qJ | apply qK) | exact HB.out)) hb); clear HO133; clear HO141; clear HB; have HO133 := n0_; have HO141 := n1_; have HO144 := n2_; have HB := n3_; clear n0_ n1_ n2_ n3_; (try clear hb); (try clear hb2); (try clear hk); (try clear hi); (try clear ho0)) | ((with_reducible refine gate_callee (f := 25) rfl ?_); refine goesL_ (some 30) rfl rfl Try.func25 (by kernel_rfl) rfl #[.string (⟨#[99]⟩ : ByteArray)] rfl (by (try simp only [zX, zY, zZ]); first | done | rfl | (simp only [zD, zE]; rfl)) ?_; (with_reducible refine (codicillaw19_node.calls (⟨#[99]⟩ : ByteArray) t146 t147 _ A6.out).mono ?_); rintro e w51 ⟨rfl, hb⟩; refine ⟨_, rfl, ?_⟩; have n0_ := qH (Kd.V_below (by (with_reducible repeat first | apply zVa | apply zVb | apply zVc); exact HO133.out) hb); have n1_ := qH (Kd.R_below (by (with_reducible repeat first | apply zRa | apply zRb | apply zRc); exact HO141.out) hb); have n2_ := qH (Kd.V_below (by (with_reducible repeat first | apply zVa | apply zVb | apply zVc); exact HO144.out) hb); have n3_ := qH (below_step (by repeat (first | (with_reducible first | exact HB.out | apply qL | apply qJ | apply qK) | exact HB.out)) hb); clear HO133; clear HO141; clear HO144; clear HB; have HO133 := n0_; have HO141 := n1_; have HO144 := n2_; have HB := n3_; clear n0_ n1_ n2_ n3_; (try clear hb); (try clear hb2); (try clear hk); (try clear hi)) | ((with_reducible refine gate_callee (f := 25) rfl ?_); refine goesL_ (some 31) rfl rfl Try.func25 (by kernel_rfl) rfl #[.string (⟨#[98]⟩ : ByteArray)] rfl (by (try simp only [zX, zY, zZ]); first | done | rfl | (simp only [zD, zE]; rfl)) ?_; (with_reducible refine (codicillaw19_node.calls (⟨#[98]⟩ : ByteArray) t148 t149 _ A7.out).mono ?_); rintro e w52 ⟨rfl, hb⟩; refine ⟨_, rfl, ?_⟩; have n0_ := qH (Kd.V_below (by (with_reducible repeat first | apply zVa | apply zVb | apply zVc); exact HO133.out) hb); have n1_ := qH (Kd.R_below (by (with_reducible repeat first | apply zRa | apply zRb | apply zRc); exact HO141.out) hb); have n2_ := qH (Kd.V_below (by (with_reducible repeat first | apply zVa | apply zVb | apply zVc); exact HO144.out) hb); have n3_ := qH (below_step (by repeat (first | (with_reducible first | exact HB.out | apply qL | apply qJ | apply qK) | exact HB.out)) hb); clear HO133; clear HO141; clear HO144; clear HB; have HO133 := n0_; have HO141 := n1_; have HO144 := n2_; have HB := n3_; clear n0_ n1_ n2_ n3_; (try clear hb); (try clear hb2); (try clear hk); (try clear hi)) | ((with_reducible refine gate_callee (f := 25) rfl ?_); refine goesL_ (some 32) rfl rfl Try.func25 (by kernel_rfl) rfl #[.string (⟨#[97]⟩ : ByteArray)] rfl (by (try simp only [zX, zY, zZ]); first | done | rfl | (simp only [zD, zE]; rfl)) ?_; (with_reducible refine (codicillaw19_node.calls (⟨#[97]⟩ : ByteArray) t150 t151 _ A8.out).mono ?_); rintro e w53 ⟨rfl, hb⟩; refine ⟨_, rfl, ?_⟩; have n0_ := qH (Kd.V_below (by (with_reducible repeat first | apply zVa | apply zVb | apply zVc); exact HO133.out) hb); have n1_ := qH (Kd.R_below (by (with_reducible repeat first | apply zRa | apply zRb | apply zRc); exact HO141.out) hb); have n2_ := qH (Kd.V_below (by (with_reducible repeat first | apply zVa | apply zVb | apply zVc); exact HO144.out) hb); have n3_ := qH (below_step (by repeat (first | (with_reducible first | exact HB.out | apply qL | apply qJ | apply qK) | exact HB.out)) hb); clear HO133; clear HO141; clear HO144; clear HB; have HO133 := n0_; have HO141 := n1_; have HO144 := n2_; have HB := n3_; clear n0_ n1_ n2_ n3_; (try clear hb); (try clear hb2); (try clear hk); (try clear hi)) | ((with_reducible refine gate_dst (N := 33) rfl ?_); (try (refine gate_guard (by rfl) ?_; dsimp only)); refine Kd.R_lit k24 _ 24 ?hg (N := 33) ?hd (xs := ([(⟨t148, t149⟩ : S24), (⟨t150, t151⟩ : S24)] : List (S24))) (inner := [.string t148, .int .i64 t149, .string t150, .int .i64 t151]) (ok := fun _ => True) (okp := fun _ => True) ?hr ?hp (fun _ hk => hk) trivial (Below.refl _ _) (Nat.le_refl _) (by simp) ?_; (case hd => rfl); (case hg => rfl); (case hr => first | (go_simp; done) | (go_simp; rfl) | (go_simp; simp [IntKind.wrap_u32]; done)); (case hp => exact (Reps.c2 (show Kd.M k24 _ _ _ (⟨t148, t149⟩ : S24) [.string t148, .int .i64 t149] from (k24_mkM _ _ _ (⟨t148, t149⟩ : S24) )) (Reps.c2 (show Kd.M k24 _ _ _ (⟨t150, t151⟩ : S24) [.string t150, .int .i64 t151] from (k24_mkM _ _ _ (⟨t150, t151⟩ : S24) )) (Reps.none _ _)))); intro v153 w54 ho55 hb hg_ hnew_; clear hg_ hnew_; (first | rw [← Ny152.out] at ho55 | (simp only [Int.reduceToNat] at ho55; rw [← Ny152.out] at ho55)); have n0_ := qH (Kd.V_elder' (by (with_reducible repeat first | apply zVa | apply zVb | apply zVc); exact HO133.out) (Kd.R_base ho55) hb); have n1_ := qH (Kd.R_elder' (by (with_reducible repeat first | apply zRa | apply zRb | apply zRc); exact HO141.out) (Kd.R_base ho55) hb); have n2_ := qH (Kd.V_elder' (by (with_reducible repeat first | apply zVa | apply zVb | apply zVc); exact HO144.out) (Kd.R_base ho55) hb); have n3_ := qH (Kd.R_lower (Kd.R_new' ho55 (Kd.R_lt (by (with_reducible repeat first | apply zRa | apply zRb | apply zRc); exact HO141.out))) (below_size (by repeat (first | (with_reducible first | exact HB.out | apply qL | apply qJ | apply qK) | exact HB.out)))); have n4_ := qH (below_step (by repeat (first | (with_reducible first | exact HB.out | apply qL | apply qJ | apply qK) | exact HB.out)) hb); clear HO133; clear HO141; clear HO144; clear HB; have HO133 := n0_; have HO141 := n1_; have HO144 := n2_; have HO154 := n3_; have HB := n4_; clear n0_ n1_ n2_ n3_ n4_; clear hb ho55; obtain ⟨Ao56, co56, eo56⟩ := Kd.R_slice HO154.out; subst eo56; obtain ⟨Ao57, co57, eo57⟩ := Kd.V_slice HO144.out; subst eo57) | ((with_reducible refine gate_callee (f := 19) rfl ?_); refine goesL_ (some 35) rfl rfl Try.func19 (by kernel_rfl) rfl #[.slice Ao57 t142.length co57, .agg #[.string t146, .int .i64 t147, .slice Ao56 y152.length co56]] rfl (by (try simp only [zX, zY, zZ]); first | done | rfl | (simp only [zD, zE]; rfl)) ?_; (with_reducible refine (graph_Add.calls (fun k_ => (True ∧ some k_ ≠ (.slice Ao56 y152.length co56 : Value).ownBlock)) _ _ t142 t146 t147 (fun k_ => some k_ = (.slice Ao56 y152.length co56 : Value).ownBlock) _ _ y152 t155 t158 _ ?side1 ?side2 A9.out).mono ?_); (case side1 => exact HO144.out); (case side2 => exact Kd.R_V (Kd.R_tight rfl (HO154.out))); rintro e w58 ⟨v156, rfl, ho0, hb⟩; refine ⟨_, rfl, ?_⟩; have n0_ := qH (Kd.V_below (by (with_reducible repeat first | apply zVa | apply zVb | apply zVc); exact HO133.out) hb); have n1_ := qH (Kd.R_below (by (with_reducible repeat first | apply zRa | apply zRb | apply zRc); exact HO141.out) hb); have n2_ := qH (Kd.V_below (by (with_reducible repeat first | apply zVa | apply zVb | apply zVc); exact HO144.out) hb); have n3_ := qH (Kd.R_below (by (with_reducible repeat first | apply zRa | apply zRb | apply zRc); exact HO154.out) hb); have n4_ := qH (Kd.V_lower (Kd.V_mono (ok' := fun k_ => True) ho0 (fun k_ hk_ => trivial)) (below_size (by repeat (first | (with_reducible first | exact HB.out | apply qL | apply qJ | apply qK) | exact HB.out)))); have n5_ := qH (below_step (by repeat (first | (with_reducible first | exact HB.out | apply qL | apply qJ | apply qK) | exact HB.out)) hb); clear HO133; clear HO141; clear HO144; clear HO154; clear HB; have HO133 := n0_; have HO141 := n1_; have HO144 := n2_; have HO154 := n3_; have HO157 := n4_; have HB := n5_; clear n0_ n1_ n2_ n3_ n4_ n5_; (try clear hb); (try clear hb2); (try clear hk); (try clear hi); (try clear ho0)) | ((with_reducible refine gate_callee (f := 25) rfl ?_); refine goesL_ (some 40) rfl rfl Try.func25 (by kernel_rfl) rfl #[.string (⟨#[99]⟩ : ByteArray)] rfl (by (try simp only [zX, zY, zZ]); first | done | rfl | (simp only [zD, zE]; rfl)) ?_; (with_reducible refine (codicillaw19_node.calls (⟨#[99]⟩ : ByteArray) t159 t160 _ A10.out).mono ?_); rintro e w59 ⟨rfl, hb⟩; refine ⟨_, rfl, ?_⟩; have n0_ := qH (Kd.V_below (by (with_reducible repeat first | apply zVa | apply zVb | apply zVc); exact HO133.out) hb); have n1_ := qH (Kd.R_below (by (with_reducible repeat first | apply zRa | apply zRb | apply zRc); exact HO141.out) hb); have n2_ := qH (Kd.V_below (by (with_reducible repeat first | apply zVa | apply zVb | apply zVc); exact HO144.out) hb); have n3_ := qH (Kd.R_below (by (with_reducible repeat first | apply zRa | apply zRb | apply zRc); exact HO154.out) hb); have n4_ := qH (Kd.V_below (by (with_reducible repeat first | apply zVa | apply zVb | apply zVc); exact HO157.out) hb); have n5_ := qH (below_step (by repeat (first | (with_reducible first | exact HB.out | apply qL | apply qJ | apply qK) | exact HB.out)) hb); clear HO133; clear HO141; clear HO144; clear HO154; clear HO157; clear HB; have HO133 := n0_; have HO141 := n1_; have HO144 := n2_; have HO154 := n3_; have HO157 := n4_; have HB := n5_; clear n0_ n1_ n2_ n3_ n4_ n5_; (try clear hb); (try clear hb2); (try clear hk); (try clear hi)) | ((with_reducible refine gate_dst (N := 41) rfl ?_); (try (refine gate_guard (by rfl) ?_; dsimp only)); refine Kd.R_lit k24 _ 24 ?hg (N := 41) ?hd (xs := ([(⟨t159, t160⟩ : S24)] : List (S24))) (inner := [.string t159, .int .i64 t160]) (ok := fun _ => True) (okp := fun _ => True) ?hr ?hp (fun _ hk => hk) trivial (Below.refl _ _) (Nat.le_refl _) (by simp) ?_; (case hd => rfl); (case hg => rfl); (case hr => first | (go_simp; done) | (go_simp; rfl) | (go_simp; simp [IntKind.wrap_u32]; done)); (case hp => exact (Reps.c2 (show Kd.M k24 _ _ _ (⟨t159, t160⟩ : S24) [.string t159, .int .i64 t160] from (k24_mkM _ _ _ (⟨t159, t160⟩ : S24) )) (Reps.none _ _))); intro v162 w60 ho61 hb hg_ hnew_; clear hg_ hnew_; (first | rw [← Ny161.out] at ho61 | (simp only [Int.reduceToNat] at ho61; rw [← Ny161.out] at ho61)); have n0_ := qH (Kd.V_elder' (by (with_reducible repeat first | apply zVa | apply zVb | apply zVc); exact HO133.out) (Kd.R_base ho61) hb); have n1_ := qH (Kd.R_elder' (by (with_reducible repeat first | apply zRa | apply zRb | apply zRc); exact HO141.out) (Kd.R_base ho61) hb); have n2_ := qH (Kd.V_elder' (by (with_reducible repeat first | apply zVa | apply zVb | apply zVc); exact HO144.out) (Kd.R_base ho61) hb); have n3_ := qH (Kd.R_elder' (by (with_reducible repeat first | apply zRa | apply zRb | apply zRc); exact HO154.out) (Kd.R_base ho61) hb); have n4_ := qH (Kd.V_elder' (by (with_reducible repeat first | apply zVa | apply zVb | apply zVc); exact HO157.out) (Kd.R_base ho61) hb); have n5_ := qH (Kd.R_lower (Kd.R_new' (Kd.R_new' ho61 (Kd.R_lt (by (with_reducible repeat first | apply zRa | apply zRb | apply zRc); exact HO141.out))) (Kd.R_lt (by (with_reducible repeat first | apply zRa | apply zRb | apply zRc); exact HO154.out))) (below_size (by repeat (first | (with_reducible first | exact HB.out | apply qL | apply qJ | apply qK) | exact HB.out)))); have n6_ := qH (below_step (by repeat (first | (with_reducible first | exact HB.out | apply qL | apply qJ | apply qK) | exact HB.out)) hb); clear HO133; clear HO141; clear HO144; clear HO154; clear HO157; clear HB; have HO133 := n0_; have HO141 := n1_; have HO144 := n2_; have HO154 := n3_; have HO157 := n4_; have HO163 := n5_; have HB := n6_; clear n0_ n1_ n2_ n3_ n4_ n5_ n6_; clear hb ho61; obtain ⟨Ao62, co62, eo62⟩ := Kd.V_slice HO157.out; subst eo62; obtain ⟨Ao63, co63, eo63⟩ := Kd.R_slice HO163.out; subst eo63) | ((with_reducible refine gate_callee (f := 9) rfl ?_); refine goesL_ (some 42) rfl rfl Try.func9 (by kernel_rfl) rfl #[.slice Ao62 t155.length co62, .slice Ao63 y161.length co63] rfl (by (try simp only [zX, zY, zZ]); first | done | rfl | (simp only [zD, zE]; rfl)) ?_; (with_reducible refine (graph_Order.calls _ _ t155 _ _ y161 t164 t165 _ ?side1 ?side2 ?side3 ?side4 A11.out).mono ?_); (case side1 => repeat (first | exact (Kd.V_reads' HO157.out).2.2 | (with_reducible refine Kd.C_alloc ?_ _) | (with_reducible refine Kd.C_drewN ?_ _) | (with_reducible refine Kd.C_drew ?_))); (case side2 => exact (Kd.V_reads' HO157.out).2.1); (case side3 => repeat (first | exact (Kd.R_reads' HO163.out).2.2 | (with_reducible refine Kd.C_alloc ?_ _) | (with_reducible refine Kd.C_drewN ?_ _) | (with_reducible refine Kd.C_drew ?_))); (case side4 => exact (Kd.R_reads' HO163.out).2.1); rintro e w64 ⟨v166, rfl, ho0, hb⟩; refine ⟨_, rfl, ?_⟩; have n0_ := qH (Kd.V_elder' (by (with_reducible repeat first | apply zVa | apply zVb | apply zVc); exact HO133.out) (Kd.R_base ho0) hb); have n1_ := qH (Kd.R_elder' (by (with_reducible repeat first | apply zRa | apply zRb | apply zRc); exact HO141.out) (Kd.R_base ho0) hb); have n2_ := qH (Kd.V_elder' (by (with_reducible repeat first | apply zVa | apply zVb | apply zVc); exact HO144.out) (Kd.R_base ho0) hb); have n3_ := qH (Kd.R_elder' (by (with_reducible repeat first | apply zRa | apply zRb | apply zRc); exact HO154.out) (Kd.R_base ho0) hb); have n4_ := qH (Kd.V_elder' (by (with_reducible repeat first | apply zVa | apply zVb | apply zVc); exact HO157.out) (Kd.R_base ho0) hb); have n5_ := qH (Kd.R_elder' (by (with_reducible repeat first | apply zRa | apply zRb | apply zRc); exact HO163.out) (Kd.R_base ho0) hb); have n6_ := qH (Kd.R_lower (Kd.R_new' (Kd.R_new' (Kd.R_new' ho0 (Kd.R_lt (by (with_reducible repeat first | apply zRa | apply zRb | apply zRc); exact HO141.out))) (Kd.R_lt (by (with_reducible repeat first | apply zRa | apply zRb | apply zRc); exact HO154.out))) (Kd.R_lt (by (with_reducible repeat first | apply zRa | apply zRb | apply zRc); exact HO163.out))) (below_size (by repeat (first | (with_reducible first | exact HB.out | apply qL | apply qJ | apply qK) | exact HB.out)))); have n7_ := qH (below_step (by repeat (first | (with_reducible first | exact HB.out | apply qL | apply qJ | apply qK) | exact HB.out)) hb); clear HO133; clear HO141; clear HO144; clear HO154; clear HO157; clear HO163; clear HB; have HO133 := n0_; have HO141 := n1_; have HO144 := n2_; have HO154 := n3_; have HO157 := n4_; have HO163 := n5_; have HO167 := n6_; have HB := n7_; clear n0_ n1_ n2_ n3_ n4_ n5_ n6_ n7_; (try clear hb); (try clear hb2); (try clear hk); (try clear hi); (try clear ho0)) | ((with_reducible refine gate_callee (f := 25) rfl ?_); refine goesL_ (some 47) rfl rfl Try.func25 (by kernel_rfl) rfl #[.string (⟨#[97]⟩ : ByteArray)] rfl (by (try simp only [zX, zY, zZ]); first | done | rfl | (simp only [zD, zE]; rfl)) ?_; (with_reducible refine (codicillaw19_node.calls (⟨#[97]⟩ : ByteArray) t168 t169 _ A12.out).mono ?_); rintro e w65 ⟨rfl, hb⟩; refine ⟨_, rfl, ?_⟩; have n0_ := qH (Kd.V_below (by (with_reducible repeat first | apply zVa | apply zVb | apply zVc); exact HO133.out) hb); have n1_ := qH (Kd.R_below (by (with_reducible repeat first | apply zRa | apply zRb | apply zRc); exact HO141.out) hb); have n2_ := qH (Kd.V_below (by (with_reducible repeat first | apply zVa | apply zVb | apply zVc); exact HO144.out) hb); have n3_ := qH (Kd.R_below (by (with_reducible repeat first | apply zRa | apply zRb | apply zRc); exact HO154.out) hb); have n4_ := qH (Kd.V_below (by (with_reducible repeat first | apply zVa | apply zVb | apply zVc); exact HO157.out) hb); have n5_ := qH (Kd.R_below (by (with_reducible repeat first | apply zRa | apply zRb | apply zRc); exact HO163.out) hb); have n6_ := qH (Kd.R_below (by (with_reducible repeat first | apply zRa | apply zRb | apply zRc); exact HO167.out) hb); have n7_ := qH (below_step (by repeat (first | (with_reducible first | exact HB.out | apply qL | apply qJ | apply qK) | exact HB.out)) hb); clear HO133; clear HO141; clear HO144; clear HO154; clear HO157; clear HO163; clear HO167; clear HB; have HO133 := n0_; have HO141 := n1_; have HO144 := n2_; have HO154 := n3_; have HO157 := n4_; have HO163 := n5_; have HO167 := n6_; have HB := n7_; clear n0_ n1_ n2_ n3_ n4_ n5_ n6_ n7_; (try clear hb); (try clear hb2); (try clear hk); (try clear hi)) | ((with_reducible refine gate_callee (f := 21) rfl ?_); refine goesL_ (some 48) rfl rfl Try.func21 (by kernel_rfl) rfl #[.slice Ao62 t155.length co62, .agg #[.string t168, .int .i64 t169]] rfl (by (try simp only [zX, zY, zZ]); first | done | rfl | (simp only [zD, zE]; rfl)) ?_; (with_reducible refine (graph_Drop.calls (fun k_ => ((True ∧ some k_ ≠ (.slice Ao63 y161.length co63 : Value).ownBlock) ∧ some k_ ≠ (v166 : Value).ownBlock)) _ _ t155 t168 t169 t170 t173 _ ?side1 A13.out).mono ?_); (case side1 => exact HO157.out); rintro e w66 ⟨v171, rfl, ho0, hb⟩; refine ⟨_, rfl, ?_⟩; have n0_ := qH (Kd.V_below (by (with_reducible repeat first | apply zVa | apply zVb | apply zVc); exact HO133.out) hb); have n1_ := qH (Kd.R_below (by (with_reducible repeat first | apply zRa | apply zRb | apply zRc); exact HO141.out) hb); have n2_ := qH (Kd.V_below (by (with_reducible repeat first | apply zVa | apply zVb | apply zVc); exact HO144.out) hb); have n3_ := qH (Kd.R_below (by (with_reducible repeat first | apply zRa | apply zRb | apply zRc); exact HO154.out) hb); have n4_ := qH (Kd.V_below (by (with_reducible repeat first | apply zVa | apply zVb | apply zVc); exact HO157.out) hb); have n5_ := qH (Kd.R_below (by (with_reducible repeat first | apply zRa | apply zRb | apply zRc); exact HO163.out) hb); have n6_ := qH (Kd.R_below (by (with_reducible repeat first | apply zRa | apply zRb | apply zRc); exact HO167.out) hb); have n7_ := qH (Kd.V_lower (Kd.V_mono (ok' := fun k_ => some k_ ≠ (.slice Ao63 y161.length co63 : Value).ownBlock ∧ some k_ ≠ (v166 : Value).ownBlock) ho0 (fun k_ hk_ => ⟨Or.elim hk_ (fun hs_ => hs_.1.2) (fun hn_ => (Kd.fresh' (Kd.R_lt (by (with_reducible repeat first | apply zRa | apply zRb | apply zRc); exact HO163.out)) k_ hn_)), Or.elim hk_ (fun hs_ => hs_.2) (fun hn_ => (Kd.fresh' (Kd.R_lt (by (with_reducible repeat first | apply zRa | apply zRb | apply zRc); exact HO167.out)) k_ hn_))⟩)) (below_size (by repeat (first | (with_reducible first | exact HB.out | apply qL | apply qJ | apply qK) | exact HB.out)))); have n8_ := qH (below_step (by repeat (first | (with_reducible first | exact HB.out | apply qL | apply qJ | apply qK) | exact HB.out)) hb); clear HO133; clear HO141; clear HO144; clear HO154; clear HO157; clear HO163; clear HO167; clear HB; have HO133 := n0_; have HO141 := n1_; have HO144 := n2_; have HO154 := n3_; have HO157 := n4_; have HO163 := n5_; have HO167 := n6_; have HO172 := n7_; have HB := n8_; clear n0_ n1_ n2_ n3_ n4_ n5_ n6_ n7_ n8_; (try clear hb); (try clear hb2); (try clear hk); (try clear hi); (try clear ho0)) | ((with_reducible refine gate_callee (f := 25) rfl ?_); refine goesL_ (some 53) rfl rfl Try.func25 (by kernel_rfl) rfl #[.string (⟨#[99]⟩ : ByteArray)] rfl (by (try simp only [zX, zY, zZ]); first | done | rfl | (simp only [zD, zE]; rfl)) ?_; (with_reducible refine (codicillaw19_node.calls (⟨#[99]⟩ : ByteArray) t174 t175 _ A14.out).mono ?_); rintro e w67 ⟨rfl, hb⟩; refine ⟨_, rfl, ?_⟩; have n0_ := qH (Kd.V_below (by (with_reducible repeat first | apply zVa | apply zVb | apply zVc); exact HO133.out) hb); have n1_ := qH (Kd.R_below (by (with_reducible repeat first | apply zRa | apply zRb | apply zRc); exact HO141.out) hb); have n2_ := qH (Kd.V_below (by (with_reducible repeat first | apply zVa | apply zVb | apply zVc); exact HO144.out) hb); have n3_ := qH (Kd.R_below (by (with_reducible repeat first | apply zRa | apply zRb | apply zRc); exact HO154.out) hb); have n4_ := qH (Kd.V_below (by (with_reducible repeat first | apply zVa | apply zVb | apply zVc); exact HO157.out) hb); have n5_ := qH (Kd.R_below (by (with_reducible repeat first | apply zRa | apply zRb | apply zRc); exact HO163.out) hb); have n6_ := qH (Kd.R_below (by (with_reducible repeat first | apply zRa | apply zRb | apply zRc); exact HO167.out) hb); have n7_ := qH (Kd.V_below (by (with_reducible repeat first | apply zVa | apply zVb | apply zVc); exact HO172.out) hb); have n8_ := qH (below_step (by repeat (first | (with_reducible first | exact HB.out | apply qL | apply qJ | apply qK) | exact HB.out)) hb); clear HO133; clear HO141; clear HO144; clear HO154; clear HO157; clear HO163; clear HO167; clear HO172; clear HB; have HO133 := n0_; have HO141 := n1_; have HO144 := n2_; have HO154 := n3_; have HO157 := n4_; have HO163 := n5_; have HO167 := n6_; have HO172 := n7_; have HB := n8_; clear n0_ n1_ n2_ n3_ n4_ n5_ n6_ n7_ n8_; (try clear hb); (try clear hb2); (try clear hk); (try clear hi)) | ((with_reducible refine gate_callee (f := 21) rfl ?_); refine goesL_ (some 54) rfl rfl Try.func21 (by kernel_rfl) rfl #[.slice Ao62 t155.length co62, .agg #[.string t174, .int .i64 t175]] rfl (by (try simp only [zX, zY, zZ]); first | done | rfl | (simp only [zD, zE]; rfl)) ?_; (with_reducible refine (graph_Drop.calls (fun k_ => ((True ∧ some k_ ≠ (.slice Ao63 y161.length co63 : Value).ownBlock) ∧ some k_ ≠ (v166 : Value).ownBlock)) _ _ t155 t174 t175 t176 t179 _ ?side1 A15.out).mono ?_); (case side1 => exact HO157.out); rintro e w68 ⟨v177, rfl, ho0, hb⟩; refine ⟨_, rfl, ?_⟩; have n0_ := qH (Kd.V_below (by (with_reducible repeat first | apply zVa | apply zVb | apply zVc); exact HO133.out) hb); have n1_ := qH (Kd.R_below (by (with_reducible repeat first | apply zRa | apply zRb | apply zRc); exact HO141.out) hb); have n2_ := qH (Kd.V_below (by (with_reducible repeat first | apply zVa | apply zVb | apply zVc); exact HO144.out) hb); have n3_ := qH (Kd.R_below (by (with_reducible repeat first | apply zRa | apply zRb | apply zRc); exact HO154.out) hb); have n4_ := qH (Kd.V_below (by (with_reducible repeat first | apply zVa | apply zVb | apply zVc); exact HO157.out) hb); have n5_ := qH (Kd.R_below (by (with_reducible repeat first | apply zRa | apply zRb | apply zRc); exact HO163.out) hb); have n6_ := qH (Kd.R_below (by (with_reducible repeat first | apply zRa | apply zRb | apply zRc); exact HO167.out) hb); have n7_ := qH (Kd.V_below (by (with_reducible repeat first | apply zVa | apply zVb | apply zVc); exact HO172.out) hb); have n8_ := qH (Kd.V_lower (Kd.V_mono (ok' := fun k_ => some k_ ≠ (.slice Ao63 y161.length co63 : Value).ownBlock ∧ some k_ ≠ (v166 : Value).ownBlock) ho0 (fun k_ hk_ => ⟨Or.elim hk_ (fun hs_ => hs_.1.2) (fun hn_ => (Kd.fresh' (Kd.R_lt (by (with_reducible repeat first | apply zRa | apply zRb | apply zRc); exact HO163.out)) k_ hn_)), Or.elim hk_ (fun hs_ => hs_.2) (fun hn_ => (Kd.fresh' (Kd.R_lt (by (with_reducible repeat first | apply zRa | apply zRb | apply zRc); exact HO167.out)) k_ hn_))⟩)) (below_size (by repeat (first | (with_reducible first | exact HB.out | apply qL | apply qJ | apply qK) | exact HB.out)))); have n9_ := qH (below_step (by repeat (first | (with_reducible first | exact HB.out | apply qL | apply qJ | apply qK) | exact HB.out)) hb); clear HO133; clear HO141; clear HO144; clear HO154; clear HO157; clear HO163; clear HO167; clear HO172; clear HB; have HO133 := n0_; have HO141 := n1_; have HO144 := n2_; have HO154 := n3_; have HO157 := n4_; have HO163 := n5_; have HO167 := n6_; have HO172 := n7_; have HO178 := n8_; have HB := n9_; clear n0_ n1_ n2_ n3_ n4_ n5_ n6_ n7_ n8_ n9_; (try clear hb); (try clear hb2); (try clear hk); (try clear hi); (try clear ho0)) | ((with_reducible refine gate_callee (f := 25) rfl ?_); refine goesL_ (some 59) rfl rfl Try.func25 (by kernel_rfl) rfl #[.string (⟨#[100]⟩ : ByteArray)] rfl (by (try simp only [zX, zY, zZ]); first | done | rfl | (simp only [zD, zE]; rfl)) ?_; (with_reducible refine (codicillaw19_node.calls (⟨#[100]⟩ : ByteArray) t180 t181 _ A16.out).mono ?_); rintro e w69 ⟨rfl, hb⟩; refine ⟨_, rfl, ?_⟩; have n0_ := qH (Kd.V_below (by (with_reducible repeat first | apply zVa | apply zVb | apply zVc); exact HO133.out) hb); have n1_ := qH (Kd.R_below (by (with_reducible repeat first | apply zRa | apply zRb | apply zRc); exact HO141.out) hb); have n2_ := qH (Kd.V_below (by (with_reducible repeat first | apply zVa | apply zVb | apply zVc); exact HO144.out) hb); have n3_ := qH (Kd.R_below (by (with_reducible repeat first | apply zRa | apply zRb | apply zRc); exact HO154.out) hb); have n4_ := qH (Kd.V_below (by (with_reducible repeat first | apply zVa | apply zVb | apply zVc); exact HO157.out) hb); have n5_ := qH (Kd.R_below (by (with_reducible repeat first | apply zRa | apply zRb | apply zRc); exact HO163.out) hb); have n6_ := qH (Kd.R_below (by (with_reducible repeat first | apply zRa | apply zRb | apply zRc); exact HO167.out) hb); have n7_ := qH (Kd.V_below (by (with_reducible repeat first | apply zVa | apply zVb | apply zVc); exact HO172.out) hb); have n8_ := qH (Kd.V_below (by (with_reducible repeat first | apply zVa | apply zVb | apply zVc); exact HO178.out) hb); have n9_ := qH (below_step (by repeat (first | (with_reducible first | exact HB.out | apply qL | apply qJ | apply qK) | exact HB.out)) hb); clear HO133; clear HO141; clear HO144; clear HO154; clear HO157; clear HO163; clear HO167; clear HO172; clear HO178; clear HB; have HO133 := n0_; have HO141 := n1_; have HO144 := n2_; have HO154 := n3_; have HO157 := n4_; have HO163 := n5_; have HO167 := n6_; have HO172 := n7_; have HO178 := n8_; have HB := n9_; clear n0_ n1_ n2_ n3_ n4_ n5_ n6_ n7_ n8_ n9_; (try clear hb); (try clear hb2); (try clear hk); (try clear hi)) | ((with_reducible refine gate_callee (f := 25) rfl ?_); refine goesL_ (some 60) rfl rfl Try.func25 (by kernel_rfl) rfl #[.string (⟨#[101]⟩ : ByteArray)] rfl (by (try simp only [zX, zY, zZ]); first | done | rfl | (simp only [zD, zE]; rfl)) ?_; (with_reducible refine (codicillaw19_node.calls (⟨#[101]⟩ : ByteArray) t182 t183 _ A17.out).mono ?_); rintro e w70 ⟨rfl, hb⟩; refine ⟨_, rfl, ?_⟩; have n0_ := qH (Kd.V_below (by (with_reducible repeat first | apply zVa | apply zVb | apply zVc); exact HO133.out) hb); have n1_ := qH (Kd.R_below (by (with_reducible repeat first | apply zRa | apply zRb | apply zRc); exact HO141.out) hb); have n2_ := qH (Kd.V_below (by (with_reducible repeat first | apply zVa | apply zVb | apply zVc); exact HO144.out) hb); have n3_ := qH (Kd.R_below (by (with_reducible repeat first | apply zRa | apply zRb | apply zRc); exact HO154.out) hb); have n4_ := qH (Kd.V_below (by (with_reducible repeat first | apply zVa | apply zVb | apply zVc); exact HO157.out) hb); have n5_ := qH (Kd.R_below (by (with_reducible repeat first | apply zRa | apply zRb | apply zRc); exact HO163.out) hb); have n6_ := qH (Kd.R_below (by (with_reducible repeat first | apply zRa | apply zRb | apply zRc); exact HO167.out) hb); have n7_ := qH (Kd.V_below (by (with_reducible repeat first | apply zVa | apply zVb | apply zVc); exact HO172.out) hb); have n8_ := qH (Kd.V_below (by (with_reducible repeat first | apply zVa | apply zVb | apply zVc); exact HO178.out) hb); have n9_ := qH (below_step (by repeat (first | (with_reducible first | exact HB.out | apply qL | apply qJ | apply qK) | exact HB.out)) hb); clear HO133; clear HO141; clear HO144; clear HO154; clear HO157; clear HO163; clear HO167; clear HO172; clear HO178; clear HB; have HO133 := n0_; have HO141 := n1_; have HO144 := n2_; have HO154 := n3_; have HO157 := n4_; have HO163 := n5_; have HO167 := n6_; have HO172 := n7_; have HO178 := n8_; have HB := n9_; clear n0_ n1_ n2_ n3_ n4_ n5_ n6_ n7_ n8_ n9_; (try clear hb); (try clear hb2); (try clear hk); (try clear hi)) | ((with_reducible refine gate_dst (N := 61) rfl ?_); (try (refine gate_guard (by rfl) ?_; dsimp only)); refine Kd.R_lit k24 _ 24 ?hg (N := 61) ?hd (xs := ([(⟨t182, t183⟩ : S24)] : List (S24))) (inner := [.string t182, .int .i64 t183]) (ok := fun _ => True) (okp := fun _ => True) ?hr ?hp (fun _ hk => hk) trivial (Below.refl _ _) (Nat.le_refl _) (by simp) ?_; (case hd => rfl); (case hg => rfl); (case hr => first | (go_simp; done) | (go_simp; rfl) | (go_simp; simp [IntKind.wrap_u32]; done)); (case hp => exact (Reps.c2 (show Kd.M k24 _ _ _ (⟨t182, t183⟩ : S24) [.string t182, .int .i64 t183] from (k24_mkM _ _ _ (⟨t182, t183⟩ : S24) )) (Reps.none _ _))); intro v185 w71 ho72 hb hg_ hnew_; clear hg_ hnew_; (first | rw [← Ny184.out] at ho72 | (simp only [Int.reduceToNat] at ho72; rw [← Ny184.out] at ho72)); have n0_ := qH (Kd.V_elder' (by (with_reducible repeat first | apply zVa | apply zVb | apply zVc); exact HO133.out) (Kd.R_base ho72) hb); have n1_ := qH (Kd.R_elder' (by (with_reducible repeat first | apply zRa | apply zRb | apply zRc); exact HO141.out) (Kd.R_base ho72) hb); have n2_ := qH (Kd.V_elder' (by (with_reducible repeat first | apply zVa | apply zVb | apply zVc); exact HO144.out) (Kd.R_base ho72) hb); have n3_ := qH (Kd.R_elder' (by (with_reducible repeat first | apply zRa | apply zRb | apply zRc); exact HO154.out) (Kd.R_base ho72) hb); have n4_ := qH (Kd.V_elder' (by (with_reducible repeat first | apply zVa | apply zVb | apply zVc); exact HO157.out) (Kd.R_base ho72) hb); have n5_ := qH (Kd.R_elder' (by (with_reducible repeat first | apply zRa | apply zRb | apply zRc); exact HO163.out) (Kd.R_base ho72) hb); have n6_ := qH (Kd.R_elder' (by (with_reducible repeat first | apply zRa | apply zRb | apply zRc); exact HO167.out) (Kd.R_base ho72) hb); have n7_ := qH (Kd.V_elder' (by (with_reducible repeat first | apply zVa | apply zVb | apply zVc); exact HO172.out) (Kd.R_base ho72) hb); have n8_ := qH (Kd.V_elder' (by (with_reducible repeat first | apply zVa | apply zVb | apply zVc); exact HO178.out) (Kd.R_base ho72) hb); have n9_ := qH (Kd.R_lower (Kd.R_new' (Kd.R_new' (Kd.R_new' (Kd.R_new' ho72 (Kd.R_lt (by (with_reducible repeat first | apply zRa | apply zRb | apply zRc); exact HO141.out))) (Kd.R_lt (by (with_reducible repeat first | apply zRa | apply zRb | apply zRc); exact HO154.out))) (Kd.R_lt (by (with_reducible repeat first | apply zRa | apply zRb | apply zRc); exact HO163.out))) (Kd.R_lt (by (with_reducible repeat first | apply zRa | apply zRb | apply zRc); exact HO167.out))) (below_size (by repeat (first | (with_reducible first | exact HB.out | apply qL | apply qJ | apply qK) | exact HB.out)))); have n10_ := qH (below_step (by repeat (first | (with_reducible first | exact HB.out | apply qL | apply qJ | apply qK) | exact HB.out)) hb); clear HO133; clear HO141; clear HO144; clear HO154; clear HO157; clear HO163; clear HO167; clear HO172; clear HO178; clear HB; have HO133 := n0_; have HO141 := n1_; have HO144 := n2_; have HO154 := n3_; have HO157 := n4_; have HO163 := n5_; have HO167 := n6_; have HO172 := n7_; have HO178 := n8_; have HO186 := n9_; have HB := n10_; clear n0_ n1_ n2_ n3_ n4_ n5_ n6_ n7_ n8_ n9_ n10_; clear hb ho72; obtain ⟨Ao73, co73, eo73⟩ := Kd.R_slice HO186.out; subst eo73) | ((with_reducible refine gate_callee (f := 19) rfl ?_); refine goesL_ (some 63) rfl rfl Try.func19 (by kernel_rfl) rfl #[.slice Ao62 t155.length co62, .agg #[.string t180, .int .i64 t181, .slice Ao73 y184.length co73]] rfl (by (try simp only [zX, zY, zZ]); first | done | rfl | (simp only [zD, zE]; rfl)) ?_; (with_reducible refine (graph_Add.calls (fun k_ => (((True ∧ some k_ ≠ (.slice Ao63 y161.length co63 : Value).ownBlock) ∧ some k_ ≠ (v166 : Value).ownBlock) ∧ some k_ ≠ (.slice Ao73 y184.length co73 : Value).ownBlock)) _ _ t155 t180 t181 (fun k_ => some k_ = (.slice Ao73 y184.length co73 : Value).ownBlock) _ _ y184 t187 t190 _ ?side1 ?side2 A18.out).mono ?_); (case side1 => exact HO157.out); (case side2 => exact Kd.R_V (Kd.R_tight rfl (HO186.out))); rintro e w74 ⟨v188, rfl, ho0, hb⟩; refine ⟨_, rfl, ?_⟩; have n0_ := qH (Kd.V_below (by (with_reducible repeat first | apply zVa | apply zVb | apply zVc); exact HO133.out) hb); have n1_ := qH (Kd.R_below (by (with_reducible repeat first | apply zRa | apply zRb | apply zRc); exact HO141.out) hb); have n2_ := qH (Kd.V_below (by (with_reducible repeat first | apply zVa | apply zVb | apply zVc); exact HO144.out) hb); have n3_ := qH (Kd.R_below (by (with_reducible repeat first | apply zRa | apply zRb | apply zRc); exact HO154.out) hb); have n4_ := qH (Kd.V_below (by (with_reducible repeat first | apply zVa | apply zVb | apply zVc); exact HO157.out) hb); have n5_ := qH (Kd.R_below (by (with_reducible repeat first | apply zRa | apply zRb | apply zRc); exact HO163.out) hb); have n6_ := qH (Kd.R_below (by (with_reducible repeat first | apply zRa | apply zRb | apply zRc); exact HO167.out) hb); have n7_ := qH (Kd.V_below (by (with_reducible repeat first | apply zVa | apply zVb | apply zVc); exact HO172.out) hb); have n8_ := qH (Kd.V_below (by (with_reducible repeat first | apply zVa | apply zVb | apply zVc); exact HO178.out) hb); have n9_ := qH (Kd.R_below (by (with_reducible repeat first | apply zRa | apply zRb | apply zRc); exact HO186.out) hb); have n10_ := qH (Kd.V_lower (Kd.V_mono (ok' := fun k_ => some k_ ≠ (.slice Ao63 y161.length co63 : Value).ownBlock ∧ some k_ ≠ (v166 : Value).ownBlock) ho0 (fun k_ hk_ => ⟨Or.elim hk_ (fun hs_ => Or.elim hs_ (fun hs_ => hs_.1.1.2) (fun hs_ => ((HO186.out).1 k_ hs_.symm).1.2)) (fun hn_ => (Kd.fresh' (Kd.R_lt (by (with_reducible repeat first | apply zRa | apply zRb | apply zRc); exact HO163.out)) k_ hn_)), Or.elim hk_ (fun hs_ => Or.elim hs_ (fun hs_ => hs_.1.2) (fun hs_ => ((HO186.out).1 k_ hs_.symm).2)) (fun hn_ => (Kd.fresh' (Kd.R_lt (by (with_reducible repeat first | apply zRa | apply zRb | apply zRc); exact HO167.out)) k_ hn_))⟩)) (below_size (by repeat (first | (with_reducible first | exact HB.out | apply qL | apply qJ | apply qK) | exact HB.out)))); have n11_ := qH (below_step (by repeat (first | (with_reducible first | exact HB.out | apply qL | apply qJ | apply qK) | exact HB.out)) hb); clear HO133; clear HO141; clear HO144; clear HO154; clear HO157; clear HO163; clear HO167; clear HO172; clear HO178; clear HO186; clear HB; have HO133 := n0_; have HO141 := n1_; have HO144 := n2_; have HO154 := n3_; have HO157 := n4_; have HO163 := n5_; have HO167 := n6_; have HO172 := n7_; have HO178 := n8_; have HO186 := n9_; have HO189 := n10_; have HB := n11_; clear n0_ n1_ n2_ n3_ n4_ n5_ n6_ n7_ n8_ n9_ n10_ n11_; (try clear hb); (try clear hb2); (try clear hk); (try clear hi); (try clear ho0)))
                have n0_ := qH (Kd.V_drew HO133.out)
                have n1_ := qH (Kd.R_drew HO141.out)
                have n2_ := qH (Kd.V_drew HO144.out)
                have n3_ := qH (Kd.R_drew HO154.out)
                have n4_ := qH (Kd.V_drew HO157.out)
                have n5_ := qH (Kd.R_drew HO163.out)
                have n6_ := qH (Kd.R_drew HO167.out)
                have n7_ := qH (Kd.V_drew HO172.out)
                have n8_ := qH (Kd.V_drew HO178.out)
                have n9_ := qH (Kd.R_drew HO186.out)
                have n10_ := qH (Kd.V_drew HO189.out)
                have n11_ := qH (qK HB.out)
                clear HO133
                clear HO141
                clear HO144
                clear HO154
                clear HO157
                clear HO163
                clear HO167
                clear HO172
                clear HO178
                clear HO186
                clear HO189
                clear HB
                have HO133 := n0_
                have HO141 := n1_
                have HO144 := n2_
                have HO154 := n3_
                have HO157 := n4_
                have HO163 := n5_
                have HO167 := n6_
                have HO172 := n7_
                have HO178 := n8_
                have HO186 := n9_
                have HO189 := n10_
                have HB := n11_
                clear n0_ n1_ n2_ n3_ n4_ n5_ n6_ n7_ n8_ n9_ n10_ n11_
                obtain ⟨Ao76, co76, eo76⟩ := Kd.R_slice HO167.out
                (first | subst eo76 | (injection eo76 with f1_ f2_ f3_; have f4_ := f1_.symm; have f5_ := f3_.symm; clear f1_ f2_ f3_; subst f4_; subst f5_))
                have p191 : 0 ≤ (0 : Int) := (by omega)
                have q191 : 0 < (t164.length : Int) := of_decide_eq_true (by first | (with_reducible assumption) | assumption)
                obtain ⟨ad191, e191, hx191_0, hx191_1⟩ := at_T24 (Kd.R_reads' HO167.out).2.2 0 p191 q191
                cases e191
                have qi191 : (0 < t164.length) = True := eq_true (by omega)
                (try rw [show ((0 : Int)).toNat = 0 from rfl] at hx191_0)
                (try rw [show 0 * 2 = 0 from rfl] at hx191_0)
                (try rw [Addr.add_zero'] at hx191_0)
                (try rw [show ((0 : Int)).toNat = 0 from rfl] at hx191_1)
                (try rw [show 0 * 2 = 0 from rfl] at hx191_1)
                (try rw [Addr.add_zero'] at hx191_1)
                replace p191 := eq_true p191
                replace q191 := eq_true q191
                have p194 : 0 ≤ (2 : Int) := (by omega)
                have q194 : 2 < (t164.length : Int) := of_decide_eq_true (by first | (with_reducible assumption) | assumption)
                obtain ⟨ad194, e194, hx194_0, hx194_1⟩ := at_T24 (Kd.R_reads' HO167.out).2.2 2 p194 q194
                obtain rfl : ad191 = ad194 := (by injection e194)
                (try simp only [show (2 : Int).toNat = 2 from rfl, Nat.reduceMul, Nat.reduceEqDiff, Go.Addr.add, ↓reduceIte] at hx194_0)
                (try simp only [show (2 : Int).toNat = 2 from rfl, Nat.reduceMul, Nat.reduceEqDiff, Go.Addr.add, ↓reduceIte] at hx194_1)
                have qi194 : (2 < t164.length) = True := eq_true (by omega)
                (try rw [show ((2 : Int)).toNat = 2 from rfl] at hx194_0)
                (try rw [show 2 * 2 = 4 from rfl] at hx194_0)
                (try rw [show ((2 : Int)).toNat = 2 from rfl] at hx194_1)
                (try rw [show 2 * 2 = 4 from rfl] at hx194_1)
                replace p194 := eq_true p194
                replace q194 := eq_true q194
                refine start_ (n := 68) (S := fun w' => w'.cell? ad191 = some (.string ((rd_T24 t164 0).f0)) ∧ w'.cell? ⟨ad191.block, ad191.off + 1, none⟩ = some (.int .i64 ((rd_T24 t164 0).f1)) ∧ w'.cell? ⟨ad191.block, ad191.off + 4, none⟩ = some (.string ((rd_T24 t164 2).f0)) ∧ w'.cell? ⟨ad191.block, ad191.off + 4 + 1, none⟩ = some (.int .i64 ((rd_T24 t164 2).f1))) (ds := []) (lb 68 0) (by kernel_rfl) rfl rfl ⟨hx191_0, hx191_1, hx194_0, hx194_1⟩ (fun hHeld => ?_); refine with_tabW codicillaw19_alive.tab8 codicillaw19_alive.bits8 (fun HT_ HW_ => ?_)
                generalize w74.drew = w75 at HO133 HO141 HO144 HO154 HO157 HO163 HO167 HO172 HO178 HO186 HO189 HB hx191_0 hx191_1 hx194_0 hx194_1 hHeld ⊢
                refine pure_ (i := 0) (N := some 66) (v := ?_) (a' := ?_) (lb 68 1) rfl rfl (any_of HT_.out (by kernel_rfl)) (fun _ _ _ h => h) (Or.inl ⟨by rfl, ?_⟩) ?_ ?_
                rotate_left
                ·intro w'
                 go_simp
                 with_reducible rfl
                rotate_left
                ·simp only [Act.put, zS, zT, zU, zV, zW]
                 rfl
                refine pure_ (i := 1) (N := some 67) (v := ?_) (a' := ?_) (lb 68 3) rfl rfl (any_of HT_.out (by kernel_rfl)) (fun _ _ _ h => h) (Or.inl ⟨by rfl, ?_⟩) ?_ ?_
                rotate_left
                ·intro w'
                 go_simp
                 with_reducible rfl
                rotate_left
                ·simp only [Act.put, zS, zT, zU, zV, zW]
                 rfl
                refine pure_ (i := 2) (N := some 68) (v := ?_) (a' := ?_) (lb 68 7) rfl rfl (any_of HT_.out (by kernel_rfl)) (fun _ _ _ h => h) (Or.inl ⟨by rfl, ?_⟩) ?_ ?_
                rotate_left
                ·intro w'
                 go_simp
                 with_reducible rfl
                rotate_left
                ·simp only [Act.put, zS, zT, zU, zV, zW]
                 rfl
                refine pure_ (i := 3) (N := some 69) (v := ?_) (a' := ?_) (lb 68 15) rfl rfl (any_of HT_.out (by kernel_rfl)) (fun _ _ _ h => h) (Or.inl ⟨by rfl, ?_⟩) ?_ ?_
                rotate_left
                ·intro w'
                 go_simp
                 with_reducible rfl
                rotate_left
                ·simp only [Act.put, zS, zT, zU, zV, zW]
                 rfl
                refine pure_ (i := 4) (N := some 70) (v := ?_) (a' := ?_) (lb 68 31) rfl rfl (any_of HT_.out (by kernel_rfl)) (fun _ _ _ h => h) (Or.inl ⟨by rfl, ?_⟩) ?_ ?_
                rotate_left
                ·intro w'
                 go_simp
                 with_reducible rfl
                rotate_left
                ·simp only [Act.put, zS, zT, zU, zV, zW]
                 rfl
                refine pure_ (i := 5) (N := some 71) (v := ?_) (a' := ?_) (lb 68 63) rfl rfl (any_of HT_.out (by kernel_rfl)) (fun _ _ _ h => h) (Or.inl ⟨by rfl, ?_⟩) ?_ ?_
                rotate_left
                ·intro w'
                 go_simp
                 with_reducible rfl
                rotate_left
                ·simp only [Act.put, zS, zT, zU, zV, zW]
                 rfl
                refine pure_ (i := 6) (N := some 72) (v := ?_) (a' := ?_) (lb 68 127) rfl rfl (any_of HT_.out (by kernel_rfl)) (fun _ _ _ h => h) (Or.inl ⟨by rfl, ?_⟩) ?_ ?_
                rotate_left
                ·intro w'
                 go_simp
                 with_reducible rfl
                rotate_left
                ·simp only [Act.put, zS, zT, zU, zV, zW]
                 rfl
                refine pure_ (i := 7) (N := some 73) (v := ?_) (a' := ?_) (lb 68 255) rfl rfl (any_of HT_.out (by kernel_rfl)) (fun _ _ _ h => h) (Or.inl ⟨by rfl, ?_⟩) ?_ ?_
                rotate_left
                ·intro w'
                 go_simp
                 with_reducible rfl
                rotate_left
                ·simp only [Act.put, zS, zT, zU, zV, zW]
                 rfl
                refine pure_ (i := 8) (N := some 74) (v := ?_) (a' := ?_) (lb 68 511) rfl rfl (any_of HT_.out (by kernel_rfl)) (fun _ _ _ h => h) (Or.inl ⟨by rfl, ?_⟩) ?_ ?_
                rotate_left
                ·intro w'
                 go_simp
                 with_reducible rfl
                rotate_left
                ·simp only [Act.put, zS, zT, zU, zV, zW]
                 rfl
                refine pure_ (i := 9) (N := some 75) (v := ?_) (a' := ?_) (lb 68 1023) rfl rfl (any_of HT_.out (by kernel_rfl)) (fun _ _ _ h => h) (Or.inl ⟨by rfl, ?_⟩) ?_ ?_
                rotate_left
                ·intro w'
                 go_simp
                 with_reducible rfl
                rotate_left
                ·simp only [Act.put, zS, zT, zU, zV, zW]
                 rfl
                refine pure_ (i := 10) (N := some 76) (v := ?_) (a' := ?_) (lb 68 2047) rfl rfl (any_of HT_.out (by kernel_rfl)) (fun _ _ _ h => h) (Or.inl ⟨by rfl, ?_⟩) ?_ ?_
                rotate_left
                ·intro w'
                 go_simp
                 with_reducible rfl
                rotate_left
                ·simp only [Act.put, zS, zT, zU, zV, zW]
                 rfl
                refine pure_ (i := 11) (N := some 77) (v := ?_) (a' := ?_) (lb 68 4095) rfl rfl (any_of HT_.out (by kernel_rfl)) (fun _ _ _ h => h) (Or.inl ⟨by rfl, ?_⟩) ?_ ?_
                rotate_left
                ·intro w'
                 go_simp
                 with_reducible rfl
                rotate_left
                ·simp only [Act.put, zS, zT, zU, zV, zW]
                 rfl
                refine pure_ (i := 12) (N := some 78) (v := ?_) (a' := ?_) (lb 68 8191) rfl rfl (any_of HT_.out (by kernel_rfl)) (fun _ _ _ h => h) (Or.inl ⟨by rfl, ?_⟩) ?_ ?_
                rotate_left
                ·intro w'
                 go_simp
                 with_reducible rfl
                rotate_left
                ·simp only [Act.put, zS, zT, zU, zV, zW]
                 rfl
                refine pure_ (i := 13) (N := some 79) (v := ?_) (a' := ?_) (lb 68 16383) rfl rfl (any_of HT_.out (by kernel_rfl)) (fun _ _ _ h => h) (Or.inl ⟨by rfl, ?_⟩) ?_ ?_
                rotate_left
                ·intro w'
                 go_simp
                 with_reducible rfl
                rotate_left
                ·simp only [Act.put, zS, zT, zU, zV, zW]
                 rfl
                refine pure_ (i := 14) (N := some 80) (v := ?_) (a' := ?_) (lb 68 32767) rfl rfl (any_of HT_.out (by kernel_rfl)) (fun _ _ _ h => h) (Or.inl ⟨by rfl, ?_⟩) ?_ ?_
                rotate_left
                ·intro w'
                 go_simp
                 with_reducible rfl
                rotate_left
                ·simp only [Act.put, zS, zT, zU, zV, zW]
                 rfl
                refine pure_ (i := 15) (N := some 81) (v := ?_) (a' := ?_) (lb 68 65535) rfl rfl (any_of HT_.out (by kernel_rfl)) (fun _ _ _ h => h) (Or.inl ⟨by rfl, ?_⟩) ?_ ?_
                rotate_left
                ·intro w'
                 go_simp
                 with_reducible rfl
                rotate_left
                ·simp only [Act.put, zS, zT, zU, zV, zW]
                 rfl
                refine pure_ (i := 16) (N := some 82) (v := ?_) (a' := ?_) (lb 68 131071) rfl rfl (any_of HT_.out (by kernel_rfl)) (fun _ _ _ h => h) (Or.inl ⟨by rfl, ?_⟩) ?_ ?_
                rotate_left
                ·intro w'
                 go_simp
                 with_reducible rfl
                rotate_left
                ·simp only [Act.put, zS, zT, zU, zV, zW]
                 rfl
                refine pure_ (i := 17) (N := some 83) (v := ?_) (a' := ?_) (lb 68 262143) rfl rfl (any_of HT_.out (by kernel_rfl)) (fun _ _ _ h => h) (Or.inl ⟨by rfl, ?_⟩) ?_ ?_
                rotate_left
                ·intro w'
                 go_simp
                 with_reducible rfl
                rotate_left
                ·simp only [Act.put, zS, zT, zU, zV, zW]
                 rfl
                refine take_ (i := 18) (N := some 84) (v := ?_) (a' := ?_) (lb 68 524287) rfl rfl (take_ofW HT_.out HW_.out (by kernel_rfl)) (fun _ _ _ h => h) (Or.inl ⟨by rfl, ?_⟩) hHeld ?_ ?_
                rotate_left
                ·rintro w' ⟨s0, s1, s2, s3⟩
                 go_simp
                 with_reducible rfl
                rotate_left
                ·simp only [Act.put, zS, zT, zU, zV, zW]
                 rfl
                refine one_ (i := 19) (N := some 85) (lb 68 1048575) rfl rfl (one_of HT_.out (by kernel_rfl)) (by decide) (fun K hK => ?_)
                refine goes_ Try.func25 (by kernel_rfl) rfl #[.string (⟨#[97]⟩ : ByteArray)] (by rfl) rfl rfl (by (try simp only [zX, zY, zZ]); first | done | rfl | (simp only [zD, zE]; rfl)) ?_
                with_reducible refine (codicillaw19_node.calls (⟨#[97]⟩ : ByteArray) t192 t193 _ A24.out).mono ?_
                rintro e w77 ⟨rfl, hb⟩
                have HS0_ := (hb.cell (qO _ _ (hHeld.1))).trans (hHeld.1)
                have HS1_ := (hb.cell (qO _ _ (hHeld.2.1))).trans (hHeld.2.1)
                have HS2_ := (hb.cell (qO _ _ (hHeld.2.2.1))).trans (hHeld.2.2.1)
                have HS3_ := (hb.cell (qO _ _ (hHeld.2.2.2))).trans (hHeld.2.2.2)
                refine ⟨_, rfl, ?_⟩
                have n0_ := qH (Kd.V_below (by (with_reducible repeat first | apply zVa | apply zVb | apply zVc); exact HO133.out) hb)
                have n1_ := qH (Kd.R_below (by (with_reducible repeat first | apply zRa | apply zRb | apply zRc); exact HO141.out) hb)
                have n2_ := qH (Kd.V_below (by (with_reducible repeat first | apply zVa | apply zVb | apply zVc); exact HO144.out) hb)
                have n3_ := qH (Kd.R_below (by (with_reducible repeat first | apply zRa | apply zRb | apply zRc); exact HO154.out) hb)
                have n4_ := qH (Kd.V_below (by (with_reducible repeat first | apply zVa | apply zVb | apply zVc); exact HO157.out) hb)
                have n5_ := qH (Kd.R_below (by (with_reducible repeat first | apply zRa | apply zRb | apply zRc); exact HO163.out) hb)
                have n6_ := qH (Kd.R_below (by (with_reducible repeat first | apply zRa | apply zRb | apply zRc); exact HO167.out) hb)
                have n7_ := qH (Kd.V_below (by (with_reducible repeat first | apply zVa | apply zVb | apply zVc); exact HO172.out) hb)
                have n8_ := qH (Kd.V_below (by (with_reducible repeat first | apply zVa | apply zVb | apply zVc); exact HO178.out) hb)
                have n9_ := qH (Kd.R_below (by (with_reducible repeat first | apply zRa | apply zRb | apply zRc); exact HO186.out) hb)
                have n10_ := qH (Kd.V_below (by (with_reducible repeat first | apply zVa | apply zVb | apply zVc); exact HO189.out) hb)
                have n11_ := qH (below_step (by repeat (first | (with_reducible first | exact HB.out | apply qL | apply qJ | apply qK) | exact HB.out)) hb)
                clear HO133
                clear HO141
                clear HO144
                clear HO154
                clear HO157
                clear HO163
                clear HO167
                clear HO172
                clear HO178
                clear HO186
                clear HO189
                clear HB
                have HO133 := n0_
                have HO141 := n1_
                have HO144 := n2_
                have HO154 := n3_
                have HO157 := n4_
                have HO163 := n5_
                have HO167 := n6_
                have HO172 := n7_
                have HO178 := n8_
                have HO186 := n9_
                have HO189 := n10_
                have HB := n11_
                clear n0_ n1_ n2_ n3_ n4_ n5_ n6_ n7_ n8_ n9_ n10_ n11_
                (try clear hb)
                (try clear hb2)
                (try clear hk)
                (try clear hi)
                refine hK.out _ _ ⟨HS0_, HS1_, HS2_, HS3_⟩ (fun hHeld => ?_)
                clear hK K
                refine norm_ (a' := ?_) ?_ ?_
                rotate_left
                ·show Act.put _ (some 85) _ = _
                 simp only [Act.put, zS, zT, zU, zV, zW]
                 rfl
                refine pure_ (i := 20) (N := some 86) (v := ?_) (a' := ?_) (lb 68 2097151) rfl rfl (any_of HT_.out (by kernel_rfl)) (fun _ _ _ h => h) (Or.inl ⟨by rfl, ?_⟩) ?_ ?_
                rotate_left
                ·intro w'
                 go_simp
                 with_reducible rfl
                rotate_left
                ·simp only [Act.put, zS, zT, zU, zV, zW]
                 rfl
                refine pure_ (i := 21) (N := some 87) (v := ?_) (a' := ?_) (lb 68 4194303) rfl rfl (any_of HT_.out (by kernel_rfl)) (fun _ _ _ h => h) (Or.inl ⟨by rfl, ?_⟩) ?_ ?_
                rotate_left
                ·intro w'
                 go_simp
                 with_reducible rfl
                rotate_left
                ·simp only [Act.put, zS, zT, zU, zV, zW]
                 rfl
                refine pure_ (i := 22) (N := some 88) (v := ?_) (a' := ?_) (lb 68 8388607) rfl rfl (any_of HT_.out (by kernel_rfl)) (fun _ _ _ h => h) (Or.inl ⟨by rfl, ?_⟩) ?_ ?_
                rotate_left
                ·intro w'
                 go_simp
                 with_reducible rfl
                rotate_left
                ·simp only [Act.put, zS, zT, zU, zV, zW]
                 rfl
                refine pure_ (i := 23) (N := some 89) (v := ?_) (a' := ?_) (lb 68 16777215) rfl rfl (any_of HT_.out (by kernel_rfl)) (fun _ _ _ h => h) (Or.inl ⟨by rfl, ?_⟩) ?_ ?_
                rotate_left
                ·intro w'
                 go_simp
                 with_reducible rfl
                rotate_left
                ·simp only [Act.put, zS, zT, zU, zV, zW]
                 rfl
                refine pure_ (i := 24) (N := some 90) (v := ?_) (a' := ?_) (lb 68 33554431) rfl rfl (any_of HT_.out (by kernel_rfl)) (fun _ _ _ h => h) (Or.inl ⟨by rfl, ?_⟩) ?_ ?_
                rotate_left
                ·intro w'
                 go_simp
                 with_reducible rfl
                rotate_left
                ·simp only [Act.put, zS, zT, zU, zV, zW]
                 rfl
                refine take_ (i := 25) (N := some 91) (v := ?_) (a' := ?_) (lb 68 67108863) rfl rfl (take_ofW HT_.out HW_.out (by kernel_rfl)) (fun _ _ _ h => h) (Or.inl ⟨by rfl, ?_⟩) hHeld ?_ ?_
                rotate_left
                ·rintro w' ⟨s0, s1, s2, s3⟩
                 go_simp
                 with_reducible rfl
                rotate_left
                ·simp only [Act.put, zS, zT, zU, zV, zW]
                 rfl
                refine one_ (i := 26) (N := some 92) (lb 68 134217727) rfl rfl (one_of HT_.out (by kernel_rfl)) (by decide) (fun K hK => ?_)
                refine goes_ Try.func25 (by kernel_rfl) rfl #[.string (⟨#[99]⟩ : ByteArray)] (by rfl) rfl rfl (by (try simp only [zX, zY, zZ]); first | done | rfl | (simp only [zD, zE]; rfl)) ?_
                with_reducible refine (codicillaw19_node.calls (⟨#[99]⟩ : ByteArray) t195 t196 _ A27.out).mono ?_
                rintro e w78 ⟨rfl, hb⟩
                have HS0_ := (hb.cell (qO _ _ (hHeld.1))).trans (hHeld.1)
                have HS1_ := (hb.cell (qO _ _ (hHeld.2.1))).trans (hHeld.2.1)
                have HS2_ := (hb.cell (qO _ _ (hHeld.2.2.1))).trans (hHeld.2.2.1)
                have HS3_ := (hb.cell (qO _ _ (hHeld.2.2.2))).trans (hHeld.2.2.2)
                refine ⟨_, rfl, ?_⟩
                have n0_ := qH (Kd.V_below (by (with_reducible repeat first | apply zVa | apply zVb | apply zVc); exact HO133.out) hb)
                have n1_ := qH (Kd.R_below (by (with_reducible repeat first | apply zRa | apply zRb | apply zRc); exact HO141.out) hb)
                have n2_ := qH (Kd.V_below (by (with_reducible repeat first | apply zVa | apply zVb | apply zVc); exact HO144.out) hb)
                have n3_ := qH (Kd.R_below (by (with_reducible repeat first | apply zRa | apply zRb | apply zRc); exact HO154.out) hb)
                have n4_ := qH (Kd.V_below (by (with_reducible repeat first | apply zVa | apply zVb | apply zVc); exact HO157.out) hb)
                have n5_ := qH (Kd.R_below (by (with_reducible repeat first | apply zRa | apply zRb | apply zRc); exact HO163.out) hb)
                have n6_ := qH (Kd.R_below (by (with_reducible repeat first | apply zRa | apply zRb | apply zRc); exact HO167.out) hb)
                have n7_ := qH (Kd.V_below (by (with_reducible repeat first | apply zVa | apply zVb | apply zVc); exact HO172.out) hb)
                have n8_ := qH (Kd.V_below (by (with_reducible repeat first | apply zVa | apply zVb | apply zVc); exact HO178.out) hb)
                have n9_ := qH (Kd.R_below (by (with_reducible repeat first | apply zRa | apply zRb | apply zRc); exact HO186.out) hb)
                have n10_ := qH (Kd.V_below (by (with_reducible repeat first | apply zVa | apply zVb | apply zVc); exact HO189.out) hb)
                have n11_ := qH (below_step (by repeat (first | (with_reducible first | exact HB.out | apply qL | apply qJ | apply qK) | exact HB.out)) hb)
                clear HO133
                clear HO141
                clear HO144
                clear HO154
                clear HO157
                clear HO163
                clear HO167
                clear HO172
                clear HO178
                clear HO186
                clear HO189
                clear HB
                have HO133 := n0_
                have HO141 := n1_
                have HO144 := n2_
                have HO154 := n3_
                have HO157 := n4_
                have HO163 := n5_
                have HO167 := n6_
                have HO172 := n7_
                have HO178 := n8_
                have HO186 := n9_
                have HO189 := n10_
                have HB := n11_
                clear n0_ n1_ n2_ n3_ n4_ n5_ n6_ n7_ n8_ n9_ n10_ n11_
                (try clear hb)
                (try clear hb2)
                (try clear hk)
                (try clear hi)
                obtain ⟨Ao79, co79, eo79⟩ := Kd.V_slice HO178.out
                (first | subst eo79 | (injection eo79 with f1_ f2_ f3_; have f4_ := f1_.symm; have f5_ := f3_.symm; clear f1_ f2_ f3_; subst f4_; subst f5_))
                refine hK.out _ _ ⟨HS0_, HS1_, HS2_, HS3_⟩ (fun hHeld => ?_)
                clear hK K
                refine norm_ (a' := ?_) ?_ ?_
                rotate_left
                ·show Act.put _ (some 92) _ = _
                 simp only [Act.put, zS, zT, zU, zV, zW]
                 rfl
                refine pure_ (i := 27) (N := some 93) (v := ?_) (a' := ?_) (lb 68 268435455) rfl rfl (any_of HT_.out (by kernel_rfl)) (fun _ _ _ h => h) (Or.inl ⟨by rfl, ?_⟩) ?_ ?_
                rotate_left
                ·intro w'
                 go_simp
                 with_reducible rfl
                rotate_left
                ·simp only [Act.put, zS, zT, zU, zV, zW]
                 rfl
                refine pure_ (i := 28) (N := some 94) (v := ?_) (a' := ?_) (lb 68 536870911) rfl rfl (any_of HT_.out (by kernel_rfl)) (fun _ _ _ h => h) (Or.inl ⟨by rfl, ?_⟩) ?_ ?_
                rotate_left
                ·intro w'
                 go_simp
                 with_reducible rfl
                rotate_left
                ·simp only [Act.put, zS, zT, zU, zV, zW]
                 rfl
                refine pure_ (i := 29) (N := some 95) (v := ?_) (a' := ?_) (lb 68 1073741823) rfl rfl (any_of HT_.out (by kernel_rfl)) (fun _ _ _ h => h) (Or.inl ⟨by rfl, ?_⟩) ?_ ?_
                rotate_left
                ·intro w'
                 go_simp
                 with_reducible rfl
                rotate_left
                ·simp only [Act.put, zS, zT, zU, zV, zW]
                 rfl
                refine pure_ (i := 30) (N := some 96) (v := ?_) (a' := ?_) (lb 68 2147483647) rfl rfl (any_of HT_.out (by kernel_rfl)) (fun _ _ _ h => h) (Or.inl ⟨by rfl, ?_⟩) ?_ ?_
                rotate_left
                ·intro w'
                 go_simp
                 with_reducible rfl
                rotate_left
                ·simp only [Act.put, zS, zT, zU, zV, zW]
                 rfl
                refine pure_ (i := 31) (N := some 97) (v := ?_) (a' := ?_) (lb 68 4294967295) rfl rfl (any_of HT_.out (by kernel_rfl)) (fun _ _ _ h => h) (Or.inl ⟨by rfl, ?_⟩) ?_ ?_
                rotate_left
                ·intro w'
                 go_simp
                 with_reducible rfl
                rotate_left
                ·simp only [Act.put, zS, zT, zU, zV, zW]
                 rfl
                refine pure_ (i := 32) (N := some 98) (v := ?_) (a' := ?_) (lb 68 8589934591) rfl rfl (any_of HT_.out (by kernel_rfl)) (fun _ _ _ h => h) (Or.inl ⟨by rfl, ?_⟩) ?_ ?_
                rotate_left
                ·intro w'
                 go_simp
                 with_reducible rfl
                rotate_left
                ·simp only [Act.put, zS, zT, zU, zV, zW]
                 rfl
                refine pure_ (i := 33) (N := some 99) (v := ?_) (a' := ?_) (lb 68 17179869183) rfl rfl (any_of HT_.out (by kernel_rfl)) (fun _ _ _ h => h) (Or.inl ⟨by rfl, ?_⟩) ?_ ?_
                rotate_left
                ·intro w'
                 go_simp
                 with_reducible rfl
                rotate_left
                ·simp only [Act.put, zS, zT, zU, zV, zW]
                 rfl
                refine pure_ (i := 34) (N := some 100) (v := ?_) (a' := ?_) (lb 68 34359738367) rfl rfl (any_of HT_.out (by kernel_rfl)) (fun _ _ _ h => h) (Or.inl ⟨by rfl, ?_⟩) ?_ ?_
                rotate_left
                ·intro w'
                 go_simp
                 with_reducible rfl
                rotate_left
                ·simp only [Act.put, zS, zT, zU, zV, zW]
                 rfl
                refine pure_ (i := 35) (N := some 101) (v := ?_) (a' := ?_) (lb 68 68719476735) rfl rfl (any_of HT_.out (by kernel_rfl)) (fun _ _ _ h => h) (Or.inl ⟨by rfl, ?_⟩) ?_ ?_
                rotate_left
                ·intro w'
                 go_simp
                 with_reducible rfl
                rotate_left
                ·simp only [Act.put, zS, zT, zU, zV, zW]
                 rfl
                refine pure_ (i := 36) (N := some 102) (v := ?_) (a' := ?_) (lb 68 137438953471) rfl rfl (any_of HT_.out (by kernel_rfl)) (fun _ _ _ h => h) (Or.inl ⟨by rfl, ?_⟩) ?_ ?_
                rotate_left
                ·intro w'
                 go_simp
                 with_reducible rfl
                rotate_left
                ·simp only [Act.put, zS, zT, zU, zV, zW]
                 rfl
                refine pure_ (i := 37) (N := some 103) (v := ?_) (a' := ?_) (lb 68 274877906943) rfl rfl (any_of HT_.out (by kernel_rfl)) (fun _ _ _ h => h) (Or.inl ⟨by rfl, ?_⟩) ?_ ?_
                rotate_left
                ·intro w'
                 go_simp
                 with_reducible rfl
                rotate_left
                ·simp only [Act.put, zS, zT, zU, zV, zW]
                 rfl
                refine pure_ (i := 38) (N := some 104) (v := ?_) (a' := ?_) (lb 68 549755813887) rfl rfl (any_of HT_.out (by kernel_rfl)) (fun _ _ _ h => h) (Or.inl ⟨by rfl, ?_⟩) ?_ ?_
                rotate_left
                ·intro w'
                 go_simp
                 with_reducible rfl
                rotate_left
                ·simp only [Act.put, zS, zT, zU, zV, zW]
                 rfl
                refine pure_ (i := 39) (N := some 105) (v := ?_) (a' := ?_) (lb 68 1099511627775) rfl rfl (any_of HT_.out (by kernel_rfl)) (fun _ _ _ h => h) (Or.inl ⟨by rfl, ?_⟩) ?_ ?_
                rotate_left
                ·intro w'
                 go_simp
                 with_reducible rfl
                rotate_left
                ·simp only [Act.put, zS, zT, zU, zV, zW]
                 rfl
                refine pure_ (i := 40) (N := some 106) (v := ?_) (a' := ?_) (lb 68 2199023255551) rfl rfl (any_of HT_.out (by kernel_rfl)) (fun _ _ _ h => h) (Or.inl ⟨by rfl, ?_⟩) ?_ ?_
                rotate_left
                ·intro w'
                 go_simp
                 with_reducible rfl
                rotate_left
                ·simp only [Act.put, zS, zT, zU, zV, zW]
                 rfl
                refine pure_ (i := 41) (N := some 107) (v := ?_) (a' := ?_) (lb 68 4398046511103) rfl rfl (any_of HT_.out (by kernel_rfl)) (fun _ _ _ h => h) (Or.inl ⟨by rfl, ?_⟩) ?_ ?_
                rotate_left
                ·intro w'
                 go_simp
                 with_reducible rfl
                rotate_left
                ·simp only [Act.put, zS, zT, zU, zV, zW]
                 rfl
                refine pure_ (i := 42) (N := some 108) (v := ?_) (a' := ?_) (lb 68 8796093022207) rfl rfl (any_of HT_.out (by kernel_rfl)) (fun _ _ _ h => h) (Or.inl ⟨by rfl, ?_⟩) ?_ ?_
                rotate_left
                ·intro w'
                 go_simp
                 with_reducible rfl
                rotate_left
                ·simp only [Act.put, zS, zT, zU, zV, zW]
                 rfl
                refine pure_ (i := 43) (N := some 109) (v := ?_) (a' := ?_) (lb 68 17592186044415) rfl rfl (any_of HT_.out (by kernel_rfl)) (fun _ _ _ h => h) (Or.inl ⟨by rfl, ?_⟩) ?_ ?_
                rotate_left
                ·intro w'
                 go_simp
                 with_reducible rfl
                rotate_left
                ·simp only [Act.put, zS, zT, zU, zV, zW]
                 rfl
                refine pure_ (i := 44) (N := some 110) (v := ?_) (a' := ?_) (lb 68 35184372088831) rfl rfl (any_of HT_.out (by kernel_rfl)) (fun _ _ _ h => h) (Or.inl ⟨by rfl, ?_⟩) ?_ ?_
                rotate_left
                ·intro w'
                 go_simp
                 with_reducible rfl
                rotate_left
                ·simp only [Act.put, zS, zT, zU, zV, zW]
                 rfl
                refine pure_ (i := 45) (N := some 111) (v := ?_) (a' := ?_) (lb 68 70368744177663) rfl rfl (any_of HT_.out (by kernel_rfl)) (fun _ _ _ h => h) (Or.inl ⟨by rfl, ?_⟩) ?_ ?_
                rotate_left
                ·intro w'
                 go_simp
                 with_reducible rfl
                rotate_left
                ·simp only [Act.put, zS, zT, zU, zV, zW]
                 rfl
                refine pure_ (i := 46) (N := some 112) (v := ?_) (a' := ?_) (lb 68 140737488355327) rfl rfl (any_of HT_.out (by kernel_rfl)) (fun _ _ _ h => h) (Or.inl ⟨by rfl, ?_⟩) ?_ ?_
                rotate_left
                ·intro w'
                 go_simp
                 with_reducible rfl
                rotate_left
                ·simp only [Act.put, zS, zT, zU, zV, zW]
                 rfl
                refine pure_ (i := 47) (N := some 113) (v := ?_) (a' := ?_) (lb 68 281474976710655) rfl rfl (any_of HT_.out (by kernel_rfl)) (fun _ _ _ h => h) (Or.inl ⟨by rfl, ?_⟩) ?_ ?_
                rotate_left
                ·intro w'
                 go_simp
                 with_reducible rfl
                rotate_left
                ·simp only [Act.put, zS, zT, zU, zV, zW]
                 rfl
                refine pure_ (i := 48) (N := some 114) (v := ?_) (a' := ?_) (lb 68 562949953421311) rfl rfl (any_of HT_.out (by kernel_rfl)) (fun _ _ _ h => h) (Or.inl ⟨by rfl, ?_⟩) ?_ ?_
                rotate_left
                ·intro w'
                 go_simp
                 with_reducible rfl
                rotate_left
                ·simp only [Act.put, zS, zT, zU, zV, zW]
                 rfl
                refine pure_ (i := 49) (N := some 115) (v := ?_) (a' := ?_) (lb 68 1125899906842623) rfl rfl (any_of HT_.out (by kernel_rfl)) (fun _ _ _ h => h) (Or.inl ⟨by rfl, ?_⟩) ?_ ?_
                rotate_left
                ·intro w'
                 go_simp
                 with_reducible rfl
                rotate_left
                ·simp only [Act.put, zS, zT, zU, zV, zW]
                 rfl
                refine pure_ (i := 50) (N := some 116) (v := ?_) (a' := ?_) (lb 68 2251799813685247) rfl rfl (any_of HT_.out (by kernel_rfl)) (fun _ _ _ h => h) (Or.inl ⟨by rfl, ?_⟩) ?_ ?_
                rotate_left
                ·intro w'
                 go_simp
                 with_reducible rfl
                rotate_left
                ·simp only [Act.put, zS, zT, zU, zV, zW]
                 rfl
                refine pure_ (i := 51) (N := some 117) (v := ?_) (a' := ?_) (lb 68 4503599627370495) rfl rfl (any_of HT_.out (by kernel_rfl)) (fun _ _ _ h => h) (Or.inl ⟨by rfl, ?_⟩) ?_ ?_
                rotate_left
                ·intro w'
                 go_simp
                 with_reducible rfl
                rotate_left
                ·simp only [Act.put, zS, zT, zU, zV, zW]
                 rfl
                refine one_ (i := 52) (N := some 118) (lb 68 9007199254740991) rfl rfl (one_of HT_.out (by kernel_rfl)) (by decide) (fun K hK => ?_)
                refine goes_ Try.func13 (by kernel_rfl) rfl #[.slice Ao62 t155.length co62] (by rfl) rfl rfl (by (try simp only [zX, zY, zZ]); first | done | rfl | (simp only [zD, zE]; rfl)) ?_
                with_reducible refine (graph_May.calls _ _ t155 t197 _ ?side1 ?side2 A34.out).mono ?_
                (case side1 => repeat (first | exact (Kd.V_reads' HO157.out).2.2 | (with_reducible refine Kd.C_alloc ?_ _) | (with_reducible refine Kd.C_drewN ?_ _) | (with_reducible refine Kd.C_drew ?_)))
                (case side2 => exact (Kd.V_reads' HO157.out).2.1)
                rintro e w80 ⟨rfl, hb⟩
                have HS0_ := (hb.cell (qO _ _ (hHeld.1))).trans (hHeld.1)
                have HS1_ := (hb.cell (qO _ _ (hHeld.2.1))).trans (hHeld.2.1)
                have HS2_ := (hb.cell (qO _ _ (hHeld.2.2.1))).trans (hHeld.2.2.1)
                have HS3_ := (hb.cell (qO _ _ (hHeld.2.2.2))).trans (hHeld.2.2.2)
                refine ⟨_, rfl, ?_⟩
                have n0_ := qH (Kd.V_below (by (with_reducible repeat first | apply zVa | apply zVb | apply zVc); exact HO133.out) hb)
                have n1_ := qH (Kd.R_below (by (with_reducible repeat first | apply zRa | apply zRb | apply zRc); exact HO141.out) hb)
                have n2_ := qH (Kd.V_below (by (with_reducible repeat first | apply zVa | apply zVb | apply zVc); exact HO144.out) hb)
                have n3_ := qH (Kd.R_below (by (with_reducible repeat first | apply zRa | apply zRb | apply zRc); exact HO154.out) hb)
                have n4_ := qH (Kd.V_below (by (with_reducible repeat first | apply zVa | apply zVb | apply zVc); exact HO157.out) hb)
                have n5_ := qH (Kd.R_below (by (with_reducible repeat first | apply zRa | apply zRb | apply zRc); exact HO163.out) hb)
                have n6_ := qH (Kd.R_below (by (with_reducible repeat first | apply zRa | apply zRb | apply zRc); exact HO167.out) hb)
                have n7_ := qH (Kd.V_below (by (with_reducible repeat first | apply zVa | apply zVb | apply zVc); exact HO172.out) hb)
                have n8_ := qH (Kd.V_below (by (with_reducible repeat first | apply zVa | apply zVb | apply zVc); exact HO178.out) hb)
                have n9_ := qH (Kd.R_below (by (with_reducible repeat first | apply zRa | apply zRb | apply zRc); exact HO186.out) hb)
                have n10_ := qH (Kd.V_below (by (with_reducible repeat first | apply zVa | apply zVb | apply zVc); exact HO189.out) hb)
                have n11_ := qH (below_step (by repeat (first | (with_reducible first | exact HB.out | apply qL | apply qJ | apply qK) | exact HB.out)) hb)
                clear HO133
                clear HO141
                clear HO144
                clear HO154
                clear HO157
                clear HO163
                clear HO167
                clear HO172
                clear HO178
                clear HO186
                clear HO189
                clear HB
                have HO133 := n0_
                have HO141 := n1_
                have HO144 := n2_
                have HO154 := n3_
                have HO157 := n4_
                have HO163 := n5_
                have HO167 := n6_
                have HO172 := n7_
                have HO178 := n8_
                have HO186 := n9_
                have HO189 := n10_
                have HB := n11_
                clear n0_ n1_ n2_ n3_ n4_ n5_ n6_ n7_ n8_ n9_ n10_ n11_
                (try clear hb)
                (try clear hb2)
                (try clear hk)
                (try clear hi)
                refine hK.out _ _ ⟨HS0_, HS1_, HS2_, HS3_⟩ (fun hHeld => ?_)
                clear hK K
                refine norm_ (a' := ?_) ?_ ?_
                rotate_left
                ·show Act.put _ (some 118) _ = _
                 simp only [Act.put, zS, zT, zU, zV, zW]
                 rfl
                refine pure_ (i := 53) (N := some 119) (v := ?_) (a' := ?_) (lb 68 18014398509481983) rfl rfl (any_of HT_.out (by kernel_rfl)) (fun _ _ _ h => h) (Or.inl ⟨by rfl, ?_⟩) ?_ ?_
                rotate_left
                ·intro w'
                 go_simp
                 with_reducible rfl
                rotate_left
                ·simp only [Act.put, zS, zT, zU, zV, zW]
                 rfl
                refine pure_ (i := 54) (N := some 120) (v := ?_) (a' := ?_) (lb 68 36028797018963967) rfl rfl (any_of HT_.out (by kernel_rfl)) (fun _ _ _ h => h) (Or.inl ⟨by rfl, ?_⟩) ?_ ?_
                rotate_left
                ·intro w'
                 go_simp
                 with_reducible rfl
                rotate_left
                ·simp only [Act.put, zS, zT, zU, zV, zW]
                 rfl
                refine pure_ (i := 55) (N := some 121) (v := ?_) (a' := ?_) (lb 68 72057594037927935) rfl rfl (any_of HT_.out (by kernel_rfl)) (fun _ _ _ h => h) (Or.inl ⟨by rfl, ?_⟩) ?_ ?_
                rotate_left
                ·intro w'
                 go_simp
                 with_reducible rfl
                rotate_left
                ·simp only [Act.put, zS, zT, zU, zV, zW]
                 rfl
                refine pure_ (i := 56) (N := some 122) (v := ?_) (a' := ?_) (lb 68 144115188075855871) rfl rfl (any_of HT_.out (by kernel_rfl)) (fun _ _ _ h => h) (Or.inl ⟨by rfl, ?_⟩) ?_ ?_
                rotate_left
                ·intro w'
                 go_simp
                 with_reducible rfl
                rotate_left
                ·simp only [Act.put, zS, zT, zU, zV, zW]
                 rfl
                refine one_ (i := 57) (N := some 123) (lb 68 288230376151711743) rfl rfl (one_of HT_.out (by kernel_rfl)) (by decide) (fun K hK => ?_)
                refine goes_ Try.func25 (by kernel_rfl) rfl #[.string (⟨#[97]⟩ : ByteArray)] (by rfl) rfl rfl (by (try simp only [zX, zY, zZ]); first | done | rfl | (simp only [zD, zE]; rfl)) ?_
                with_reducible refine (codicillaw19_node.calls (⟨#[97]⟩ : ByteArray) t198 t199 _ A36.out).mono ?_
                rintro e w81 ⟨rfl, hb⟩
                have HS0_ := (hb.cell (qO _ _ (hHeld.1))).trans (hHeld.1)
                have HS1_ := (hb.cell (qO _ _ (hHeld.2.1))).trans (hHeld.2.1)
                have HS2_ := (hb.cell (qO _ _ (hHeld.2.2.1))).trans (hHeld.2.2.1)
                have HS3_ := (hb.cell (qO _ _ (hHeld.2.2.2))).trans (hHeld.2.2.2)
                refine ⟨_, rfl, ?_⟩
                have n0_ := qH (Kd.V_below (by (with_reducible repeat first | apply zVa | apply zVb | apply zVc); exact HO133.out) hb)
                have n1_ := qH (Kd.R_below (by (with_reducible repeat first | apply zRa | apply zRb | apply zRc); exact HO141.out) hb)
                have n2_ := qH (Kd.V_below (by (with_reducible repeat first | apply zVa | apply zVb | apply zVc); exact HO144.out) hb)
                have n3_ := qH (Kd.R_below (by (with_reducible repeat first | apply zRa | apply zRb | apply zRc); exact HO154.out) hb)
                have n4_ := qH (Kd.V_below (by (with_reducible repeat first | apply zVa | apply zVb | apply zVc); exact HO157.out) hb)
                have n5_ := qH (Kd.R_below (by (with_reducible repeat first | apply zRa | apply zRb | apply zRc); exact HO163.out) hb)
                have n6_ := qH (Kd.R_below (by (with_reducible repeat first | apply zRa | apply zRb | apply zRc); exact HO167.out) hb)
                have n7_ := qH (Kd.V_below (by (with_reducible repeat first | apply zVa | apply zVb | apply zVc); exact HO172.out) hb)
                have n8_ := qH (Kd.V_below (by (with_reducible repeat first | apply zVa | apply zVb | apply zVc); exact HO178.out) hb)
                have n9_ := qH (Kd.R_below (by (with_reducible repeat first | apply zRa | apply zRb | apply zRc); exact HO186.out) hb)
                have n10_ := qH (Kd.V_below (by (with_reducible repeat first | apply zVa | apply zVb | apply zVc); exact HO189.out) hb)
                have n11_ := qH (below_step (by repeat (first | (with_reducible first | exact HB.out | apply qL | apply qJ | apply qK) | exact HB.out)) hb)
                clear HO133
                clear HO141
                clear HO144
                clear HO154
                clear HO157
                clear HO163
                clear HO167
                clear HO172
                clear HO178
                clear HO186
                clear HO189
                clear HB
                have HO133 := n0_
                have HO141 := n1_
                have HO144 := n2_
                have HO154 := n3_
                have HO157 := n4_
                have HO163 := n5_
                have HO167 := n6_
                have HO172 := n7_
                have HO178 := n8_
                have HO186 := n9_
                have HO189 := n10_
                have HB := n11_
                clear n0_ n1_ n2_ n3_ n4_ n5_ n6_ n7_ n8_ n9_ n10_ n11_
                (try clear hb)
                (try clear hb2)
                (try clear hk)
                (try clear hi)
                refine hK.out _ _ ⟨HS0_, HS1_, HS2_, HS3_⟩ (fun hHeld => ?_)
                clear hK K
                refine norm_ (a' := ?_) ?_ ?_
                rotate_left
                ·show Act.put _ (some 123) _ = _
                 simp only [Act.put, zS, zT, zU, zV, zW]
                 rfl
                refine one_ (i := 58) (N := some 124) (lb 68 576460752303423487) rfl rfl (one_of HT_.out (by kernel_rfl)) (by decide) (fun K hK => ?_)
                refine goes_ Try.func16 (by kernel_rfl) rfl #[.slice Ao62 t155.length co62, .agg #[.string t198, .int .i64 t199]] (by rfl) rfl rfl (by (try simp only [zX, zY, zZ]); first | done | rfl | (simp only [zD, zE]; rfl)) ?_
                with_reducible refine (graph_Users.calls k _ _ t155 t198 t199 t200 _ ?side1 ?side2 A37.out).mono ?_
                (case side1 => repeat (first | exact (Kd.V_reads' HO157.out).2.2 | (with_reducible refine Kd.C_alloc ?_ _) | (with_reducible refine Kd.C_drewN ?_ _) | (with_reducible refine Kd.C_drew ?_)))
                (case side2 => exact (Kd.V_reads' HO157.out).2.1)
                rintro e w82 ⟨v201, rfl, ho0, hb⟩
                have HS0_ := (hb.cell (qO _ _ (hHeld.1))).trans (hHeld.1)
                have HS1_ := (hb.cell (qO _ _ (hHeld.2.1))).trans (hHeld.2.1)
                have HS2_ := (hb.cell (qO _ _ (hHeld.2.2.1))).trans (hHeld.2.2.1)
                have HS3_ := (hb.cell (qO _ _ (hHeld.2.2.2))).trans (hHeld.2.2.2)
                refine ⟨_, rfl, ?_⟩
                have n0_ := qH (Kd.V_elder' (by (with_reducible repeat first | apply zVa | apply zVb | apply zVc); exact HO133.out) (Kd.R_base ho0) hb)
                have n1_ := qH (Kd.R_elder' (by (with_reducible repeat first | apply zRa | apply zRb | apply zRc); exact HO141.out) (Kd.R_base ho0) hb)
                have n2_ := qH (Kd.V_elder' (by (with_reducible repeat first | apply zVa | apply zVb | apply zVc); exact HO144.out) (Kd.R_base ho0) hb)
                have n3_ := qH (Kd.R_elder' (by (with_reducible repeat first | apply zRa | apply zRb | apply zRc); exact HO154.out) (Kd.R_base ho0) hb)
                have n4_ := qH (Kd.V_elder' (by (with_reducible repeat first | apply zVa | apply zVb | apply zVc); exact HO157.out) (Kd.R_base ho0) hb)
                have n5_ := qH (Kd.R_elder' (by (with_reducible repeat first | apply zRa | apply zRb | apply zRc); exact HO163.out) (Kd.R_base ho0) hb)
                have n6_ := qH (Kd.R_elder' (by (with_reducible repeat first | apply zRa | apply zRb | apply zRc); exact HO167.out) (Kd.R_base ho0) hb)
                have n7_ := qH (Kd.V_elder' (by (with_reducible repeat first | apply zVa | apply zVb | apply zVc); exact HO172.out) (Kd.R_base ho0) hb)
                have n8_ := qH (Kd.V_elder' (by (with_reducible repeat first | apply zVa | apply zVb | apply zVc); exact HO178.out) (Kd.R_base ho0) hb)
                have n9_ := qH (Kd.R_elder' (by (with_reducible repeat first | apply zRa | apply zRb | apply zRc); exact HO186.out) (Kd.R_base ho0) hb)
                have n10_ := qH (Kd.V_elder' (by (with_reducible repeat first | apply zVa | apply zVb | apply zVc); exact HO189.out) (Kd.R_base ho0) hb)
                have n11_ := qH (Kd.R_lower (Kd.R_new' (Kd.R_new' (Kd.R_new' (Kd.R_new' (Kd.R_new' ho0 (Kd.R_lt (by (with_reducible repeat first | apply zRa | apply zRb | apply zRc); exact HO141.out))) (Kd.R_lt (by (with_reducible repeat first | apply zRa | apply zRb | apply zRc); exact HO154.out))) (Kd.R_lt (by (with_reducible repeat first | apply zRa | apply zRb | apply zRc); exact HO163.out))) (Kd.R_lt (by (with_reducible repeat first | apply zRa | apply zRb | apply zRc); exact HO167.out))) (Kd.R_lt (by (with_reducible repeat first | apply zRa | apply zRb | apply zRc); exact HO186.out))) (below_size (by repeat (first | (with_reducible first | exact HB.out | apply qL | apply qJ | apply qK) | exact HB.out))))
                have n12_ := qH (below_step (by repeat (first | (with_reducible first | exact HB.out | apply qL | apply qJ | apply qK) | exact HB.out)) hb)
                clear HO133
                clear HO141
                clear HO144
                clear HO154
                clear HO157
                clear HO163
                clear HO167
                clear HO172
                clear HO178
                clear HO186
                clear HO189
                clear HB
                have HO133 := n0_
                have HO141 := n1_
                have HO144 := n2_
                have HO154 := n3_
                have HO157 := n4_
                have HO163 := n5_
                have HO167 := n6_
                have HO172 := n7_
                have HO178 := n8_
                have HO186 := n9_
                have HO189 := n10_
                have HO202 := n11_
                have HB := n12_
                clear n0_ n1_ n2_ n3_ n4_ n5_ n6_ n7_ n8_ n9_ n10_ n11_ n12_
                (try clear hb)
                (try clear hb2)
                (try clear hk)
                (try clear hi)
                (try clear ho0)
                obtain ⟨Ao83, co83, eo83⟩ := Kd.R_slice HO202.out
                (first | subst eo83 | (injection eo83 with f1_ f2_ f3_; have f4_ := f1_.symm; have f5_ := f3_.symm; clear f1_ f2_ f3_; subst f4_; subst f5_))
                refine hK.out _ _ ⟨HS0_, HS1_, HS2_, HS3_⟩ (fun hHeld => ?_)
                clear hK K
                refine norm_ (a' := ?_) ?_ ?_
                rotate_left
                ·show Act.put _ (some 124) _ = _
                 simp only [Act.put, zS, zT, zU, zV, zW]
                 rfl
                refine pure_ (i := 59) (N := some 125) (v := ?_) (a' := ?_) (lb 68 1152921504606846975) rfl rfl (any_of HT_.out (by kernel_rfl)) (fun _ _ _ h => h) (Or.inl ⟨by rfl, ?_⟩) ?_ ?_
                rotate_left
                ·intro w'
                 go_simp
                 with_reducible rfl
                rotate_left
                ·simp only [Act.put, zS, zT, zU, zV, zW]
                 rfl
                refine pure_ (i := 60) (N := some 126) (v := ?_) (a' := ?_) (lb 68 2305843009213693951) rfl rfl (any_of HT_.out (by kernel_rfl)) (fun _ _ _ h => h) (Or.inl ⟨by rfl, ?_⟩) ?_ ?_
                rotate_left
                ·intro w'
                 go_simp
                 with_reducible rfl
                rotate_left
                ·simp only [Act.put, zS, zT, zU, zV, zW]
                 rfl
                refine pure_ (i := 61) (N := some 127) (v := ?_) (a' := ?_) (lb 68 4611686018427387903) rfl rfl (any_of HT_.out (by kernel_rfl)) (fun _ _ _ h => h) (Or.inl ⟨by rfl, ?_⟩) ?_ ?_
                rotate_left
                ·intro w'
                 go_simp
                 with_reducible rfl
                rotate_left
                ·simp only [Act.put, zS, zT, zU, zV, zW]
                 rfl
                refine pure_ (i := 62) (N := some 128) (v := ?_) (a' := ?_) (lb 68 9223372036854775807) rfl rfl (any_of HT_.out (by kernel_rfl)) (fun _ _ _ h => h) (Or.inl ⟨by rfl, ?_⟩) ?_ ?_
                rotate_left
                ·intro w'
                 go_simp
                 with_reducible rfl
                rotate_left
                ·simp only [Act.put, zS, zT, zU, zV, zW]
                 rfl
                refine one_ (i := 63) (N := some 129) (lb 68 18446744073709551615) rfl rfl (one_of HT_.out (by kernel_rfl)) (by decide) (fun K hK => ?_)
                refine goes_ Try.func25 (by kernel_rfl) rfl #[.string (⟨#[97]⟩ : ByteArray)] (by rfl) rfl rfl (by (try simp only [zX, zY, zZ]); first | done | rfl | (simp only [zD, zE]; rfl)) ?_
                with_reducible refine (codicillaw19_node.calls (⟨#[97]⟩ : ByteArray) t203 t204 _ A39.out).mono ?_
                rintro e w84 ⟨rfl, hb⟩
                have HS0_ := (hb.cell (qO _ _ (hHeld.1))).trans (hHeld.1)
                have HS1_ := (hb.cell (qO _ _ (hHeld.2.1))).trans (hHeld.2.1)
                have HS2_ := (hb.cell (qO _ _ (hHeld.2.2.1))).trans (hHeld.2.2.1)
                have HS3_ := (hb.cell (qO _ _ (hHeld.2.2.2))).trans (hHeld.2.2.2)
                refine ⟨_, rfl, ?_⟩
                have n0_ := qH (Kd.V_below (by (with_reducible repeat first | apply zVa | apply zVb | apply zVc); exact HO133.out) hb)
                have n1_ := qH (Kd.R_below (by (with_reducible repeat first | apply zRa | apply zRb | apply zRc); exact HO141.out) hb)
                have n2_ := qH (Kd.V_below (by (with_reducible repeat first | apply zVa | apply zVb | apply zVc); exact HO144.out) hb)
                have n3_ := qH (Kd.R_below (by (with_reducible repeat first | apply zRa | apply zRb | apply zRc); exact HO154.out) hb)
                have n4_ := qH (Kd.V_below (by (with_reducible repeat first | apply zVa | apply zVb | apply zVc); exact HO157.out) hb)
                have n5_ := qH (Kd.R_below (by (with_reducible repeat first | apply zRa | apply zRb | apply zRc); exact HO163.out) hb)
                have n6_ := qH (Kd.R_below (by (with_reducible repeat first | apply zRa | apply zRb | apply zRc); exact HO167.out) hb)
                have n7_ := qH (Kd.V_below (by (with_reducible repeat first | apply zVa | apply zVb | apply zVc); exact HO172.out) hb)
                have n8_ := qH (Kd.V_below (by (with_reducible repeat first | apply zVa | apply zVb | apply zVc); exact HO178.out) hb)
                have n9_ := qH (Kd.R_below (by (with_reducible repeat first | apply zRa | apply zRb | apply zRc); exact HO186.out) hb)
                have n10_ := qH (Kd.V_below (by (with_reducible repeat first | apply zVa | apply zVb | apply zVc); exact HO189.out) hb)
                have n11_ := qH (Kd.R_below (by (with_reducible repeat first | apply zRa | apply zRb | apply zRc); exact HO202.out) hb)
                have n12_ := qH (below_step (by repeat (first | (with_reducible first | exact HB.out | apply qL | apply qJ | apply qK) | exact HB.out)) hb)
                clear HO133
                clear HO141
                clear HO144
                clear HO154
                clear HO157
                clear HO163
                clear HO167
                clear HO172
                clear HO178
                clear HO186
                clear HO189
                clear HO202
                clear HB
                have HO133 := n0_
                have HO141 := n1_
                have HO144 := n2_
                have HO154 := n3_
                have HO157 := n4_
                have HO163 := n5_
                have HO167 := n6_
                have HO172 := n7_
                have HO178 := n8_
                have HO186 := n9_
                have HO189 := n10_
                have HO202 := n11_
                have HB := n12_
                clear n0_ n1_ n2_ n3_ n4_ n5_ n6_ n7_ n8_ n9_ n10_ n11_ n12_
                (try clear hb)
                (try clear hb2)
                (try clear hk)
                (try clear hi)
                refine hK.out _ _ ⟨HS0_, HS1_, HS2_, HS3_⟩ (fun hHeld => ?_)
                clear hK K
                refine norm_ (a' := ?_) ?_ ?_
                rotate_left
                ·show Act.put _ (some 129) _ = _
                 simp only [Act.put, zS, zT, zU, zV, zW]
                 rfl
                refine one_ (i := 64) (N := some 130) (lb 68 36893488147419103231) rfl rfl (one_of HT_.out (by kernel_rfl)) (by decide) (fun K hK => ?_)
                refine goes_ Try.func25 (by kernel_rfl) rfl #[.string (⟨#[98]⟩ : ByteArray)] (by rfl) rfl rfl (by (try simp only [zX, zY, zZ]); first | done | rfl | (simp only [zD, zE]; rfl)) ?_
                with_reducible refine (codicillaw19_node.calls (⟨#[98]⟩ : ByteArray) t205 t206 _ A40.out).mono ?_
                rintro e w85 ⟨rfl, hb⟩
                have HS0_ := (hb.cell (qO _ _ (hHeld.1))).trans (hHeld.1)
                have HS1_ := (hb.cell (qO _ _ (hHeld.2.1))).trans (hHeld.2.1)
                have HS2_ := (hb.cell (qO _ _ (hHeld.2.2.1))).trans (hHeld.2.2.1)
                have HS3_ := (hb.cell (qO _ _ (hHeld.2.2.2))).trans (hHeld.2.2.2)
                refine ⟨_, rfl, ?_⟩
                have n0_ := qH (Kd.V_below (by (with_reducible repeat first | apply zVa | apply zVb | apply zVc); exact HO133.out) hb)
                have n1_ := qH (Kd.R_below (by (with_reducible repeat first | apply zRa | apply zRb | apply zRc); exact HO141.out) hb)
                have n2_ := qH (Kd.V_below (by (with_reducible repeat first | apply zVa | apply zVb | apply zVc); exact HO144.out) hb)
                have n3_ := qH (Kd.R_below (by (with_reducible repeat first | apply zRa | apply zRb | apply zRc); exact HO154.out) hb)
                have n4_ := qH (Kd.V_below (by (with_reducible repeat first | apply zVa | apply zVb | apply zVc); exact HO157.out) hb)
                have n5_ := qH (Kd.R_below (by (with_reducible repeat first | apply zRa | apply zRb | apply zRc); exact HO163.out) hb)
                have n6_ := qH (Kd.R_below (by (with_reducible repeat first | apply zRa | apply zRb | apply zRc); exact HO167.out) hb)
                have n7_ := qH (Kd.V_below (by (with_reducible repeat first | apply zVa | apply zVb | apply zVc); exact HO172.out) hb)
                have n8_ := qH (Kd.V_below (by (with_reducible repeat first | apply zVa | apply zVb | apply zVc); exact HO178.out) hb)
                have n9_ := qH (Kd.R_below (by (with_reducible repeat first | apply zRa | apply zRb | apply zRc); exact HO186.out) hb)
                have n10_ := qH (Kd.V_below (by (with_reducible repeat first | apply zVa | apply zVb | apply zVc); exact HO189.out) hb)
                have n11_ := qH (Kd.R_below (by (with_reducible repeat first | apply zRa | apply zRb | apply zRc); exact HO202.out) hb)
                have n12_ := qH (below_step (by repeat (first | (with_reducible first | exact HB.out | apply qL | apply qJ | apply qK) | exact HB.out)) hb)
                clear HO133
                clear HO141
                clear HO144
                clear HO154
                clear HO157
                clear HO163
                clear HO167
                clear HO172
                clear HO178
                clear HO186
                clear HO189
                clear HO202
                clear HB
                have HO133 := n0_
                have HO141 := n1_
                have HO144 := n2_
                have HO154 := n3_
                have HO157 := n4_
                have HO163 := n5_
                have HO167 := n6_
                have HO172 := n7_
                have HO178 := n8_
                have HO186 := n9_
                have HO189 := n10_
                have HO202 := n11_
                have HB := n12_
                clear n0_ n1_ n2_ n3_ n4_ n5_ n6_ n7_ n8_ n9_ n10_ n11_ n12_
                (try clear hb)
                (try clear hb2)
                (try clear hk)
                (try clear hi)
                refine hK.out _ _ ⟨HS0_, HS1_, HS2_, HS3_⟩ (fun hHeld => ?_)
                clear hK K
                refine norm_ (a' := ?_) ?_ ?_
                rotate_left
                ·show Act.put _ (some 130) _ = _
                 simp only [Act.put, zS, zT, zU, zV, zW]
                 rfl
                refine one_ (i := 65) (N := some 131) (lb 68 73786976294838206463) rfl rfl (one_of HT_.out (by kernel_rfl)) (by decide) (fun K hK => ?_)
                refine goes_ Try.func11 (by kernel_rfl) rfl #[.agg #[.string t203, .int .i64 t204], .agg #[.string t205, .int .i64 t206]] (by rfl) rfl rfl (by (try simp only [zX, zY, zZ]); first | done | rfl | (simp only [zD, zE]; rfl)) ?_
                with_reducible refine (graph_Less.calls k t203 t204 t205 t206 t207 _ A41.out).mono ?_
                rintro e w86 ⟨rfl, hb⟩
                have HS0_ := (hb.cell (qO _ _ (hHeld.1))).trans (hHeld.1)
                have HS1_ := (hb.cell (qO _ _ (hHeld.2.1))).trans (hHeld.2.1)
                have HS2_ := (hb.cell (qO _ _ (hHeld.2.2.1))).trans (hHeld.2.2.1)
                have HS3_ := (hb.cell (qO _ _ (hHeld.2.2.2))).trans (hHeld.2.2.2)
                refine ⟨_, rfl, ?_⟩
                have n0_ := qH (Kd.V_below (by (with_reducible repeat first | apply zVa | apply zVb | apply zVc); exact HO133.out) hb)
                have n1_ := qH (Kd.R_below (by (with_reducible repeat first | apply zRa | apply zRb | apply zRc); exact HO141.out) hb)
                have n2_ := qH (Kd.V_below (by (with_reducible repeat first | apply zVa | apply zVb | apply zVc); exact HO144.out) hb)
                have n3_ := qH (Kd.R_below (by (with_reducible repeat first | apply zRa | apply zRb | apply zRc); exact HO154.out) hb)
                have n4_ := qH (Kd.V_below (by (with_reducible repeat first | apply zVa | apply zVb | apply zVc); exact HO157.out) hb)
                have n5_ := qH (Kd.R_below (by (with_reducible repeat first | apply zRa | apply zRb | apply zRc); exact HO163.out) hb)
                have n6_ := qH (Kd.R_below (by (with_reducible repeat first | apply zRa | apply zRb | apply zRc); exact HO167.out) hb)
                have n7_ := qH (Kd.V_below (by (with_reducible repeat first | apply zVa | apply zVb | apply zVc); exact HO172.out) hb)
                have n8_ := qH (Kd.V_below (by (with_reducible repeat first | apply zVa | apply zVb | apply zVc); exact HO178.out) hb)
                have n9_ := qH (Kd.R_below (by (with_reducible repeat first | apply zRa | apply zRb | apply zRc); exact HO186.out) hb)
                have n10_ := qH (Kd.V_below (by (with_reducible repeat first | apply zVa | apply zVb | apply zVc); exact HO189.out) hb)
                have n11_ := qH (Kd.R_below (by (with_reducible repeat first | apply zRa | apply zRb | apply zRc); exact HO202.out) hb)
                have n12_ := qH (below_step (by repeat (first | (with_reducible first | exact HB.out | apply qL | apply qJ | apply qK) | exact HB.out)) hb)
                clear HO133
                clear HO141
                clear HO144
                clear HO154
                clear HO157
                clear HO163
                clear HO167
                clear HO172
                clear HO178
                clear HO186
                clear HO189
                clear HO202
                clear HB
                have HO133 := n0_
                have HO141 := n1_
                have HO144 := n2_
                have HO154 := n3_
                have HO157 := n4_
                have HO163 := n5_
                have HO167 := n6_
                have HO172 := n7_
                have HO178 := n8_
                have HO186 := n9_
                have HO189 := n10_
                have HO202 := n11_
                have HB := n12_
                clear n0_ n1_ n2_ n3_ n4_ n5_ n6_ n7_ n8_ n9_ n10_ n11_ n12_
                (try clear hb)
                (try clear hb2)
                (try clear hk)
                (try clear hi)
                refine hK.out _ _ ⟨HS0_, HS1_, HS2_, HS3_⟩ (fun hHeld => ?_)
                clear hK K
                refine norm_ (a' := ?_) ?_ ?_
                rotate_left
                ·show Act.put _ (some 131) _ = _
                 simp only [Act.put, zS, zT, zU, zV, zW]
                 rfl
                refine pure_ (i := 66) (N := some 132) (v := ?_) (a' := ?_) (lb 68 147573952589676412927) rfl rfl (any_of HT_.out (by kernel_rfl)) (fun _ _ _ h => h) (Or.inl ⟨by rfl, ?_⟩) ?_ ?_
                rotate_left
                ·intro w'
                 go_simp
                 with_reducible rfl
                rotate_left
                ·simp only [Act.put, zS, zT, zU, zV, zW]
                 rfl
                refine pure_ (i := 67) (N := some 0) (v := ?_) (a' := ?_) (lb 68 295147905179352825855) rfl rfl (any_of HT_.out (by kernel_rfl)) (fun _ _ _ h => h) (Or.inl ⟨by rfl, ?_⟩) ?_ ?_
                rotate_left
                ·intro w'
                 go_simp
                 with_reducible rfl
                rotate_left
                ·simp only [Act.put, zS, zT, zU, zV, zW]
                 rfl
                refine done_ (done_of HT_.out (by kernel_rfl)) ?_
                try go_wp2
                go_ret
                exact ⟨by first | rfl | (simp [errW_none, errW_some] <;> rfl) | (simp [*, errW_none, errW_some] <;> rfl), by repeat (first | (with_reducible first | exact HB.out | apply qL | apply qJ | apply qK) | exact HB.out)⟩
               ·rw [if_neg c38] at H
                have c38b0 : ((t200.length : Int) == 2) = false := beq_eq_false_iff_ne.mpr c38
                have c38b1 : ((t200.length : Int) != 2) = true := bne_iff_ne.mpr c38
                obtain rfl := Option.some.inj H
                exact absurd hTrue.out (by decide)
              ·rw [if_neg c35] at H
               have c35b0 : (t197 == 0) = false := beq_eq_false_iff_ne.mpr c35
               have c35b1 : (t197 != 0) = true := bne_iff_ne.mpr c35
               obtain rfl := Option.some.inj H
               exact absurd hTrue.out (by decide)
             ·rw [if_neg c33] at H
              have c33b0 : (t190 == 5) = false := beq_eq_false_iff_ne.mpr c33
              have c33b1 : (t190 != 5) = true := bne_iff_ne.mpr c33
              obtain rfl := Option.some.inj H
              exact absurd hTrue.out (by decide)
            ·rw [if_neg c32] at H
             have c32b0 : (t179 == 0) = false := beq_eq_false_iff_ne.mpr c32
             have c32b1 : (t179 != 0) = true := bne_iff_ne.mpr c32
             obtain rfl := Option.some.inj H
             exact absurd hTrue.out (by decide)
           ·rw [if_neg c31] at H
            have c31b0 : ((t176.length : Int) == 2) = false := beq_eq_false_iff_ne.mpr c31
            have c31b1 : ((t176.length : Int) != 2) = true := bne_iff_ne.mpr c31
            obtain rfl := Option.some.inj H
            exact absurd hTrue.out (by decide)
          ·rw [if_neg c30] at H
           have c30b0 : (t173 == 3) = false := beq_eq_false_iff_ne.mpr c30
           have c30b1 : (t173 != 3) = true := bne_iff_ne.mpr c30
           obtain rfl := Option.some.inj H
           exact absurd hTrue.out (by decide)
         ·rw [if_neg c29] at H
          have c29b0 : (t165 == 0) = false := beq_eq_false_iff_ne.mpr c29
          have c29b1 : (t165 != 0) = true := bne_iff_ne.mpr c29
          obtain rfl := Option.some.inj H
          exact absurd hTrue.out (by decide)
        ·rw [if_neg c28] at H
         have c28b0 : ((((rd_T24 t164 2).f0).toList) == t195.toList && (((rd_T24 t164 2).f1) == t196)) = false := by simpa using c28
         (try (have c28b1 : decide ((((rd_T24 t164 2).f0).toList) = t195.toList && (((rd_T24 t164 2).f1) == t196)) = false := by simpa using c28))
         (try (have c28b2 : ((((rd_T24 t164 2).f0).toList) == t195.toList && (((rd_T24 t164 2).f1) == t196)) = false := by simpa using c28))
         (try (have c28b3 : ¬ ((((rd_T24 t164 2).f0).toList) = t195.toList && (((rd_T24 t164 2).f1) == t196)) := by simpa using c28))
         clear c28
         obtain rfl := Option.some.inj H
         exact absurd hTrue.out (by decide)
       ·rw [if_neg c26] at H
        exact absurd H (by simp)
      ·rw [if_neg c25] at H
       have c25b0 : ((((rd_T24 t164 0).f0).toList) == t192.toList && (((rd_T24 t164 0).f1) == t193)) = false := by simpa using c25
       (try (have c25b1 : decide ((((rd_T24 t164 0).f0).toList) = t192.toList && (((rd_T24 t164 0).f1) == t193)) = false := by simpa using c25))
       (try (have c25b2 : ((((rd_T24 t164 0).f0).toList) == t192.toList && (((rd_T24 t164 0).f1) == t193)) = false := by simpa using c25))
       (try (have c25b3 : ¬ ((((rd_T24 t164 0).f0).toList) = t192.toList && (((rd_T24 t164 0).f1) == t193)) := by simpa using c25))
       clear c25
       obtain rfl := Option.some.inj H
       exact absurd hTrue.out (by decide)
     ·rw [if_neg c23] at H
      exact absurd H (by simp)
    ·rw [if_neg c22] at H
     have c22b0 : ((t164.length : Int) == 3) = false := beq_eq_false_iff_ne.mpr c22
     have c22b1 : ((t164.length : Int) != 3) = true := bne_iff_ne.mpr c22
     obtain rfl := Option.some.inj H
     exact absurd hTrue.out (by decide)
   ·rw [if_neg c21] at H
    have c21b0 : (t158 == 0) = false := beq_eq_false_iff_ne.mpr c21
    have c21b1 : (t158 != 0) = true := bne_iff_ne.mpr c21
    obtain rfl := Option.some.inj H
    exact absurd hTrue.out (by decide)
  ·rw [if_neg c20] at H
   have c20b0 : (t145 == 0) = false := beq_eq_false_iff_ne.mpr c20
   have c20b1 : (t145 != 0) = true := bne_iff_ne.mpr c20
   obtain rfl := Option.some.inj H
   exact absurd hTrue.out (by decide)
 ·rw [if_neg c19] at H
  have c19b0 : (t134 == 0) = false := beq_eq_false_iff_ne.mpr c19
  have c19b1 : (t134 != 0) = true := bne_iff_ne.mpr c19
  obtain rfl := Option.some.inj H
  exact absurd hTrue.out (by decide)

end Go.Proofs.Ytddjhmelniphgaa.Print
