-- Written by wip/tools/xprint.py of this session's repo (the kit's print, run with external functions). Lean checks it.
import Derived.Test.YtddjhmelniphgaaHLb
import Derived.Test.YtddjhmelniphgaaPrint0
import Derived.Test.YtddjhmelniphgaaPrint1
import Derived.Test.YtddjhmelniphgaaPrint2
import Derived.Test.YtddjhmelniphgaaHGAdd
import Derived.Test.YtddjhmelniphgaaHGDrop
import Derived.Test.YtddjhmelniphgaaHGMay
import Derived.Test.YtddjhmelniphgaaHGOrder
namespace Go.Proofs.Ytddjhmelniphgaa.Print
open Go.RowKit Go.Proofs.YtddjhmelniphgaaW.PrintWords Go.Proofs.YtddjhmelniphgaaW.PrintLast Go.Proofs.YtddjhmelniphgaaW.PrintMore
attribute [local go_sem] max2_int min2_int max_two min_two max_three min_three max_four min_four   -- for this text's walks alone
set_option linter.unusedVariables false
set_option linter.unusedSimpArgs false

attribute [local go_sem high] eqA24
/-! ### codicillaw19_alive: function 8 -/
def codicillaw19_alive.f (k : Nat)  : Option (Bool) := (codicillaw19_node.f (⟨#[97]⟩ : ByteArray)).bind fun bt127 => ((graph_Add.f ([] : List (S40)) bt127.1 bt127.2 ([] : List (S24))).bind fun bt129 => ((codicillaw19_node.f (⟨#[98]⟩ : ByteArray)).bind fun bt133 => ((codicillaw19_node.f (⟨#[97]⟩ : ByteArray)).bind fun bt135 => ((graph_Add.f bt129.1 bt133.1 bt133.2 (([(⟨bt135.1, bt135.2⟩ : S24)] : List (S24)))).bind fun bt140 => ((codicillaw19_node.f (⟨#[99]⟩ : ByteArray)).bind fun bt144 => ((codicillaw19_node.f (⟨#[98]⟩ : ByteArray)).bind fun bt146 => ((codicillaw19_node.f (⟨#[97]⟩ : ByteArray)).bind fun bt148 => ((graph_Add.f bt140.1 bt144.1 bt144.2 (([(⟨bt146.1, bt146.2⟩ : S24), (⟨bt148.1, bt148.2⟩ : S24)] : List (S24)))).bind fun bt153 => ((codicillaw19_node.f (⟨#[99]⟩ : ByteArray)).bind fun bt157 => ((graph_Order.f bt153.1 (([(⟨bt157.1, bt157.2⟩ : S24)] : List (S24)))).bind fun bt162 => ((codicillaw19_node.f (⟨#[97]⟩ : ByteArray)).bind fun bt166 => ((graph_Drop.f bt153.1 bt166.1 bt166.2).bind fun bt168 => ((codicillaw19_node.f (⟨#[99]⟩ : ByteArray)).bind fun bt172 => ((graph_Drop.f bt153.1 bt172.1 bt172.2).bind fun bt174 => ((codicillaw19_node.f (⟨#[100]⟩ : ByteArray)).bind fun bt178 => ((codicillaw19_node.f (⟨#[101]⟩ : ByteArray)).bind fun bt180 => ((graph_Add.f bt153.1 bt178.1 bt178.2 (([(⟨bt180.1, bt180.2⟩ : S24)] : List (S24)))).bind fun bt185 => (if bt129.2 = 0 then (if bt140.2 = 0 then (if bt153.2 = 0 then (if (bt162.1.length : Int) = 3 then (if 0 < (bt162.1.length : Int) then ((codicillaw19_node.f (⟨#[97]⟩ : ByteArray)).bind fun bt190 => (if ((((rd_T24 bt162.1 0).f0).toList) == bt190.1.toList && (((rd_T24 bt162.1 0).f1) == bt190.2)) = true then (if 2 < (bt162.1.length : Int) then ((codicillaw19_node.f (⟨#[99]⟩ : ByteArray)).bind fun bt193 => (if ((((rd_T24 bt162.1 2).f0).toList) == bt193.1.toList && (((rd_T24 bt162.1 2).f1) == bt193.2)) = true then (if bt162.2 = 0 then (if bt168.2 = 3 then (if (bt174.1.length : Int) = 2 then (if bt174.2 = 0 then (if bt185.2 = 5 then ((graph_May.f bt153.1).bind fun t195 => (if t195 = 0 then ((codicillaw19_node.f (⟨#[97]⟩ : ByteArray)).bind fun bt196 => ((graph_Users.f k bt153.1 bt196.1 bt196.2).bind fun t198 => (if (t198.length : Int) = 2 then ((codicillaw19_node.f (⟨#[97]⟩ : ByteArray)).bind fun bt201 => ((codicillaw19_node.f (⟨#[98]⟩ : ByteArray)).bind fun bt203 => ((graph_Less.f k bt201.1 bt201.2 bt203.1 bt203.2).bind fun t205 => (some t205)))) else (some false)))) else (some false))) else (some false)) else (some false)) else (some false)) else (some false)) else (some false)) else (some false))) else (none)) else (some false))) else (none)) else (some false)) else (some false)) else (some false)) else (some false)))))))))))))))))))
theorem codicillaw19_alive.mono : ∀ k, LeO (codicillaw19_alive.f k ) (codicillaw19_alive.f (k + 1) ) := by
 intro  k
 unfold codicillaw19_alive.f
 repeat' first
   | (with_reducible exact graph_Less.mono _ _ _ _ _)
   | (with_reducible exact graph_Users.mono _ _ _ _)
   | (with_reducible exact LeO.refl _)
   | (with_reducible exact LeO.none _)
   | (with_reducible refine LeO.ite ?_ ?_)
   | (with_reducible refine LeO.bind ?_ (fun _ => ?_))
   | exact graph_Less.mono _ _ _ _ _
   | exact graph_Users.mono _ _ _ _
   | exact LeO.none _
   | refine LeO.ite ?_ ?_
   | refine LeO.bind ?_ (fun _ => ?_)
def codicillaw19_alive.T8 : Bool × List (List Nat × List Nat) := (true, [([], []), ([0], [0]), ([1], [1]), ([2], [2]), ([3, 2], [2, 3]), ([2, 4], [2, 4]), ([5, 2], [5]), ([6], [6]), ([7, 6], [6, 7]), ([6, 8], [6, 8]), ([9, 6], [9]), ([10], [10]), ([11, 10], [10, 11]), ([12, 10], [10, 12]), ([10, 13], [10, 13]), ([14, 10], [14]), ([15], [15]), ([16, 15], [15, 16]), ([17, 15], [15, 17]), ([15, 15], [15]), ([18, 19, 15], [15, 18, 19]), ([15, 20], [15, 20]), ([21, 19], [21]), ([22], [22]), ([23, 22], [22, 23]), ([24, 22], [22, 24]), ([22, 22], [22]), ([25, 26, 22], [22, 25, 26]), ([22, 27], [22, 27]), ([28, 26], [28]), ([29], [29]), ([30, 29], [29, 30]), ([29, 31], [29, 31]), ([32, 29], [32]), ([33], [33]), ([34, 33], [33, 34]), ([33, 35], [33, 35]), ([36, 33], [36]), ([37], [37]), ([38, 37], [37, 38]), ([39, 37], [37, 39]), ([37, 40], [37, 40]), ([41, 37], [41]), ([42], [42]), ([43, 42], [42, 43]), ([42, 44], [42, 44]), ([45, 42], [45]), ([46], [46]), ([47, 46], [46, 47]), ([46, 48], [46, 48]), ([49, 46], [49]), ([50], [50]), ([51, 50, 50], [50, 51]), ([52, 50], [50, 52]), ([50, 53], [50, 53]), ([54, 52], [54]), ([55], [55]), ([55, 55], [55]), ([56, 57, 57, 55], [55, 56, 57]), ([58, 55], [55, 58]), ([59, 55], [55, 59]), ([55, 60], [55, 60]), ([61, 58], [61]), ([62, 62], [62]), ([63, 62], [62]), ([63, 64, 64, 62], [62, 63, 64]), ([62, 65], [62, 65]), ([66, 65, 0, 1, 2, 3, 4, 5, 6, 7, 8, 9, 10, 11, 12, 13, 14, 15, 16, 17, 18, 19, 20, 21, 22, 23, 24, 25, 26, 27, 28, 29, 30, 31, 32, 33, 34, 35, 36, 37, 38, 39, 40, 41, 42, 43, 44, 45, 46, 47, 48, 49, 50, 51, 52, 53, 54, 55, 56, 57, 58, 59, 60, 61, 62, 63, 64, 65, 66], [66])])
def codicillaw19_alive.B8 : List Nat := [0, 1, 3, 7, 15, 31, 63, 127, 255, 511, 1023, 2047, 4095, 8191, 16383, 32767, 65535, 131071, 262143, 65535, 1048575, 2097151, 4194303, 8388607, 16777215, 33554431, 8388607, 134217727, 268435455, 536870911, 1073741823, 2147483647, 4294967295, 8589934591, 17179869183, 34359738367, 68719476735, 137438953471, 274877906943, 549755813887, 1099511627775, 2199023255551, 4398046511103, 8796093022207, 17592186044415, 35184372088831, 70368744177663, 140737488355327, 281474976710655, 562949953421311, 1125899906842623, 2251799813685247, 4503599627370495, 9007199254740991, 18014398509481983, 36028797018963967, 72057594037927935, 72057594037927935, 288230376151711743, 576460752303423487, 1152921504606846975, 2305843009213693951, 4611686018427387903, 9223372036854775807, 18446744073709551615, 36893488147419103231, 73786976294838206463, 147573952589676412927]
theorem codicillaw19_alive.tab8 : rtab .any (opsOf Try.f8 8) = codicillaw19_alive.T8 := by kernel_rfl
theorem codicillaw19_alive.bits8 : waitsOk codicillaw19_alive.T8.2 codicillaw19_alive.B8 = true := by kernel_rfl
set_option maxHeartbeats 8000000 in
set_option maxRecDepth 100000 in
theorem codicillaw19_alive.calls1 (k : Nat)  (r : Bool) (w : World) (h : codicillaw19_alive.f k  = some r) (hTrue : Aside0 (r = true)) :
  Calls Try.prog 8 #[] w fun e w' => e = .returned (.bool r) ∧ Below w.heap.size w w' := by
 have hu40 := Try.underlying40
 have hu24 := Try.underlying24
 have HB := qH (Below.refl w.heap.size w)
 have H : ((codicillaw19_node.f (⟨#[97]⟩ : ByteArray)).bind fun bt127 => ((graph_Add.f ([] : List (S40)) bt127.1 bt127.2 ([] : List (S24))).bind fun bt129 => ((codicillaw19_node.f (⟨#[98]⟩ : ByteArray)).bind fun bt133 => ((codicillaw19_node.f (⟨#[97]⟩ : ByteArray)).bind fun bt135 => ((graph_Add.f bt129.1 bt133.1 bt133.2 (([(⟨bt135.1, bt135.2⟩ : S24)] : List (S24)))).bind fun bt140 => ((codicillaw19_node.f (⟨#[99]⟩ : ByteArray)).bind fun bt144 => ((codicillaw19_node.f (⟨#[98]⟩ : ByteArray)).bind fun bt146 => ((codicillaw19_node.f (⟨#[97]⟩ : ByteArray)).bind fun bt148 => ((graph_Add.f bt140.1 bt144.1 bt144.2 (([(⟨bt146.1, bt146.2⟩ : S24), (⟨bt148.1, bt148.2⟩ : S24)] : List (S24)))).bind fun bt153 => ((codicillaw19_node.f (⟨#[99]⟩ : ByteArray)).bind fun bt157 => ((graph_Order.f bt153.1 (([(⟨bt157.1, bt157.2⟩ : S24)] : List (S24)))).bind fun bt162 => ((codicillaw19_node.f (⟨#[97]⟩ : ByteArray)).bind fun bt166 => ((graph_Drop.f bt153.1 bt166.1 bt166.2).bind fun bt168 => ((codicillaw19_node.f (⟨#[99]⟩ : ByteArray)).bind fun bt172 => ((graph_Drop.f bt153.1 bt172.1 bt172.2).bind fun bt174 => ((codicillaw19_node.f (⟨#[100]⟩ : ByteArray)).bind fun bt178 => ((codicillaw19_node.f (⟨#[101]⟩ : ByteArray)).bind fun bt180 => ((graph_Add.f bt153.1 bt178.1 bt178.2 (([(⟨bt180.1, bt180.2⟩ : S24)] : List (S24)))).bind fun bt185 => (if bt129.2 = 0 then (if bt140.2 = 0 then (if bt153.2 = 0 then (if (bt162.1.length : Int) = 3 then (if 0 < (bt162.1.length : Int) then ((codicillaw19_node.f (⟨#[97]⟩ : ByteArray)).bind fun bt190 => (if ((((rd_T24 bt162.1 0).f0).toList) == bt190.1.toList && (((rd_T24 bt162.1 0).f1) == bt190.2)) = true then (if 2 < (bt162.1.length : Int) then ((codicillaw19_node.f (⟨#[99]⟩ : ByteArray)).bind fun bt193 => (if ((((rd_T24 bt162.1 2).f0).toList) == bt193.1.toList && (((rd_T24 bt162.1 2).f1) == bt193.2)) = true then (if bt162.2 = 0 then (if bt168.2 = 3 then (if (bt174.1.length : Int) = 2 then (if bt174.2 = 0 then (if bt185.2 = 5 then ((graph_May.f bt153.1).bind fun t195 => (if t195 = 0 then ((codicillaw19_node.f (⟨#[97]⟩ : ByteArray)).bind fun bt196 => ((graph_Users.f k bt153.1 bt196.1 bt196.2).bind fun t198 => (if (t198.length : Int) = 2 then ((codicillaw19_node.f (⟨#[97]⟩ : ByteArray)).bind fun bt201 => ((codicillaw19_node.f (⟨#[98]⟩ : ByteArray)).bind fun bt203 => ((graph_Less.f k bt201.1 bt201.2 bt203.1 bt203.2).bind fun t205 => (some t205)))) else (some false)))) else (some false))) else (some false)) else (some false)) else (some false)) else (some false)) else (some false)) else (some false))) else (none)) else (some false))) else (none)) else (some false)) else (some false)) else (some false)) else (some false)))))))))))))))))))) = some r := h
 clear h
 replace H := Option.bind_eq_some_iff.mp H
 obtain ⟨⟨t127, t128⟩, A10, H⟩ := H
 (try dsimp only at H)
 have A1 := qH A10
 clear A10
 replace H := Option.bind_eq_some_iff.mp H
 obtain ⟨⟨t129, t132⟩, A20, H⟩ := H
 (try dsimp only at H)
 have A2 := qH A20
 clear A20
 replace H := Option.bind_eq_some_iff.mp H
 obtain ⟨⟨t133, t134⟩, A30, H⟩ := H
 (try dsimp only at H)
 have A3 := qH A30
 clear A30
 replace H := Option.bind_eq_some_iff.mp H
 obtain ⟨⟨t135, t136⟩, A40, H⟩ := H
 (try dsimp only at H)
 have A4 := qH A40
 clear A40
 obtain ⟨y137, hy137⟩ : ∃ y_ : List (S24), y_ = (([(⟨t135, t136⟩ : S24)] : List (S24))) := ⟨_, rfl⟩
 replace H : ((graph_Add.f t129 t133 t134 y137).bind fun bt140 => ((codicillaw19_node.f (⟨#[99]⟩ : ByteArray)).bind fun bt144 => ((codicillaw19_node.f (⟨#[98]⟩ : ByteArray)).bind fun bt146 => ((codicillaw19_node.f (⟨#[97]⟩ : ByteArray)).bind fun bt148 => ((graph_Add.f bt140.1 bt144.1 bt144.2 (([(⟨bt146.1, bt146.2⟩ : S24), (⟨bt148.1, bt148.2⟩ : S24)] : List (S24)))).bind fun bt153 => ((codicillaw19_node.f (⟨#[99]⟩ : ByteArray)).bind fun bt157 => ((graph_Order.f bt153.1 (([(⟨bt157.1, bt157.2⟩ : S24)] : List (S24)))).bind fun bt162 => ((codicillaw19_node.f (⟨#[97]⟩ : ByteArray)).bind fun bt166 => ((graph_Drop.f bt153.1 bt166.1 bt166.2).bind fun bt168 => ((codicillaw19_node.f (⟨#[99]⟩ : ByteArray)).bind fun bt172 => ((graph_Drop.f bt153.1 bt172.1 bt172.2).bind fun bt174 => ((codicillaw19_node.f (⟨#[100]⟩ : ByteArray)).bind fun bt178 => ((codicillaw19_node.f (⟨#[101]⟩ : ByteArray)).bind fun bt180 => ((graph_Add.f bt153.1 bt178.1 bt178.2 (([(⟨bt180.1, bt180.2⟩ : S24)] : List (S24)))).bind fun bt185 => (if t132 = 0 then (if bt140.2 = 0 then (if bt153.2 = 0 then (if (bt162.1.length : Int) = 3 then (if 0 < (bt162.1.length : Int) then ((codicillaw19_node.f (⟨#[97]⟩ : ByteArray)).bind fun bt190 => (if ((((rd_T24 bt162.1 0).f0).toList) == bt190.1.toList && (((rd_T24 bt162.1 0).f1) == bt190.2)) = true then (if 2 < (bt162.1.length : Int) then ((codicillaw19_node.f (⟨#[99]⟩ : ByteArray)).bind fun bt193 => (if ((((rd_T24 bt162.1 2).f0).toList) == bt193.1.toList && (((rd_T24 bt162.1 2).f1) == bt193.2)) = true then (if bt162.2 = 0 then (if bt168.2 = 3 then (if (bt174.1.length : Int) = 2 then (if bt174.2 = 0 then (if bt185.2 = 5 then ((graph_May.f bt153.1).bind fun t195 => (if t195 = 0 then ((codicillaw19_node.f (⟨#[97]⟩ : ByteArray)).bind fun bt196 => ((graph_Users.f k bt153.1 bt196.1 bt196.2).bind fun t198 => (if (t198.length : Int) = 2 then ((codicillaw19_node.f (⟨#[97]⟩ : ByteArray)).bind fun bt201 => ((codicillaw19_node.f (⟨#[98]⟩ : ByteArray)).bind fun bt203 => ((graph_Less.f k bt201.1 bt201.2 bt203.1 bt203.2).bind fun t205 => (some t205)))) else (some false)))) else (some false))) else (some false)) else (some false)) else (some false)) else (some false)) else (some false)) else (some false))) else (none)) else (some false))) else (none)) else (some false)) else (some false)) else (some false)) else (some false)))))))))))))))) = some r := by first | (rw [hy137]; with_reducible exact H) | (have H2_ := (Option.bind_some _ _).symm.trans H; rw [hy137]; with_reducible exact H2_) | (have H2_ := (Option.bind_some _ _).symm.trans H; with_reducible exact H2_) | with_reducible exact H | (rw [hy137]; exact H) | exact H
 have Ny137 := qH hy137
 clear hy137
 replace H := Option.bind_eq_some_iff.mp H
 obtain ⟨⟨t140, t143⟩, A50, H⟩ := H
 (try dsimp only at H)
 have A5 := qH A50
 clear A50
 replace H := Option.bind_eq_some_iff.mp H
 obtain ⟨⟨t144, t145⟩, A60, H⟩ := H
 (try dsimp only at H)
 have A6 := qH A60
 clear A60
 replace H := Option.bind_eq_some_iff.mp H
 obtain ⟨⟨t146, t147⟩, A70, H⟩ := H
 (try dsimp only at H)
 have A7 := qH A70
 clear A70
 replace H := Option.bind_eq_some_iff.mp H
 obtain ⟨⟨t148, t149⟩, A80, H⟩ := H
 (try dsimp only at H)
 have A8 := qH A80
 clear A80
 obtain ⟨y150, hy150⟩ : ∃ y_ : List (S24), y_ = (([(⟨t146, t147⟩ : S24), (⟨t148, t149⟩ : S24)] : List (S24))) := ⟨_, rfl⟩
 replace H : ((graph_Add.f t140 t144 t145 y150).bind fun bt153 => ((codicillaw19_node.f (⟨#[99]⟩ : ByteArray)).bind fun bt157 => ((graph_Order.f bt153.1 (([(⟨bt157.1, bt157.2⟩ : S24)] : List (S24)))).bind fun bt162 => ((codicillaw19_node.f (⟨#[97]⟩ : ByteArray)).bind fun bt166 => ((graph_Drop.f bt153.1 bt166.1 bt166.2).bind fun bt168 => ((codicillaw19_node.f (⟨#[99]⟩ : ByteArray)).bind fun bt172 => ((graph_Drop.f bt153.1 bt172.1 bt172.2).bind fun bt174 => ((codicillaw19_node.f (⟨#[100]⟩ : ByteArray)).bind fun bt178 => ((codicillaw19_node.f (⟨#[101]⟩ : ByteArray)).bind fun bt180 => ((graph_Add.f bt153.1 bt178.1 bt178.2 (([(⟨bt180.1, bt180.2⟩ : S24)] : List (S24)))).bind fun bt185 => (if t132 = 0 then (if t143 = 0 then (if bt153.2 = 0 then (if (bt162.1.length : Int) = 3 then (if 0 < (bt162.1.length : Int) then ((codicillaw19_node.f (⟨#[97]⟩ : ByteArray)).bind fun bt190 => (if ((((rd_T24 bt162.1 0).f0).toList) == bt190.1.toList && (((rd_T24 bt162.1 0).f1) == bt190.2)) = true then (if 2 < (bt162.1.length : Int) then ((codicillaw19_node.f (⟨#[99]⟩ : ByteArray)).bind fun bt193 => (if ((((rd_T24 bt162.1 2).f0).toList) == bt193.1.toList && (((rd_T24 bt162.1 2).f1) == bt193.2)) = true then (if bt162.2 = 0 then (if bt168.2 = 3 then (if (bt174.1.length : Int) = 2 then (if bt174.2 = 0 then (if bt185.2 = 5 then ((graph_May.f bt153.1).bind fun t195 => (if t195 = 0 then ((codicillaw19_node.f (⟨#[97]⟩ : ByteArray)).bind fun bt196 => ((graph_Users.f k bt153.1 bt196.1 bt196.2).bind fun t198 => (if (t198.length : Int) = 2 then ((codicillaw19_node.f (⟨#[97]⟩ : ByteArray)).bind fun bt201 => ((codicillaw19_node.f (⟨#[98]⟩ : ByteArray)).bind fun bt203 => ((graph_Less.f k bt201.1 bt201.2 bt203.1 bt203.2).bind fun t205 => (some t205)))) else (some false)))) else (some false))) else (some false)) else (some false)) else (some false)) else (some false)) else (some false)) else (some false))) else (none)) else (some false))) else (none)) else (some false)) else (some false)) else (some false)) else (some false)))))))))))) = some r := by first | (rw [hy150]; with_reducible exact H) | (have H2_ := (Option.bind_some _ _).symm.trans H; rw [hy150]; with_reducible exact H2_) | (have H2_ := (Option.bind_some _ _).symm.trans H; with_reducible exact H2_) | with_reducible exact H | (rw [hy150]; exact H) | exact H
 have Ny150 := qH hy150
 clear hy150
 replace H := Option.bind_eq_some_iff.mp H
 obtain ⟨⟨t153, t156⟩, A90, H⟩ := H
 (try dsimp only at H)
 have A9 := qH A90
 clear A90
 replace H := Option.bind_eq_some_iff.mp H
 obtain ⟨⟨t157, t158⟩, A100, H⟩ := H
 (try dsimp only at H)
 have A10 := qH A100
 clear A100
 obtain ⟨y159, hy159⟩ : ∃ y_ : List (S24), y_ = (([(⟨t157, t158⟩ : S24)] : List (S24))) := ⟨_, rfl⟩
 replace H : ((graph_Order.f t153 y159).bind fun bt162 => ((codicillaw19_node.f (⟨#[97]⟩ : ByteArray)).bind fun bt166 => ((graph_Drop.f t153 bt166.1 bt166.2).bind fun bt168 => ((codicillaw19_node.f (⟨#[99]⟩ : ByteArray)).bind fun bt172 => ((graph_Drop.f t153 bt172.1 bt172.2).bind fun bt174 => ((codicillaw19_node.f (⟨#[100]⟩ : ByteArray)).bind fun bt178 => ((codicillaw19_node.f (⟨#[101]⟩ : ByteArray)).bind fun bt180 => ((graph_Add.f t153 bt178.1 bt178.2 (([(⟨bt180.1, bt180.2⟩ : S24)] : List (S24)))).bind fun bt185 => (if t132 = 0 then (if t143 = 0 then (if t156 = 0 then (if (bt162.1.length : Int) = 3 then (if 0 < (bt162.1.length : Int) then ((codicillaw19_node.f (⟨#[97]⟩ : ByteArray)).bind fun bt190 => (if ((((rd_T24 bt162.1 0).f0).toList) == bt190.1.toList && (((rd_T24 bt162.1 0).f1) == bt190.2)) = true then (if 2 < (bt162.1.length : Int) then ((codicillaw19_node.f (⟨#[99]⟩ : ByteArray)).bind fun bt193 => (if ((((rd_T24 bt162.1 2).f0).toList) == bt193.1.toList && (((rd_T24 bt162.1 2).f1) == bt193.2)) = true then (if bt162.2 = 0 then (if bt168.2 = 3 then (if (bt174.1.length : Int) = 2 then (if bt174.2 = 0 then (if bt185.2 = 5 then ((graph_May.f t153).bind fun t195 => (if t195 = 0 then ((codicillaw19_node.f (⟨#[97]⟩ : ByteArray)).bind fun bt196 => ((graph_Users.f k t153 bt196.1 bt196.2).bind fun t198 => (if (t198.length : Int) = 2 then ((codicillaw19_node.f (⟨#[97]⟩ : ByteArray)).bind fun bt201 => ((codicillaw19_node.f (⟨#[98]⟩ : ByteArray)).bind fun bt203 => ((graph_Less.f k bt201.1 bt201.2 bt203.1 bt203.2).bind fun t205 => (some t205)))) else (some false)))) else (some false))) else (some false)) else (some false)) else (some false)) else (some false)) else (some false)) else (some false))) else (none)) else (some false))) else (none)) else (some false)) else (some false)) else (some false)) else (some false)))))))))) = some r := by first | (rw [hy159]; with_reducible exact H) | (have H2_ := (Option.bind_some _ _).symm.trans H; rw [hy159]; with_reducible exact H2_) | (have H2_ := (Option.bind_some _ _).symm.trans H; with_reducible exact H2_) | with_reducible exact H | (rw [hy159]; exact H) | exact H
 have Ny159 := qH hy159
 clear hy159
 replace H := Option.bind_eq_some_iff.mp H
 obtain ⟨⟨t162, t163⟩, A110, H⟩ := H
 (try dsimp only at H)
 have A11 := qH A110
 clear A110
 replace H := Option.bind_eq_some_iff.mp H
 obtain ⟨⟨t166, t167⟩, A120, H⟩ := H
 (try dsimp only at H)
 have A12 := qH A120
 clear A120
 replace H := Option.bind_eq_some_iff.mp H
 obtain ⟨⟨t168, t171⟩, A130, H⟩ := H
 (try dsimp only at H)
 have A13 := qH A130
 clear A130
 replace H := Option.bind_eq_some_iff.mp H
 obtain ⟨⟨t172, t173⟩, A140, H⟩ := H
 (try dsimp only at H)
 have A14 := qH A140
 clear A140
 replace H := Option.bind_eq_some_iff.mp H
 obtain ⟨⟨t174, t177⟩, A150, H⟩ := H
 (try dsimp only at H)
 have A15 := qH A150
 clear A150
 replace H := Option.bind_eq_some_iff.mp H
 obtain ⟨⟨t178, t179⟩, A160, H⟩ := H
 (try dsimp only at H)
 have A16 := qH A160
 clear A160
 replace H := Option.bind_eq_some_iff.mp H
 obtain ⟨⟨t180, t181⟩, A170, H⟩ := H
 (try dsimp only at H)
 have A17 := qH A170
 clear A170
 obtain ⟨y182, hy182⟩ : ∃ y_ : List (S24), y_ = (([(⟨t180, t181⟩ : S24)] : List (S24))) := ⟨_, rfl⟩
 replace H : ((graph_Add.f t153 t178 t179 y182).bind fun bt185 => (if t132 = 0 then (if t143 = 0 then (if t156 = 0 then (if (t162.length : Int) = 3 then (if 0 < (t162.length : Int) then ((codicillaw19_node.f (⟨#[97]⟩ : ByteArray)).bind fun bt190 => (if ((((rd_T24 t162 0).f0).toList) == bt190.1.toList && (((rd_T24 t162 0).f1) == bt190.2)) = true then (if 2 < (t162.length : Int) then ((codicillaw19_node.f (⟨#[99]⟩ : ByteArray)).bind fun bt193 => (if ((((rd_T24 t162 2).f0).toList) == bt193.1.toList && (((rd_T24 t162 2).f1) == bt193.2)) = true then (if t163 = 0 then (if t171 = 3 then (if (t174.length : Int) = 2 then (if t177 = 0 then (if bt185.2 = 5 then ((graph_May.f t153).bind fun t195 => (if t195 = 0 then ((codicillaw19_node.f (⟨#[97]⟩ : ByteArray)).bind fun bt196 => ((graph_Users.f k t153 bt196.1 bt196.2).bind fun t198 => (if (t198.length : Int) = 2 then ((codicillaw19_node.f (⟨#[97]⟩ : ByteArray)).bind fun bt201 => ((codicillaw19_node.f (⟨#[98]⟩ : ByteArray)).bind fun bt203 => ((graph_Less.f k bt201.1 bt201.2 bt203.1 bt203.2).bind fun t205 => (some t205)))) else (some false)))) else (some false))) else (some false)) else (some false)) else (some false)) else (some false)) else (some false)) else (some false))) else (none)) else (some false))) else (none)) else (some false)) else (some false)) else (some false)) else (some false))) = some r := by first | (rw [hy182]; with_reducible exact H) | (have H2_ := (Option.bind_some _ _).symm.trans H; rw [hy182]; with_reducible exact H2_) | (have H2_ := (Option.bind_some _ _).symm.trans H; with_reducible exact H2_) | with_reducible exact H | (rw [hy182]; exact H) | exact H
 have Ny182 := qH hy182
 clear hy182
 replace H := Option.bind_eq_some_iff.mp H
 obtain ⟨⟨t185, t188⟩, A180, H⟩ := H
 (try dsimp only at H)
 have A18 := qH A180
 clear A180
 by_cases c19 : t132 = 0
 ·rw [if_pos c19] at H
  have c19b0 : (t132 == 0) = true := beq_iff_eq.mpr c19
  have c19b1 : (t132 != 0) = false := bne_eq_false_iff_eq.mpr c19
  clear c19
  by_cases c20 : t143 = 0
  ·rw [if_pos c20] at H
   have c20b0 : (t143 == 0) = true := beq_iff_eq.mpr c20
   have c20b1 : (t143 != 0) = false := bne_eq_false_iff_eq.mpr c20
   clear c20
   by_cases c21 : t156 = 0
   ·rw [if_pos c21] at H
    have c21b0 : (t156 == 0) = true := beq_iff_eq.mpr c21
    have c21b1 : (t156 != 0) = false := bne_eq_false_iff_eq.mpr c21
    clear c21
    by_cases c22 : (t162.length : Int) = 3
    ·rw [if_pos c22] at H
     have c22b0 : ((t162.length : Int) == 3) = true := beq_iff_eq.mpr c22
     have c22b1 : ((t162.length : Int) != 3) = false := bne_eq_false_iff_eq.mpr c22
     clear c22
     by_cases c23 : 0 < (t162.length : Int)
     ·rw [if_pos c23] at H
      have c23b0 : decide (0 < (t162.length : Int)) = true := decide_eq_true c23
      have c23b1 : decide (0 < t162.length) = true := decide_eq_true (by omega)
      clear c23
      replace H := Option.bind_eq_some_iff.mp H
      obtain ⟨⟨t190, t191⟩, A240, H⟩ := H
      (try dsimp only at H)
      have A24 := qH A240
      clear A240
      by_cases c25 : ((((rd_T24 t162 0).f0).toList) == t190.toList && (((rd_T24 t162 0).f1) == t191)) = true
      ·rw [if_pos c25] at H
       have c25b0 : ((((rd_T24 t162 0).f0).toList) == t190.toList && (((rd_T24 t162 0).f1) == t191)) = true := c25
       (try (have c25b1 : decide ((((rd_T24 t162 0).f0).toList) = t190.toList && (((rd_T24 t162 0).f1) == t191)) = true := by simpa using c25))
       (try (have c25b2 : ((((rd_T24 t162 0).f0).toList) == t190.toList && (((rd_T24 t162 0).f1) == t191)) = true := by simpa using c25))
       clear c25
       by_cases c26 : 2 < (t162.length : Int)
       ·rw [if_pos c26] at H
        have c26b0 : decide (2 < (t162.length : Int)) = true := decide_eq_true c26
        have c26b1 : decide (2 < t162.length) = true := decide_eq_true (by omega)
        clear c26
        replace H := Option.bind_eq_some_iff.mp H
        obtain ⟨⟨t193, t194⟩, A270, H⟩ := H
        (try dsimp only at H)
        have A27 := qH A270
        clear A270
        by_cases c28 : ((((rd_T24 t162 2).f0).toList) == t193.toList && (((rd_T24 t162 2).f1) == t194)) = true
        ·rw [if_pos c28] at H
         have c28b0 : ((((rd_T24 t162 2).f0).toList) == t193.toList && (((rd_T24 t162 2).f1) == t194)) = true := c28
         (try (have c28b1 : decide ((((rd_T24 t162 2).f0).toList) = t193.toList && (((rd_T24 t162 2).f1) == t194)) = true := by simpa using c28))
         (try (have c28b2 : ((((rd_T24 t162 2).f0).toList) == t193.toList && (((rd_T24 t162 2).f1) == t194)) = true := by simpa using c28))
         clear c28
         by_cases c29 : t163 = 0
         ·rw [if_pos c29] at H
          have c29b0 : (t163 == 0) = true := beq_iff_eq.mpr c29
          have c29b1 : (t163 != 0) = false := bne_eq_false_iff_eq.mpr c29
          clear c29
          by_cases c30 : t171 = 3
          ·rw [if_pos c30] at H
           have c30b0 : (t171 == 3) = true := beq_iff_eq.mpr c30
           have c30b1 : (t171 != 3) = false := bne_eq_false_iff_eq.mpr c30
           clear c30
           by_cases c31 : (t174.length : Int) = 2
           ·rw [if_pos c31] at H
            have c31b0 : ((t174.length : Int) == 2) = true := beq_iff_eq.mpr c31
            have c31b1 : ((t174.length : Int) != 2) = false := bne_eq_false_iff_eq.mpr c31
            clear c31
            by_cases c32 : t177 = 0
            ·rw [if_pos c32] at H
             have c32b0 : (t177 == 0) = true := beq_iff_eq.mpr c32
             have c32b1 : (t177 != 0) = false := bne_eq_false_iff_eq.mpr c32
             clear c32
             by_cases c33 : t188 = 5
             ·rw [if_pos c33] at H
              have c33b0 : (t188 == 5) = true := beq_iff_eq.mpr c33
              have c33b1 : (t188 != 5) = false := bne_eq_false_iff_eq.mpr c33
              clear c33
              replace H := Option.bind_eq_some_iff.mp H
              obtain ⟨t195, A340, H⟩ := H
              (try dsimp only at H)
              have A34 := qH A340
              clear A340
              by_cases c35 : t195 = 0
              ·rw [if_pos c35] at H
               have c35b0 : (t195 == 0) = true := beq_iff_eq.mpr c35
               have c35b1 : (t195 != 0) = false := bne_eq_false_iff_eq.mpr c35
               clear c35
               replace H := Option.bind_eq_some_iff.mp H
               obtain ⟨⟨t196, t197⟩, A360, H⟩ := H
               (try dsimp only at H)
               have A36 := qH A360
               clear A360
               replace H := Option.bind_eq_some_iff.mp H
               obtain ⟨t198, A370, H⟩ := H
               (try dsimp only at H)
               have A37 := qH A370
               clear A370
               by_cases c38 : (t198.length : Int) = 2
               ·rw [if_pos c38] at H
                have c38b0 : ((t198.length : Int) == 2) = true := beq_iff_eq.mpr c38
                have c38b1 : ((t198.length : Int) != 2) = false := bne_eq_false_iff_eq.mpr c38
                clear c38
                replace H := Option.bind_eq_some_iff.mp H
                obtain ⟨⟨t201, t202⟩, A390, H⟩ := H
                (try dsimp only at H)
                have A39 := qH A390
                clear A390
                replace H := Option.bind_eq_some_iff.mp H
                obtain ⟨⟨t203, t204⟩, A400, H⟩ := H
                (try dsimp only at H)
                have A40 := qH A400
                clear A400
                replace H := Option.bind_eq_some_iff.mp H
                obtain ⟨t205, A410, H⟩ := H
                (try dsimp only at H)
                have A41 := qH A410
                clear A410
                obtain rfl := Option.some.inj H
                simp only [Option.some.injEq, Prod.mk.injEq] at H
                obtain ⟨rfl⟩ := H
                go_enter Try.func8, Try.ntmps8
                try go_wp2_with (first | ((with_reducible refine gate_callee (f := 25) rfl ?_); refine goesL_ (some 14) rfl rfl Try.func25 (by kernel_rfl) rfl #[.string (⟨#[97]⟩ : ByteArray)] rfl (by (try simp only [zX, zY, zZ]); first | done | rfl | (simp only [zD, zE]; rfl)) ?_; (with_reducible refine (codicillaw19_node.calls (⟨#[97]⟩ : ByteArray) t127 t128 _ A1.out).mono ?_); rintro e w42 ⟨rfl, hb⟩; refine ⟨_, rfl, ?_⟩; have n0_ := qH (below_step (by repeat (first | (with_reducible first | exact HB.out | apply qL | apply qJ | apply qK) | exact HB.out)) hb); clear HB; have HB := n0_; clear n0_; (try clear hb); (try clear hb2); (try clear hk); (try clear hi)) | ((with_reducible refine gate_callee (f := 19) rfl ?_); refine goesL_ (some 16) rfl rfl Try.func19 (by kernel_rfl) rfl #[.slice none 0 0, .agg #[.string t127, .int .i64 t128, .slice none 0 0]] rfl (by (try simp only [zX, zY, zZ]); first | done | rfl | (simp only [zD, zE]; rfl)) ?_; (refine (graph_Add.calls (fun k_ => False) _ _ ([] : List (S40)) t127 t128 (fun k_ => False) _ _ ([] : List (S24)) t129 t132 _ ?side1 ?side2 A2.out).mono ?_); (case side1 => exact Kd.V_nil _ _ _ _ _); (case side2 => exact Kd.V_nil _ _ _ _ _); rintro e w43 ⟨v130, rfl, ho0, hb⟩; refine ⟨_, rfl, ?_⟩; have n0_ := qH (Kd.V_lower (Kd.V_mono (ok' := fun k_ => True) ho0 (fun k_ hk_ => trivial)) (below_size (by repeat (first | (with_reducible first | exact HB.out | apply qL | apply qJ | apply qK) | exact HB.out)))); have n1_ := qH (below_step (by repeat (first | (with_reducible first | exact HB.out | apply qL | apply qJ | apply qK) | exact HB.out)) hb); clear HB; have HO131 := n0_; have HB := n1_; clear n0_ n1_; (try clear hb); (try clear hb2); (try clear hk); (try clear hi); (try clear ho0)) | ((with_reducible refine gate_callee (f := 25) rfl ?_); refine goesL_ (some 21) rfl rfl Try.func25 (by kernel_rfl) rfl #[.string (⟨#[98]⟩ : ByteArray)] rfl (by (try simp only [zX, zY, zZ]); first | done | rfl | (simp only [zD, zE]; rfl)) ?_; (with_reducible refine (codicillaw19_node.calls (⟨#[98]⟩ : ByteArray) t133 t134 _ A3.out).mono ?_); rintro e w44 ⟨rfl, hb⟩; refine ⟨_, rfl, ?_⟩; have n0_ := qH (Kd.V_below (by (with_reducible repeat first | apply zVa | apply zVb | apply zVc); exact HO131.out) hb); have n1_ := qH (below_step (by repeat (first | (with_reducible first | exact HB.out | apply qL | apply qJ | apply qK) | exact HB.out)) hb); clear HO131; clear HB; have HO131 := n0_; have HB := n1_; clear n0_ n1_; (try clear hb); (try clear hb2); (try clear hk); (try clear hi)) | ((with_reducible refine gate_callee (f := 25) rfl ?_); refine goesL_ (some 22) rfl rfl Try.func25 (by kernel_rfl) rfl #[.string (⟨#[97]⟩ : ByteArray)] rfl (by (try simp only [zX, zY, zZ]); first | done | rfl | (simp only [zD, zE]; rfl)) ?_; (with_reducible refine (codicillaw19_node.calls (⟨#[97]⟩ : ByteArray) t135 t136 _ A4.out).mono ?_); rintro e w45 ⟨rfl, hb⟩; refine ⟨_, rfl, ?_⟩; have n0_ := qH (Kd.V_below (by (with_reducible repeat first | apply zVa | apply zVb | apply zVc); exact HO131.out) hb); have n1_ := qH (below_step (by repeat (first | (with_reducible first | exact HB.out | apply qL | apply qJ | apply qK) | exact HB.out)) hb); clear HO131; clear HB; have HO131 := n0_; have HB := n1_; clear n0_ n1_; (try clear hb); (try clear hb2); (try clear hk); (try clear hi)) | ((with_reducible refine gate_dst (N := 23) rfl ?_); (try (refine gate_guard (by rfl) ?_; dsimp only)); refine Kd.R_lit k24 _ 24 ?hg (N := 23) ?hd (xs := ([(⟨t135, t136⟩ : S24)] : List (S24))) (inner := [.string t135, .int .i64 t136]) (ok := fun _ => True) (okp := fun _ => True) ?hr ?hp (fun _ hk => hk) trivial (Below.refl _ _) (Nat.le_refl _) (by simp) ?_; (case hd => rfl); (case hg => rfl); (case hr => first | (go_simp; done) | (go_simp; rfl) | (go_simp; simp [IntKind.wrap_u32]; done)); (case hp => exact (Reps.c2 (show Kd.M k24 _ _ _ (⟨t135, t136⟩ : S24) [.string t135, .int .i64 t136] from (k24_mkM _ _ _ (⟨t135, t136⟩ : S24) )) (Reps.none _ _))); intro v138 w46 ho47 hb hg_ hnew_; clear hg_ hnew_; (first | rw [← Ny137.out] at ho47 | (simp only [Int.reduceToNat] at ho47; rw [← Ny137.out] at ho47)); have n0_ := qH (Kd.V_elder' (by (with_reducible repeat first | apply zVa | apply zVb | apply zVc); exact HO131.out) (Kd.R_base ho47) hb); have n1_ := qH (Kd.R_lower ho47 (below_size (by repeat (first | (with_reducible first | exact HB.out | apply qL | apply qJ | apply qK) | exact HB.out)))); have n2_ := qH (below_step (by repeat (first | (with_reducible first | exact HB.out | apply qL | apply qJ | apply qK) | exact HB.out)) hb); clear HO131; clear HB; have HO131 := n0_; have HO139 := n1_; have HB := n2_; clear n0_ n1_ n2_; clear hb ho47; obtain ⟨Ao48, co48, eo48⟩ := Kd.R_slice HO139.out; subst eo48; obtain ⟨Ao49, co49, eo49⟩ := Kd.V_slice HO131.out; subst eo49) | ((with_reducible refine gate_callee (f := 19) rfl ?_); refine goesL_ (some 25) rfl rfl Try.func19 (by kernel_rfl) rfl #[.slice Ao49 t129.length co49, .agg #[.string t133, .int .i64 t134, .slice Ao48 y137.length co48]] rfl (by (try simp only [zX, zY, zZ]); first | done | rfl | (simp only [zD, zE]; rfl)) ?_; (with_reducible refine (graph_Add.calls (fun k_ => (True ∧ some k_ ≠ (.slice Ao48 y137.length co48 : Value).ownBlock)) _ _ t129 t133 t134 (fun k_ => some k_ = (.slice Ao48 y137.length co48 : Value).ownBlock) _ _ y137 t140 t143 _ ?side1 ?side2 A5.out).mono ?_); (case side1 => exact HO131.out); (case side2 => exact Kd.R_V (Kd.R_tight rfl (HO139.out))); rintro e w50 ⟨v141, rfl, ho0, hb⟩; refine ⟨_, rfl, ?_⟩; have n0_ := qH (Kd.V_below (by (with_reducible repeat first | apply zVa | apply zVb | apply zVc); exact HO131.out) hb); have n1_ := qH (Kd.R_below (by (with_reducible repeat first | apply zRa | apply zRb | apply zRc); exact HO139.out) hb); have n2_ := qH (Kd.V_lower (Kd.V_mono (ok' := fun k_ => True) ho0 (fun k_ hk_ => trivial)) (below_size (by repeat (first | (with_reducible first | exact HB.out | apply qL | apply qJ | apply qK) | exact HB.out)))); have n3_ := qH (below_step (by repeat (first | (with_reducible first | exact HB.out | apply qL | apply qJ | apply qK) | exact HB.out)) hb); clear HO131; clear HO139; clear HB; have HO131 := n0_; have HO139 := n1_; have HO142 := n2_; have HB := n3_; clear n0_ n1_ n2_ n3_; (try clear hb); (try clear hb2); (try clear hk); (try clear hi); (try clear ho0)) | ((with_reducible refine gate_callee (f := 25) rfl ?_); refine goesL_ (some 30) rfl rfl Try.func25 (by kernel_rfl) rfl #[.string (⟨#[99]⟩ : ByteArray)] rfl (by (try simp only [zX, zY, zZ]); first | done | rfl | (simp only [zD, zE]; rfl)) ?_; (with_reducible refine (codicillaw19_node.calls (⟨#[99]⟩ : ByteArray) t144 t145 _ A6.out).mono ?_); rintro e w51 ⟨rfl, hb⟩; refine ⟨_, rfl, ?_⟩; have n0_ := qH (Kd.V_below (by (with_reducible repeat first | apply zVa | apply zVb | apply zVc); exact HO131.out) hb); have n1_ := qH (Kd.R_below (by (with_reducible repeat first | apply zRa | apply zRb | apply zRc); exact HO139.out) hb); have n2_ := qH (Kd.V_below (by (with_reducible repeat first | apply zVa | apply zVb | apply zVc); exact HO142.out) hb); have n3_ := qH (below_step (by repeat (first | (with_reducible first | exact HB.out | apply qL | apply qJ | apply qK) | exact HB.out)) hb); clear HO131; clear HO139; clear HO142; clear HB; have HO131 := n0_; have HO139 := n1_; have HO142 := n2_; have HB := n3_; clear n0_ n1_ n2_ n3_; (try clear hb); (try clear hb2); (try clear hk); (try clear hi)) | ((with_reducible refine gate_callee (f := 25) rfl ?_); refine goesL_ (some 31) rfl rfl Try.func25 (by kernel_rfl) rfl #[.string (⟨#[98]⟩ : ByteArray)] rfl (by (try simp only [zX, zY, zZ]); first | done | rfl | (simp only [zD, zE]; rfl)) ?_; (with_reducible refine (codicillaw19_node.calls (⟨#[98]⟩ : ByteArray) t146 t147 _ A7.out).mono ?_); rintro e w52 ⟨rfl, hb⟩; refine ⟨_, rfl, ?_⟩; have n0_ := qH (Kd.V_below (by (with_reducible repeat first | apply zVa | apply zVb | apply zVc); exact HO131.out) hb); have n1_ := qH (Kd.R_below (by (with_reducible repeat first | apply zRa | apply zRb | apply zRc); exact HO139.out) hb); have n2_ := qH (Kd.V_below (by (with_reducible repeat first | apply zVa | apply zVb | apply zVc); exact HO142.out) hb); have n3_ := qH (below_step (by repeat (first | (with_reducible first | exact HB.out | apply qL | apply qJ | apply qK) | exact HB.out)) hb); clear HO131; clear HO139; clear HO142; clear HB; have HO131 := n0_; have HO139 := n1_; have HO142 := n2_; have HB := n3_; clear n0_ n1_ n2_ n3_; (try clear hb); (try clear hb2); (try clear hk); (try clear hi)) | ((with_reducible refine gate_callee (f := 25) rfl ?_); refine goesL_ (some 32) rfl rfl Try.func25 (by kernel_rfl) rfl #[.string (⟨#[97]⟩ : ByteArray)] rfl (by (try simp only [zX, zY, zZ]); first | done | rfl | (simp only [zD, zE]; rfl)) ?_; (with_reducible refine (codicillaw19_node.calls (⟨#[97]⟩ : ByteArray) t148 t149 _ A8.out).mono ?_); rintro e w53 ⟨rfl, hb⟩; refine ⟨_, rfl, ?_⟩; have n0_ := qH (Kd.V_below (by (with_reducible repeat first | apply zVa | apply zVb | apply zVc); exact HO131.out) hb); have n1_ := qH (Kd.R_below (by (with_reducible repeat first | apply zRa | apply zRb | apply zRc); exact HO139.out) hb); have n2_ := qH (Kd.V_below (by (with_reducible repeat first | apply zVa | apply zVb | apply zVc); exact HO142.out) hb); have n3_ := qH (below_step (by repeat (first | (with_reducible first | exact HB.out | apply qL | apply qJ | apply qK) | exact HB.out)) hb); clear HO131; clear HO139; clear HO142; clear HB; have HO131 := n0_; have HO139 := n1_; have HO142 := n2_; have HB := n3_; clear n0_ n1_ n2_ n3_; (try clear hb); (try clear hb2); (try clear hk); (try clear hi)) | ((with_reducible refine gate_dst (N := 33) rfl ?_); (try (refine gate_guard (by rfl) ?_; dsimp only)); refine Kd.R_lit k24 _ 24 ?hg (N := 33) ?hd (xs := ([(⟨t146, t147⟩ : S24), (⟨t148, t149⟩ : S24)] : List (S24))) (inner := [.string t146, .int .i64 t147, .string t148, .int .i64 t149]) (ok := fun _ => True) (okp := fun _ => True) ?hr ?hp (fun _ hk => hk) trivial (Below.refl _ _) (Nat.le_refl _) (by simp) ?_; (case hd => rfl); (case hg => rfl); (case hr => first | (go_simp; done) | (go_simp; rfl) | (go_simp; simp [IntKind.wrap_u32]; done)); (case hp => exact (Reps.c2 (show Kd.M k24 _ _ _ (⟨t146, t147⟩ : S24) [.string t146, .int .i64 t147] from (k24_mkM _ _ _ (⟨t146, t147⟩ : S24) )) (Reps.c2 (show Kd.M k24 _ _ _ (⟨t148, t149⟩ : S24) [.string t148, .int .i64 t149] from (k24_mkM _ _ _ (⟨t148, t149⟩ : S24) )) (Reps.none _ _)))); intro v151 w54 ho55 hb hg_ hnew_; clear hg_ hnew_; (first | rw [← Ny150.out] at ho55 | (simp only [Int.reduceToNat] at ho55; rw [← Ny150.out] at ho55)); have n0_ := qH (Kd.V_elder' (by (with_reducible repeat first | apply zVa | apply zVb | apply zVc); exact HO131.out) (Kd.R_base ho55) hb); have n1_ := qH (Kd.R_elder' (by (with_reducible repeat first | apply zRa | apply zRb | apply zRc); exact HO139.out) (Kd.R_base ho55) hb); have n2_ := qH (Kd.V_elder' (by (with_reducible repeat first | apply zVa | apply zVb | apply zVc); exact HO142.out) (Kd.R_base ho55) hb); have n3_ := qH (Kd.R_lower (Kd.R_new' ho55 (Kd.R_lt (by (with_reducible repeat first | apply zRa | apply zRb | apply zRc); exact HO139.out))) (below_size (by repeat (first | (with_reducible first | exact HB.out | apply qL | apply qJ | apply qK) | exact HB.out)))); have n4_ := qH (below_step (by repeat (first | (with_reducible first | exact HB.out | apply qL | apply qJ | apply qK) | exact HB.out)) hb); clear HO131; clear HO139; clear HO142; clear HB; have HO131 := n0_; have HO139 := n1_; have HO142 := n2_; have HO152 := n3_; have HB := n4_; clear n0_ n1_ n2_ n3_ n4_; clear hb ho55; obtain ⟨Ao56, co56, eo56⟩ := Kd.R_slice HO152.out; subst eo56; obtain ⟨Ao57, co57, eo57⟩ := Kd.V_slice HO142.out; subst eo57) | ((with_reducible refine gate_callee (f := 19) rfl ?_); refine goesL_ (some 35) rfl rfl Try.func19 (by kernel_rfl) rfl #[.slice Ao57 t140.length co57, .agg #[.string t144, .int .i64 t145, .slice Ao56 y150.length co56]] rfl (by (try simp only [zX, zY, zZ]); first | done | rfl | (simp only [zD, zE]; rfl)) ?_; (with_reducible refine (graph_Add.calls (fun k_ => (True ∧ some k_ ≠ (.slice Ao56 y150.length co56 : Value).ownBlock)) _ _ t140 t144 t145 (fun k_ => some k_ = (.slice Ao56 y150.length co56 : Value).ownBlock) _ _ y150 t153 t156 _ ?side1 ?side2 A9.out).mono ?_); (case side1 => exact HO142.out); (case side2 => exact Kd.R_V (Kd.R_tight rfl (HO152.out))); rintro e w58 ⟨v154, rfl, ho0, hb⟩; refine ⟨_, rfl, ?_⟩; have n0_ := qH (Kd.V_below (by (with_reducible repeat first | apply zVa | apply zVb | apply zVc); exact HO131.out) hb); have n1_ := qH (Kd.R_below (by (with_reducible repeat first | apply zRa | apply zRb | apply zRc); exact HO139.out) hb); have n2_ := qH (Kd.V_below (by (with_reducible repeat first | apply zVa | apply zVb | apply zVc); exact HO142.out) hb); have n3_ := qH (Kd.R_below (by (with_reducible repeat first | apply zRa | apply zRb | apply zRc); exact HO152.out) hb); have n4_ := qH (Kd.V_lower (Kd.V_mono (ok' := fun k_ => True) ho0 (fun k_ hk_ => trivial)) (below_size (by repeat (first | (with_reducible first | exact HB.out | apply qL | apply qJ | apply qK) | exact HB.out)))); have n5_ := qH (below_step (by repeat (first | (with_reducible first | exact HB.out | apply qL | apply qJ | apply qK) | exact HB.out)) hb); clear HO131; clear HO139; clear HO142; clear HO152; clear HB; have HO131 := n0_; have HO139 := n1_; have HO142 := n2_; have HO152 := n3_; have HO155 := n4_; have HB := n5_; clear n0_ n1_ n2_ n3_ n4_ n5_; (try clear hb); (try clear hb2); (try clear hk); (try clear hi); (try clear ho0)) | ((with_reducible refine gate_callee (f := 25) rfl ?_); refine goesL_ (some 40) rfl rfl Try.func25 (by kernel_rfl) rfl #[.string (⟨#[99]⟩ : ByteArray)] rfl (by (try simp only [zX, zY, zZ]); first | done | rfl | (simp only [zD, zE]; rfl)) ?_; (with_reducible refine (codicillaw19_node.calls (⟨#[99]⟩ : ByteArray) t157 t158 _ A10.out).mono ?_); rintro e w59 ⟨rfl, hb⟩; refine ⟨_, rfl, ?_⟩; have n0_ := qH (Kd.V_below (by (with_reducible repeat first | apply zVa | apply zVb | apply zVc); exact HO131.out) hb); have n1_ := qH (Kd.R_below (by (with_reducible repeat first | apply zRa | apply zRb | apply zRc); exact HO139.out) hb); have n2_ := qH (Kd.V_below (by (with_reducible repeat first | apply zVa | apply zVb | apply zVc); exact HO142.out) hb); have n3_ := qH (Kd.R_below (by (with_reducible repeat first | apply zRa | apply zRb | apply zRc); exact HO152.out) hb); have n4_ := qH (Kd.V_below (by (with_reducible repeat first | apply zVa | apply zVb | apply zVc); exact HO155.out) hb); have n5_ := qH (below_step (by repeat (first | (with_reducible first | exact HB.out | apply qL | apply qJ | apply qK) | exact HB.out)) hb); clear HO131; clear HO139; clear HO142; clear HO152; clear HO155; clear HB; have HO131 := n0_; have HO139 := n1_; have HO142 := n2_; have HO152 := n3_; have HO155 := n4_; have HB := n5_; clear n0_ n1_ n2_ n3_ n4_ n5_; (try clear hb); (try clear hb2); (try clear hk); (try clear hi)) | ((with_reducible refine gate_dst (N := 41) rfl ?_); (try (refine gate_guard (by rfl) ?_; dsimp only)); refine Kd.R_lit k24 _ 24 ?hg (N := 41) ?hd (xs := ([(⟨t157, t158⟩ : S24)] : List (S24))) (inner := [.string t157, .int .i64 t158]) (ok := fun _ => True) (okp := fun _ => True) ?hr ?hp (fun _ hk => hk) trivial (Below.refl _ _) (Nat.le_refl _) (by simp) ?_; (case hd => rfl); (case hg => rfl); (case hr => first | (go_simp; done) | (go_simp; rfl) | (go_simp; simp [IntKind.wrap_u32]; done)); (case hp => exact (Reps.c2 (show Kd.M k24 _ _ _ (⟨t157, t158⟩ : S24) [.string t157, .int .i64 t158] from (k24_mkM _ _ _ (⟨t157, t158⟩ : S24) )) (Reps.none _ _))); intro v160 w60 ho61 hb hg_ hnew_; clear hg_ hnew_; (first | rw [← Ny159.out] at ho61 | (simp only [Int.reduceToNat] at ho61; rw [← Ny159.out] at ho61)); have n0_ := qH (Kd.V_elder' (by (with_reducible repeat first | apply zVa | apply zVb | apply zVc); exact HO131.out) (Kd.R_base ho61) hb); have n1_ := qH (Kd.R_elder' (by (with_reducible repeat first | apply zRa | apply zRb | apply zRc); exact HO139.out) (Kd.R_base ho61) hb); have n2_ := qH (Kd.V_elder' (by (with_reducible repeat first | apply zVa | apply zVb | apply zVc); exact HO142.out) (Kd.R_base ho61) hb); have n3_ := qH (Kd.R_elder' (by (with_reducible repeat first | apply zRa | apply zRb | apply zRc); exact HO152.out) (Kd.R_base ho61) hb); have n4_ := qH (Kd.V_elder' (by (with_reducible repeat first | apply zVa | apply zVb | apply zVc); exact HO155.out) (Kd.R_base ho61) hb); have n5_ := qH (Kd.R_lower (Kd.R_new' (Kd.R_new' ho61 (Kd.R_lt (by (with_reducible repeat first | apply zRa | apply zRb | apply zRc); exact HO139.out))) (Kd.R_lt (by (with_reducible repeat first | apply zRa | apply zRb | apply zRc); exact HO152.out))) (below_size (by repeat (first | (with_reducible first | exact HB.out | apply qL | apply qJ | apply qK) | exact HB.out)))); have n6_ := qH (below_step (by repeat (first | (with_reducible first | exact HB.out | apply qL | apply qJ | apply qK) | exact HB.out)) hb); clear HO131; clear HO139; clear HO142; clear HO152; clear HO155; clear HB; have HO131 := n0_; have HO139 := n1_; have HO142 := n2_; have HO152 := n3_; have HO155 := n4_; have HO161 := n5_; have HB := n6_; clear n0_ n1_ n2_ n3_ n4_ n5_ n6_; clear hb ho61; obtain ⟨Ao62, co62, eo62⟩ := Kd.V_slice HO155.out; subst eo62; obtain ⟨Ao63, co63, eo63⟩ := Kd.R_slice HO161.out; subst eo63) | ((with_reducible refine gate_callee (f := 9) rfl ?_); refine goesL_ (some 42) rfl rfl Try.func9 (by kernel_rfl) rfl #[.slice Ao62 t153.length co62, .slice Ao63 y159.length co63] rfl (by (try simp only [zX, zY, zZ]); first | done | rfl | (simp only [zD, zE]; rfl)) ?_; (with_reducible refine (graph_Order.calls _ _ t153 _ _ y159 t162 t163 _ ?side1 ?side2 ?side3 ?side4 A11.out).mono ?_); (case side1 => repeat (first | exact (Kd.V_reads' HO155.out).2.2 | (with_reducible refine Kd.C_alloc ?_ _) | (with_reducible refine Kd.C_drewN ?_ _) | (with_reducible refine Kd.C_drew ?_))); (case side2 => exact (Kd.V_reads' HO155.out).2.1); (case side3 => repeat (first | exact (Kd.R_reads' HO161.out).2.2 | (with_reducible refine Kd.C_alloc ?_ _) | (with_reducible refine Kd.C_drewN ?_ _) | (with_reducible refine Kd.C_drew ?_))); (case side4 => exact (Kd.R_reads' HO161.out).2.1); rintro e w64 ⟨v164, rfl, ho0, hb⟩; refine ⟨_, rfl, ?_⟩; have n0_ := qH (Kd.V_elder' (by (with_reducible repeat first | apply zVa | apply zVb | apply zVc); exact HO131.out) (Kd.R_base ho0) hb); have n1_ := qH (Kd.R_elder' (by (with_reducible repeat first | apply zRa | apply zRb | apply zRc); exact HO139.out) (Kd.R_base ho0) hb); have n2_ := qH (Kd.V_elder' (by (with_reducible repeat first | apply zVa | apply zVb | apply zVc); exact HO142.out) (Kd.R_base ho0) hb); have n3_ := qH (Kd.R_elder' (by (with_reducible repeat first | apply zRa | apply zRb | apply zRc); exact HO152.out) (Kd.R_base ho0) hb); have n4_ := qH (Kd.V_elder' (by (with_reducible repeat first | apply zVa | apply zVb | apply zVc); exact HO155.out) (Kd.R_base ho0) hb); have n5_ := qH (Kd.R_elder' (by (with_reducible repeat first | apply zRa | apply zRb | apply zRc); exact HO161.out) (Kd.R_base ho0) hb); have n6_ := qH (Kd.R_lower (Kd.R_new' (Kd.R_new' (Kd.R_new' ho0 (Kd.R_lt (by (with_reducible repeat first | apply zRa | apply zRb | apply zRc); exact HO139.out))) (Kd.R_lt (by (with_reducible repeat first | apply zRa | apply zRb | apply zRc); exact HO152.out))) (Kd.R_lt (by (with_reducible repeat first | apply zRa | apply zRb | apply zRc); exact HO161.out))) (below_size (by repeat (first | (with_reducible first | exact HB.out | apply qL | apply qJ | apply qK) | exact HB.out)))); have n7_ := qH (below_step (by repeat (first | (with_reducible first | exact HB.out | apply qL | apply qJ | apply qK) | exact HB.out)) hb); clear HO131; clear HO139; clear HO142; clear HO152; clear HO155; clear HO161; clear HB; have HO131 := n0_; have HO139 := n1_; have HO142 := n2_; have HO152 := n3_; have HO155 := n4_; have HO161 := n5_; have HO165 := n6_; have HB := n7_; clear n0_ n1_ n2_ n3_ n4_ n5_ n6_ n7_; (try clear hb); (try clear hb2); (try clear hk); (try clear hi); (try clear ho0)) | ((with_reducible refine gate_callee (f := 25) rfl ?_); refine goesL_ (some 47) rfl rfl Try.func25 (by kernel_rfl) rfl #[.string (⟨#[97]⟩ : ByteArray)] rfl (by (try simp only [zX, zY, zZ]); first | done | rfl | (simp only [zD, zE]; rfl)) ?_; (with_reducible refine (codicillaw19_node.calls (⟨#[97]⟩ : ByteArray) t166 t167 _ A12.out).mono ?_); rintro e w65 ⟨rfl, hb⟩; refine ⟨_, rfl, ?_⟩; have n0_ := qH (Kd.V_below (by (with_reducible repeat first | apply zVa | apply zVb | apply zVc); exact HO131.out) hb); have n1_ := qH (Kd.R_below (by (with_reducible repeat first | apply zRa | apply zRb | apply zRc); exact HO139.out) hb); have n2_ := qH (Kd.V_below (by (with_reducible repeat first | apply zVa | apply zVb | apply zVc); exact HO142.out) hb); have n3_ := qH (Kd.R_below (by (with_reducible repeat first | apply zRa | apply zRb | apply zRc); exact HO152.out) hb); have n4_ := qH (Kd.V_below (by (with_reducible repeat first | apply zVa | apply zVb | apply zVc); exact HO155.out) hb); have n5_ := qH (Kd.R_below (by (with_reducible repeat first | apply zRa | apply zRb | apply zRc); exact HO161.out) hb); have n6_ := qH (Kd.R_below (by (with_reducible repeat first | apply zRa | apply zRb | apply zRc); exact HO165.out) hb); have n7_ := qH (below_step (by repeat (first | (with_reducible first | exact HB.out | apply qL | apply qJ | apply qK) | exact HB.out)) hb); clear HO131; clear HO139; clear HO142; clear HO152; clear HO155; clear HO161; clear HO165; clear HB; have HO131 := n0_; have HO139 := n1_; have HO142 := n2_; have HO152 := n3_; have HO155 := n4_; have HO161 := n5_; have HO165 := n6_; have HB := n7_; clear n0_ n1_ n2_ n3_ n4_ n5_ n6_ n7_; (try clear hb); (try clear hb2); (try clear hk); (try clear hi)) | ((with_reducible refine gate_callee (f := 21) rfl ?_); refine goesL_ (some 48) rfl rfl Try.func21 (by kernel_rfl) rfl #[.slice Ao62 t153.length co62, .agg #[.string t166, .int .i64 t167]] rfl (by (try simp only [zX, zY, zZ]); first | done | rfl | (simp only [zD, zE]; rfl)) ?_; (with_reducible refine (graph_Drop.calls (fun k_ => ((True ∧ some k_ ≠ (.slice Ao63 y159.length co63 : Value).ownBlock) ∧ some k_ ≠ (v164 : Value).ownBlock)) _ _ t153 t166 t167 t168 t171 _ ?side1 A13.out).mono ?_); (case side1 => exact HO155.out); rintro e w66 ⟨v169, rfl, ho0, hb⟩; refine ⟨_, rfl, ?_⟩; have n0_ := qH (Kd.V_below (by (with_reducible repeat first | apply zVa | apply zVb | apply zVc); exact HO131.out) hb); have n1_ := qH (Kd.R_below (by (with_reducible repeat first | apply zRa | apply zRb | apply zRc); exact HO139.out) hb); have n2_ := qH (Kd.V_below (by (with_reducible repeat first | apply zVa | apply zVb | apply zVc); exact HO142.out) hb); have n3_ := qH (Kd.R_below (by (with_reducible repeat first | apply zRa | apply zRb | apply zRc); exact HO152.out) hb); have n4_ := qH (Kd.V_below (by (with_reducible repeat first | apply zVa | apply zVb | apply zVc); exact HO155.out) hb); have n5_ := qH (Kd.R_below (by (with_reducible repeat first | apply zRa | apply zRb | apply zRc); exact HO161.out) hb); have n6_ := qH (Kd.R_below (by (with_reducible repeat first | apply zRa | apply zRb | apply zRc); exact HO165.out) hb); have n7_ := qH (Kd.V_lower (Kd.V_mono (ok' := fun k_ => some k_ ≠ (.slice Ao63 y159.length co63 : Value).ownBlock ∧ some k_ ≠ (v164 : Value).ownBlock) ho0 (fun k_ hk_ => ⟨Or.elim hk_ (fun hs_ => hs_.1.2) (fun hn_ => (Kd.fresh' (Kd.R_lt (by (with_reducible repeat first | apply zRa | apply zRb | apply zRc); exact HO161.out)) k_ hn_)), Or.elim hk_ (fun hs_ => hs_.2) (fun hn_ => (Kd.fresh' (Kd.R_lt (by (with_reducible repeat first | apply zRa | apply zRb | apply zRc); exact HO165.out)) k_ hn_))⟩)) (below_size (by repeat (first | (with_reducible first | exact HB.out | apply qL | apply qJ | apply qK) | exact HB.out)))); have n8_ := qH (below_step (by repeat (first | (with_reducible first | exact HB.out | apply qL | apply qJ | apply qK) | exact HB.out)) hb); clear HO131; clear HO139; clear HO142; clear HO152; clear HO155; clear HO161; clear HO165; clear HB; have HO131 := n0_; have HO139 := n1_; have HO142 := n2_; have HO152 := n3_; have HO155 := n4_; have HO161 := n5_; have HO165 := n6_; have HO170 := n7_; have HB := n8_; clear n0_ n1_ n2_ n3_ n4_ n5_ n6_ n7_ n8_; (try clear hb); (try clear hb2); (try clear hk); (try clear hi); (try clear ho0)) | ((with_reducible refine gate_callee (f := 25) rfl ?_); refine goesL_ (some 53) rfl rfl Try.func25 (by kernel_rfl) rfl #[.string (⟨#[99]⟩ : ByteArray)] rfl (by (try simp only [zX, zY, zZ]); first | done | rfl | (simp only [zD, zE]; rfl)) ?_; (with_reducible refine (codicillaw19_node.calls (⟨#[99]⟩ : ByteArray) t172 t173 _ A14.out).mono ?_); rintro e w67 ⟨rfl, hb⟩; refine ⟨_, rfl, ?_⟩; have n0_ := qH (Kd.V_below (by (with_reducible repeat first | apply zVa | apply zVb | apply zVc); exact HO131.out) hb); have n1_ := qH (Kd.R_below (by (with_reducible repeat first | apply zRa | apply zRb | apply zRc); exact HO139.out) hb); have n2_ := qH (Kd.V_below (by (with_reducible repeat first | apply zVa | apply zVb | apply zVc); exact HO142.out) hb); have n3_ := qH (Kd.R_below (by (with_reducible repeat first | apply zRa | apply zRb | apply zRc); exact HO152.out) hb); have n4_ := qH (Kd.V_below (by (with_reducible repeat first | apply zVa | apply zVb | apply zVc); exact HO155.out) hb); have n5_ := qH (Kd.R_below (by (with_reducible repeat first | apply zRa | apply zRb | apply zRc); exact HO161.out) hb); have n6_ := qH (Kd.R_below (by (with_reducible repeat first | apply zRa | apply zRb | apply zRc); exact HO165.out) hb); have n7_ := qH (Kd.V_below (by (with_reducible repeat first | apply zVa | apply zVb | apply zVc); exact HO170.out) hb); have n8_ := qH (below_step (by repeat (first | (with_reducible first | exact HB.out | apply qL | apply qJ | apply qK) | exact HB.out)) hb); clear HO131; clear HO139; clear HO142; clear HO152; clear HO155; clear HO161; clear HO165; clear HO170; clear HB; have HO131 := n0_; have HO139 := n1_; have HO142 := n2_; have HO152 := n3_; have HO155 := n4_; have HO161 := n5_; have HO165 := n6_; have HO170 := n7_; have HB := n8_; clear n0_ n1_ n2_ n3_ n4_ n5_ n6_ n7_ n8_; (try clear hb); (try clear hb2); (try clear hk); (try clear hi)) | ((with_reducible refine gate_callee (f := 21) rfl ?_); refine goesL_ (some 54) rfl rfl Try.func21 (by kernel_rfl) rfl #[.slice Ao62 t153.length co62, .agg #[.string t172, .int .i64 t173]] rfl (by (try simp only [zX, zY, zZ]); first | done | rfl | (simp only [zD, zE]; rfl)) ?_; (with_reducible refine (graph_Drop.calls (fun k_ => ((True ∧ some k_ ≠ (.slice Ao63 y159.length co63 : Value).ownBlock) ∧ some k_ ≠ (v164 : Value).ownBlock)) _ _ t153 t172 t173 t174 t177 _ ?side1 A15.out).mono ?_); (case side1 => exact HO155.out); rintro e w68 ⟨v175, rfl, ho0, hb⟩; refine ⟨_, rfl, ?_⟩; have n0_ := qH (Kd.V_below (by (with_reducible repeat first | apply zVa | apply zVb | apply zVc); exact HO131.out) hb); have n1_ := qH (Kd.R_below (by (with_reducible repeat first | apply zRa | apply zRb | apply zRc); exact HO139.out) hb); have n2_ := qH (Kd.V_below (by (with_reducible repeat first | apply zVa | apply zVb | apply zVc); exact HO142.out) hb); have n3_ := qH (Kd.R_below (by (with_reducible repeat first | apply zRa | apply zRb | apply zRc); exact HO152.out) hb); have n4_ := qH (Kd.V_below (by (with_reducible repeat first | apply zVa | apply zVb | apply zVc); exact HO155.out) hb); have n5_ := qH (Kd.R_below (by (with_reducible repeat first | apply zRa | apply zRb | apply zRc); exact HO161.out) hb); have n6_ := qH (Kd.R_below (by (with_reducible repeat first | apply zRa | apply zRb | apply zRc); exact HO165.out) hb); have n7_ := qH (Kd.V_below (by (with_reducible repeat first | apply zVa | apply zVb | apply zVc); exact HO170.out) hb); have n8_ := qH (Kd.V_lower (Kd.V_mono (ok' := fun k_ => some k_ ≠ (.slice Ao63 y159.length co63 : Value).ownBlock ∧ some k_ ≠ (v164 : Value).ownBlock) ho0 (fun k_ hk_ => ⟨Or.elim hk_ (fun hs_ => hs_.1.2) (fun hn_ => (Kd.fresh' (Kd.R_lt (by (with_reducible repeat first | apply zRa | apply zRb | apply zRc); exact HO161.out)) k_ hn_)), Or.elim hk_ (fun hs_ => hs_.2) (fun hn_ => (Kd.fresh' (Kd.R_lt (by (with_reducible repeat first | apply zRa | apply zRb | apply zRc); exact HO165.out)) k_ hn_))⟩)) (below_size (by repeat (first | (with_reducible first | exact HB.out | apply qL | apply qJ | apply qK) | exact HB.out)))); have n9_ := qH (below_step (by repeat (first | (with_reducible first | exact HB.out | apply qL | apply qJ | apply qK) | exact HB.out)) hb); clear HO131; clear HO139; clear HO142; clear HO152; clear HO155; clear HO161; clear HO165; clear HO170; clear HB; have HO131 := n0_; have HO139 := n1_; have HO142 := n2_; have HO152 := n3_; have HO155 := n4_; have HO161 := n5_; have HO165 := n6_; have HO170 := n7_; have HO176 := n8_; have HB := n9_; clear n0_ n1_ n2_ n3_ n4_ n5_ n6_ n7_ n8_ n9_; (try clear hb); (try clear hb2); (try clear hk); (try clear hi); (try clear ho0)) | ((with_reducible refine gate_callee (f := 25) rfl ?_); refine goesL_ (some 59) rfl rfl Try.func25 (by kernel_rfl) rfl #[.string (⟨#[100]⟩ : ByteArray)] rfl (by (try simp only [zX, zY, zZ]); first | done | rfl | (simp only [zD, zE]; rfl)) ?_; (with_reducible refine (codicillaw19_node.calls (⟨#[100]⟩ : ByteArray) t178 t179 _ A16.out).mono ?_); rintro e w69 ⟨rfl, hb⟩; refine ⟨_, rfl, ?_⟩; have n0_ := qH (Kd.V_below (by (with_reducible repeat first | apply zVa | apply zVb | apply zVc); exact HO131.out) hb); have n1_ := qH (Kd.R_below (by (with_reducible repeat first | apply zRa | apply zRb | apply zRc); exact HO139.out) hb); have n2_ := qH (Kd.V_below (by (with_reducible repeat first | apply zVa | apply zVb | apply zVc); exact HO142.out) hb); have n3_ := qH (Kd.R_below (by (with_reducible repeat first | apply zRa | apply zRb | apply zRc); exact HO152.out) hb); have n4_ := qH (Kd.V_below (by (with_reducible repeat first | apply zVa | apply zVb | apply zVc); exact HO155.out) hb); have n5_ := qH (Kd.R_below (by (with_reducible repeat first | apply zRa | apply zRb | apply zRc); exact HO161.out) hb); have n6_ := qH (Kd.R_below (by (with_reducible repeat first | apply zRa | apply zRb | apply zRc); exact HO165.out) hb); have n7_ := qH (Kd.V_below (by (with_reducible repeat first | apply zVa | apply zVb | apply zVc); exact HO170.out) hb); have n8_ := qH (Kd.V_below (by (with_reducible repeat first | apply zVa | apply zVb | apply zVc); exact HO176.out) hb); have n9_ := qH (below_step (by repeat (first | (with_reducible first | exact HB.out | apply qL | apply qJ | apply qK) | exact HB.out)) hb); clear HO131; clear HO139; clear HO142; clear HO152; clear HO155; clear HO161; clear HO165; clear HO170; clear HO176; clear HB; have HO131 := n0_; have HO139 := n1_; have HO142 := n2_; have HO152 := n3_; have HO155 := n4_; have HO161 := n5_; have HO165 := n6_; have HO170 := n7_; have HO176 := n8_; have HB := n9_; clear n0_ n1_ n2_ n3_ n4_ n5_ n6_ n7_ n8_ n9_; (try clear hb); (try clear hb2); (try clear hk); (try clear hi)) | ((with_reducible refine gate_callee (f := 25) rfl ?_); refine goesL_ (some 60) rfl rfl Try.func25 (by kernel_rfl) rfl #[.string (⟨#[101]⟩ : ByteArray)] rfl (by (try simp only [zX, zY, zZ]); first | done | rfl | (simp only [zD, zE]; rfl)) ?_; (with_reducible refine (codicillaw19_node.calls (⟨#[101]⟩ : ByteArray) t180 t181 _ A17.out).mono ?_); rintro e w70 ⟨rfl, hb⟩; refine ⟨_, rfl, ?_⟩; have n0_ := qH (Kd.V_below (by (with_reducible repeat first | apply zVa | apply zVb | apply zVc); exact HO131.out) hb); have n1_ := qH (Kd.R_below (by (with_reducible repeat first | apply zRa | apply zRb | apply zRc); exact HO139.out) hb); have n2_ := qH (Kd.V_below (by (with_reducible repeat first | apply zVa | apply zVb | apply zVc); exact HO142.out) hb); have n3_ := qH (Kd.R_below (by (with_reducible repeat first | apply zRa | apply zRb | apply zRc); exact HO152.out) hb); have n4_ := qH (Kd.V_below (by (with_reducible repeat first | apply zVa | apply zVb | apply zVc); exact HO155.out) hb); have n5_ := qH (Kd.R_below (by (with_reducible repeat first | apply zRa | apply zRb | apply zRc); exact HO161.out) hb); have n6_ := qH (Kd.R_below (by (with_reducible repeat first | apply zRa | apply zRb | apply zRc); exact HO165.out) hb); have n7_ := qH (Kd.V_below (by (with_reducible repeat first | apply zVa | apply zVb | apply zVc); exact HO170.out) hb); have n8_ := qH (Kd.V_below (by (with_reducible repeat first | apply zVa | apply zVb | apply zVc); exact HO176.out) hb); have n9_ := qH (below_step (by repeat (first | (with_reducible first | exact HB.out | apply qL | apply qJ | apply qK) | exact HB.out)) hb); clear HO131; clear HO139; clear HO142; clear HO152; clear HO155; clear HO161; clear HO165; clear HO170; clear HO176; clear HB; have HO131 := n0_; have HO139 := n1_; have HO142 := n2_; have HO152 := n3_; have HO155 := n4_; have HO161 := n5_; have HO165 := n6_; have HO170 := n7_; have HO176 := n8_; have HB := n9_; clear n0_ n1_ n2_ n3_ n4_ n5_ n6_ n7_ n8_ n9_; (try clear hb); (try clear hb2); (try clear hk); (try clear hi)) | ((with_reducible refine gate_dst (N := 61) rfl ?_); (try (refine gate_guard (by rfl) ?_; dsimp only)); refine Kd.R_lit k24 _ 24 ?hg (N := 61) ?hd (xs := ([(⟨t180, t181⟩ : S24)] : List (S24))) (inner := [.string t180, .int .i64 t181]) (ok := fun _ => True) (okp := fun _ => True) ?hr ?hp (fun _ hk => hk) trivial (Below.refl _ _) (Nat.le_refl _) (by simp) ?_; (case hd => rfl); (case hg => rfl); (case hr => first | (go_simp; done) | (go_simp; rfl) | (go_simp; simp [IntKind.wrap_u32]; done)); (case hp => exact (Reps.c2 (show Kd.M k24 _ _ _ (⟨t180, t181⟩ : S24) [.string t180, .int .i64 t181] from (k24_mkM _ _ _ (⟨t180, t181⟩ : S24) )) (Reps.none _ _))); intro v183 w71 ho72 hb hg_ hnew_; clear hg_ hnew_; (first | rw [← Ny182.out] at ho72 | (simp only [Int.reduceToNat] at ho72; rw [← Ny182.out] at ho72)); have n0_ := qH (Kd.V_elder' (by (with_reducible repeat first | apply zVa | apply zVb | apply zVc); exact HO131.out) (Kd.R_base ho72) hb); have n1_ := qH (Kd.R_elder' (by (with_reducible repeat first | apply zRa | apply zRb | apply zRc); exact HO139.out) (Kd.R_base ho72) hb); have n2_ := qH (Kd.V_elder' (by (with_reducible repeat first | apply zVa | apply zVb | apply zVc); exact HO142.out) (Kd.R_base ho72) hb); have n3_ := qH (Kd.R_elder' (by (with_reducible repeat first | apply zRa | apply zRb | apply zRc); exact HO152.out) (Kd.R_base ho72) hb); have n4_ := qH (Kd.V_elder' (by (with_reducible repeat first | apply zVa | apply zVb | apply zVc); exact HO155.out) (Kd.R_base ho72) hb); have n5_ := qH (Kd.R_elder' (by (with_reducible repeat first | apply zRa | apply zRb | apply zRc); exact HO161.out) (Kd.R_base ho72) hb); have n6_ := qH (Kd.R_elder' (by (with_reducible repeat first | apply zRa | apply zRb | apply zRc); exact HO165.out) (Kd.R_base ho72) hb); have n7_ := qH (Kd.V_elder' (by (with_reducible repeat first | apply zVa | apply zVb | apply zVc); exact HO170.out) (Kd.R_base ho72) hb); have n8_ := qH (Kd.V_elder' (by (with_reducible repeat first | apply zVa | apply zVb | apply zVc); exact HO176.out) (Kd.R_base ho72) hb); have n9_ := qH (Kd.R_lower (Kd.R_new' (Kd.R_new' (Kd.R_new' (Kd.R_new' ho72 (Kd.R_lt (by (with_reducible repeat first | apply zRa | apply zRb | apply zRc); exact HO139.out))) (Kd.R_lt (by (with_reducible repeat first | apply zRa | apply zRb | apply zRc); exact HO152.out))) (Kd.R_lt (by (with_reducible repeat first | apply zRa | apply zRb | apply zRc); exact HO161.out))) (Kd.R_lt (by (with_reducible repeat first | apply zRa | apply zRb | apply zRc); exact HO165.out))) (below_size (by repeat (first | (with_reducible first | exact HB.out | apply qL | apply qJ | apply qK) | exact HB.out)))); have n10_ := qH (below_step (by repeat (first | (with_reducible first | exact HB.out | apply qL | apply qJ | apply qK) | exact HB.out)) hb); clear HO131; clear HO139; clear HO142; clear HO152; clear HO155; clear HO161; clear HO165; clear HO170; clear HO176; clear HB; have HO131 := n0_; have HO139 := n1_; have HO142 := n2_; have HO152 := n3_; have HO155 := n4_; have HO161 := n5_; have HO165 := n6_; have HO170 := n7_; have HO176 := n8_; have HO184 := n9_; have HB := n10_; clear n0_ n1_ n2_ n3_ n4_ n5_ n6_ n7_ n8_ n9_ n10_; clear hb ho72; obtain ⟨Ao73, co73, eo73⟩ := Kd.R_slice HO184.out; subst eo73) | ((with_reducible refine gate_callee (f := 19) rfl ?_); refine goesL_ (some 63) rfl rfl Try.func19 (by kernel_rfl) rfl #[.slice Ao62 t153.length co62, .agg #[.string t178, .int .i64 t179, .slice Ao73 y182.length co73]] rfl (by (try simp only [zX, zY, zZ]); first | done | rfl | (simp only [zD, zE]; rfl)) ?_; (with_reducible refine (graph_Add.calls (fun k_ => (((True ∧ some k_ ≠ (.slice Ao63 y159.length co63 : Value).ownBlock) ∧ some k_ ≠ (v164 : Value).ownBlock) ∧ some k_ ≠ (.slice Ao73 y182.length co73 : Value).ownBlock)) _ _ t153 t178 t179 (fun k_ => some k_ = (.slice Ao73 y182.length co73 : Value).ownBlock) _ _ y182 t185 t188 _ ?side1 ?side2 A18.out).mono ?_); (case side1 => exact HO155.out); (case side2 => exact Kd.R_V (Kd.R_tight rfl (HO184.out))); rintro e w74 ⟨v186, rfl, ho0, hb⟩; refine ⟨_, rfl, ?_⟩; have n0_ := qH (Kd.V_below (by (with_reducible repeat first | apply zVa | apply zVb | apply zVc); exact HO131.out) hb); have n1_ := qH (Kd.R_below (by (with_reducible repeat first | apply zRa | apply zRb | apply zRc); exact HO139.out) hb); have n2_ := qH (Kd.V_below (by (with_reducible repeat first | apply zVa | apply zVb | apply zVc); exact HO142.out) hb); have n3_ := qH (Kd.R_below (by (with_reducible repeat first | apply zRa | apply zRb | apply zRc); exact HO152.out) hb); have n4_ := qH (Kd.V_below (by (with_reducible repeat first | apply zVa | apply zVb | apply zVc); exact HO155.out) hb); have n5_ := qH (Kd.R_below (by (with_reducible repeat first | apply zRa | apply zRb | apply zRc); exact HO161.out) hb); have n6_ := qH (Kd.R_below (by (with_reducible repeat first | apply zRa | apply zRb | apply zRc); exact HO165.out) hb); have n7_ := qH (Kd.V_below (by (with_reducible repeat first | apply zVa | apply zVb | apply zVc); exact HO170.out) hb); have n8_ := qH (Kd.V_below (by (with_reducible repeat first | apply zVa | apply zVb | apply zVc); exact HO176.out) hb); have n9_ := qH (Kd.R_below (by (with_reducible repeat first | apply zRa | apply zRb | apply zRc); exact HO184.out) hb); have n10_ := qH (Kd.V_lower (Kd.V_mono (ok' := fun k_ => some k_ ≠ (.slice Ao63 y159.length co63 : Value).ownBlock ∧ some k_ ≠ (v164 : Value).ownBlock) ho0 (fun k_ hk_ => ⟨Or.elim hk_ (fun hs_ => Or.elim hs_ (fun hs_ => hs_.1.1.2) (fun hs_ => ((HO184.out).1 k_ hs_.symm).1.2)) (fun hn_ => (Kd.fresh' (Kd.R_lt (by (with_reducible repeat first | apply zRa | apply zRb | apply zRc); exact HO161.out)) k_ hn_)), Or.elim hk_ (fun hs_ => Or.elim hs_ (fun hs_ => hs_.1.2) (fun hs_ => ((HO184.out).1 k_ hs_.symm).2)) (fun hn_ => (Kd.fresh' (Kd.R_lt (by (with_reducible repeat first | apply zRa | apply zRb | apply zRc); exact HO165.out)) k_ hn_))⟩)) (below_size (by repeat (first | (with_reducible first | exact HB.out | apply qL | apply qJ | apply qK) | exact HB.out)))); have n11_ := qH (below_step (by repeat (first | (with_reducible first | exact HB.out | apply qL | apply qJ | apply qK) | exact HB.out)) hb); clear HO131; clear HO139; clear HO142; clear HO152; clear HO155; clear HO161; clear HO165; clear HO170; clear HO176; clear HO184; clear HB; have HO131 := n0_; have HO139 := n1_; have HO142 := n2_; have HO152 := n3_; have HO155 := n4_; have HO161 := n5_; have HO165 := n6_; have HO170 := n7_; have HO176 := n8_; have HO184 := n9_; have HO187 := n10_; have HB := n11_; clear n0_ n1_ n2_ n3_ n4_ n5_ n6_ n7_ n8_ n9_ n10_ n11_; (try clear hb); (try clear hb2); (try clear hk); (try clear hi); (try clear ho0)))
                have n0_ := qH (Kd.V_drew HO131.out)
                have n1_ := qH (Kd.R_drew HO139.out)
                have n2_ := qH (Kd.V_drew HO142.out)
                have n3_ := qH (Kd.R_drew HO152.out)
                have n4_ := qH (Kd.V_drew HO155.out)
                have n5_ := qH (Kd.R_drew HO161.out)
                have n6_ := qH (Kd.R_drew HO165.out)
                have n7_ := qH (Kd.V_drew HO170.out)
                have n8_ := qH (Kd.V_drew HO176.out)
                have n9_ := qH (Kd.R_drew HO184.out)
                have n10_ := qH (Kd.V_drew HO187.out)
                have n11_ := qH (qK HB.out)
                clear HO131
                clear HO139
                clear HO142
                clear HO152
                clear HO155
                clear HO161
                clear HO165
                clear HO170
                clear HO176
                clear HO184
                clear HO187
                clear HB
                have HO131 := n0_
                have HO139 := n1_
                have HO142 := n2_
                have HO152 := n3_
                have HO155 := n4_
                have HO161 := n5_
                have HO165 := n6_
                have HO170 := n7_
                have HO176 := n8_
                have HO184 := n9_
                have HO187 := n10_
                have HB := n11_
                clear n0_ n1_ n2_ n3_ n4_ n5_ n6_ n7_ n8_ n9_ n10_ n11_
                obtain ⟨Ao76, co76, eo76⟩ := Kd.R_slice HO165.out
                (first | subst eo76 | (injection eo76 with f1_ f2_ f3_; have f4_ := f1_.symm; have f5_ := f3_.symm; clear f1_ f2_ f3_; subst f4_; subst f5_))
                have p189 : 0 ≤ (0 : Int) := (by omega)
                have q189 : 0 < (t162.length : Int) := of_decide_eq_true (by first | (with_reducible assumption) | assumption)
                obtain ⟨ad189, e189, hx189_0, hx189_1⟩ := at_T24 (Kd.R_reads' HO165.out).2.2 0 p189 q189
                cases e189
                have qi189 : (0 < t162.length) = True := eq_true (by omega)
                (try rw [show ((0 : Int)).toNat = 0 from rfl] at hx189_0)
                (try rw [show 0 * 2 = 0 from rfl] at hx189_0)
                (try rw [Addr.add_zero'] at hx189_0)
                (try rw [show ((0 : Int)).toNat = 0 from rfl] at hx189_1)
                (try rw [show 0 * 2 = 0 from rfl] at hx189_1)
                (try rw [Addr.add_zero'] at hx189_1)
                replace p189 := eq_true p189
                replace q189 := eq_true q189
                have p192 : 0 ≤ (2 : Int) := (by omega)
                have q192 : 2 < (t162.length : Int) := of_decide_eq_true (by first | (with_reducible assumption) | assumption)
                obtain ⟨ad192, e192, hx192_0, hx192_1⟩ := at_T24 (Kd.R_reads' HO165.out).2.2 2 p192 q192
                obtain rfl : ad189 = ad192 := (by injection e192)
                (try simp only [show (2 : Int).toNat = 2 from rfl, Nat.reduceMul, Nat.reduceEqDiff, Go.Addr.add, ↓reduceIte] at hx192_0)
                (try simp only [show (2 : Int).toNat = 2 from rfl, Nat.reduceMul, Nat.reduceEqDiff, Go.Addr.add, ↓reduceIte] at hx192_1)
                have qi192 : (2 < t162.length) = True := eq_true (by omega)
                (try rw [show ((2 : Int)).toNat = 2 from rfl] at hx192_0)
                (try rw [show 2 * 2 = 4 from rfl] at hx192_0)
                (try rw [show ((2 : Int)).toNat = 2 from rfl] at hx192_1)
                (try rw [show 2 * 2 = 4 from rfl] at hx192_1)
                replace p192 := eq_true p192
                replace q192 := eq_true q192
                refine start_ (n := 68) (S := fun w' => w'.cell? ad189 = some (.string ((rd_T24 t162 0).f0)) ∧ w'.cell? ⟨ad189.block, ad189.off + 1, none⟩ = some (.int .i64 ((rd_T24 t162 0).f1)) ∧ w'.cell? ⟨ad189.block, ad189.off + 4, none⟩ = some (.string ((rd_T24 t162 2).f0)) ∧ w'.cell? ⟨ad189.block, ad189.off + 4 + 1, none⟩ = some (.int .i64 ((rd_T24 t162 2).f1))) (ds := []) (lb 68 0) (by kernel_rfl) rfl rfl ⟨hx189_0, hx189_1, hx192_0, hx192_1⟩ (fun hHeld => ?_); refine with_tabW codicillaw19_alive.tab8 codicillaw19_alive.bits8 (fun HT_ HW_ => ?_)
                generalize w74.drew = w75 at HO131 HO139 HO142 HO152 HO155 HO161 HO165 HO170 HO176 HO184 HO187 HB hx189_0 hx189_1 hx192_0 hx192_1 hHeld ⊢
                refine pure_ (i := 0) (N := some 66) (v := ?_) (a' := ?_) (lb 68 1) rfl rfl (any_of HT_.out (by kernel_rfl)) (fun _ _ _ h => h) (Or.inl ⟨by rfl, ?_⟩) ?_ ?_
                rotate_left
                ·intro w'
                 go_simp
                 with_reducible rfl
                rotate_left
                ·simp only [Act.put, zS, zT, zU, zV, zW]
                 rfl
                refine pure_ (i := 1) (N := some 67) (v := ?_) (a' := ?_) (lb 68 3) rfl rfl (any_of HT_.out (by kernel_rfl)) (fun _ _ _ h => h) (Or.inl ⟨by rfl, ?_⟩) ?_ ?_
                rotate_left
                ·intro w'
                 go_simp
                 with_reducible rfl
                rotate_left
                ·simp only [Act.put, zS, zT, zU, zV, zW]
                 rfl
                refine pure_ (i := 2) (N := some 68) (v := ?_) (a' := ?_) (lb 68 7) rfl rfl (any_of HT_.out (by kernel_rfl)) (fun _ _ _ h => h) (Or.inl ⟨by rfl, ?_⟩) ?_ ?_
                rotate_left
                ·intro w'
                 go_simp
                 with_reducible rfl
                rotate_left
                ·simp only [Act.put, zS, zT, zU, zV, zW]
                 rfl
                refine pure_ (i := 3) (N := some 69) (v := ?_) (a' := ?_) (lb 68 15) rfl rfl (any_of HT_.out (by kernel_rfl)) (fun _ _ _ h => h) (Or.inl ⟨by rfl, ?_⟩) ?_ ?_
                rotate_left
                ·intro w'
                 go_simp
                 with_reducible rfl
                rotate_left
                ·simp only [Act.put, zS, zT, zU, zV, zW]
                 rfl
                refine pure_ (i := 4) (N := some 70) (v := ?_) (a' := ?_) (lb 68 31) rfl rfl (any_of HT_.out (by kernel_rfl)) (fun _ _ _ h => h) (Or.inl ⟨by rfl, ?_⟩) ?_ ?_
                rotate_left
                ·intro w'
                 go_simp
                 with_reducible rfl
                rotate_left
                ·simp only [Act.put, zS, zT, zU, zV, zW]
                 rfl
                refine pure_ (i := 5) (N := some 71) (v := ?_) (a' := ?_) (lb 68 63) rfl rfl (any_of HT_.out (by kernel_rfl)) (fun _ _ _ h => h) (Or.inl ⟨by rfl, ?_⟩) ?_ ?_
                rotate_left
                ·intro w'
                 go_simp
                 with_reducible rfl
                rotate_left
                ·simp only [Act.put, zS, zT, zU, zV, zW]
                 rfl
                refine pure_ (i := 6) (N := some 72) (v := ?_) (a' := ?_) (lb 68 127) rfl rfl (any_of HT_.out (by kernel_rfl)) (fun _ _ _ h => h) (Or.inl ⟨by rfl, ?_⟩) ?_ ?_
                rotate_left
                ·intro w'
                 go_simp
                 with_reducible rfl
                rotate_left
                ·simp only [Act.put, zS, zT, zU, zV, zW]
                 rfl
                refine pure_ (i := 7) (N := some 73) (v := ?_) (a' := ?_) (lb 68 255) rfl rfl (any_of HT_.out (by kernel_rfl)) (fun _ _ _ h => h) (Or.inl ⟨by rfl, ?_⟩) ?_ ?_
                rotate_left
                ·intro w'
                 go_simp
                 with_reducible rfl
                rotate_left
                ·simp only [Act.put, zS, zT, zU, zV, zW]
                 rfl
                refine pure_ (i := 8) (N := some 74) (v := ?_) (a' := ?_) (lb 68 511) rfl rfl (any_of HT_.out (by kernel_rfl)) (fun _ _ _ h => h) (Or.inl ⟨by rfl, ?_⟩) ?_ ?_
                rotate_left
                ·intro w'
                 go_simp
                 with_reducible rfl
                rotate_left
                ·simp only [Act.put, zS, zT, zU, zV, zW]
                 rfl
                refine pure_ (i := 9) (N := some 75) (v := ?_) (a' := ?_) (lb 68 1023) rfl rfl (any_of HT_.out (by kernel_rfl)) (fun _ _ _ h => h) (Or.inl ⟨by rfl, ?_⟩) ?_ ?_
                rotate_left
                ·intro w'
                 go_simp
                 with_reducible rfl
                rotate_left
                ·simp only [Act.put, zS, zT, zU, zV, zW]
                 rfl
                refine pure_ (i := 10) (N := some 76) (v := ?_) (a' := ?_) (lb 68 2047) rfl rfl (any_of HT_.out (by kernel_rfl)) (fun _ _ _ h => h) (Or.inl ⟨by rfl, ?_⟩) ?_ ?_
                rotate_left
                ·intro w'
                 go_simp
                 with_reducible rfl
                rotate_left
                ·simp only [Act.put, zS, zT, zU, zV, zW]
                 rfl
                refine pure_ (i := 11) (N := some 77) (v := ?_) (a' := ?_) (lb 68 4095) rfl rfl (any_of HT_.out (by kernel_rfl)) (fun _ _ _ h => h) (Or.inl ⟨by rfl, ?_⟩) ?_ ?_
                rotate_left
                ·intro w'
                 go_simp
                 with_reducible rfl
                rotate_left
                ·simp only [Act.put, zS, zT, zU, zV, zW]
                 rfl
                refine pure_ (i := 12) (N := some 78) (v := ?_) (a' := ?_) (lb 68 8191) rfl rfl (any_of HT_.out (by kernel_rfl)) (fun _ _ _ h => h) (Or.inl ⟨by rfl, ?_⟩) ?_ ?_
                rotate_left
                ·intro w'
                 go_simp
                 with_reducible rfl
                rotate_left
                ·simp only [Act.put, zS, zT, zU, zV, zW]
                 rfl
                refine pure_ (i := 13) (N := some 79) (v := ?_) (a' := ?_) (lb 68 16383) rfl rfl (any_of HT_.out (by kernel_rfl)) (fun _ _ _ h => h) (Or.inl ⟨by rfl, ?_⟩) ?_ ?_
                rotate_left
                ·intro w'
                 go_simp
                 with_reducible rfl
                rotate_left
                ·simp only [Act.put, zS, zT, zU, zV, zW]
                 rfl
                refine pure_ (i := 14) (N := some 80) (v := ?_) (a' := ?_) (lb 68 32767) rfl rfl (any_of HT_.out (by kernel_rfl)) (fun _ _ _ h => h) (Or.inl ⟨by rfl, ?_⟩) ?_ ?_
                rotate_left
                ·intro w'
                 go_simp
                 with_reducible rfl
                rotate_left
                ·simp only [Act.put, zS, zT, zU, zV, zW]
                 rfl
                refine pure_ (i := 15) (N := some 81) (v := ?_) (a' := ?_) (lb 68 65535) rfl rfl (any_of HT_.out (by kernel_rfl)) (fun _ _ _ h => h) (Or.inl ⟨by rfl, ?_⟩) ?_ ?_
                rotate_left
                ·intro w'
                 go_simp
                 with_reducible rfl
                rotate_left
                ·simp only [Act.put, zS, zT, zU, zV, zW]
                 rfl
                refine pure_ (i := 16) (N := some 82) (v := ?_) (a' := ?_) (lb 68 131071) rfl rfl (any_of HT_.out (by kernel_rfl)) (fun _ _ _ h => h) (Or.inl ⟨by rfl, ?_⟩) ?_ ?_
                rotate_left
                ·intro w'
                 go_simp
                 with_reducible rfl
                rotate_left
                ·simp only [Act.put, zS, zT, zU, zV, zW]
                 rfl
                refine pure_ (i := 17) (N := some 83) (v := ?_) (a' := ?_) (lb 68 262143) rfl rfl (any_of HT_.out (by kernel_rfl)) (fun _ _ _ h => h) (Or.inl ⟨by rfl, ?_⟩) ?_ ?_
                rotate_left
                ·intro w'
                 go_simp
                 with_reducible rfl
                rotate_left
                ·simp only [Act.put, zS, zT, zU, zV, zW]
                 rfl
                refine take_ (i := 18) (N := some 84) (v := ?_) (a' := ?_) (lb 68 524287) rfl rfl (take_ofW HT_.out HW_.out (by kernel_rfl)) (fun _ _ _ h => h) (Or.inl ⟨by rfl, ?_⟩) hHeld ?_ ?_
                rotate_left
                ·rintro w' ⟨s0, s1, s2, s3⟩
                 go_simp
                 with_reducible rfl
                rotate_left
                ·simp only [Act.put, zS, zT, zU, zV, zW]
                 rfl
                refine one_ (i := 19) (N := some 85) (lb 68 1048575) rfl rfl (one_of HT_.out (by kernel_rfl)) (by decide) (fun K hK => ?_)
                refine goes_ Try.func25 (by kernel_rfl) rfl #[.string (⟨#[97]⟩ : ByteArray)] (by rfl) rfl rfl (by (try simp only [zX, zY, zZ]); first | done | rfl | (simp only [zD, zE]; rfl)) ?_
                with_reducible refine (codicillaw19_node.calls (⟨#[97]⟩ : ByteArray) t190 t191 _ A24.out).mono ?_
                rintro e w77 ⟨rfl, hb⟩
                have HS0_ := (hb.cell (qO _ _ (hHeld.1))).trans (hHeld.1)
                have HS1_ := (hb.cell (qO _ _ (hHeld.2.1))).trans (hHeld.2.1)
                have HS2_ := (hb.cell (qO _ _ (hHeld.2.2.1))).trans (hHeld.2.2.1)
                have HS3_ := (hb.cell (qO _ _ (hHeld.2.2.2))).trans (hHeld.2.2.2)
                refine ⟨_, rfl, ?_⟩
                have n0_ := qH (Kd.V_below (by (with_reducible repeat first | apply zVa | apply zVb | apply zVc); exact HO131.out) hb)
                have n1_ := qH (Kd.R_below (by (with_reducible repeat first | apply zRa | apply zRb | apply zRc); exact HO139.out) hb)
                have n2_ := qH (Kd.V_below (by (with_reducible repeat first | apply zVa | apply zVb | apply zVc); exact HO142.out) hb)
                have n3_ := qH (Kd.R_below (by (with_reducible repeat first | apply zRa | apply zRb | apply zRc); exact HO152.out) hb)
                have n4_ := qH (Kd.V_below (by (with_reducible repeat first | apply zVa | apply zVb | apply zVc); exact HO155.out) hb)
                have n5_ := qH (Kd.R_below (by (with_reducible repeat first | apply zRa | apply zRb | apply zRc); exact HO161.out) hb)
                have n6_ := qH (Kd.R_below (by (with_reducible repeat first | apply zRa | apply zRb | apply zRc); exact HO165.out) hb)
                have n7_ := qH (Kd.V_below (by (with_reducible repeat first | apply zVa | apply zVb | apply zVc); exact HO170.out) hb)
                have n8_ := qH (Kd.V_below (by (with_reducible repeat first | apply zVa | apply zVb | apply zVc); exact HO176.out) hb)
                have n9_ := qH (Kd.R_below (by (with_reducible repeat first | apply zRa | apply zRb | apply zRc); exact HO184.out) hb)
                have n10_ := qH (Kd.V_below (by (with_reducible repeat first | apply zVa | apply zVb | apply zVc); exact HO187.out) hb)
                have n11_ := qH (below_step (by repeat (first | (with_reducible first | exact HB.out | apply qL | apply qJ | apply qK) | exact HB.out)) hb)
                clear HO131
                clear HO139
                clear HO142
                clear HO152
                clear HO155
                clear HO161
                clear HO165
                clear HO170
                clear HO176
                clear HO184
                clear HO187
                clear HB
                have HO131 := n0_
                have HO139 := n1_
                have HO142 := n2_
                have HO152 := n3_
                have HO155 := n4_
                have HO161 := n5_
                have HO165 := n6_
                have HO170 := n7_
                have HO176 := n8_
                have HO184 := n9_
                have HO187 := n10_
                have HB := n11_
                clear n0_ n1_ n2_ n3_ n4_ n5_ n6_ n7_ n8_ n9_ n10_ n11_
                (try clear hb)
                (try clear hb2)
                (try clear hk)
                (try clear hi)
                refine hK.out _ _ ⟨HS0_, HS1_, HS2_, HS3_⟩ (fun hHeld => ?_)
                clear hK K
                refine norm_ (a' := ?_) ?_ ?_
                rotate_left
                ·show Act.put _ (some 85) _ = _
                 simp only [Act.put, zS, zT, zU, zV, zW]
                 rfl
                refine pure_ (i := 20) (N := some 86) (v := ?_) (a' := ?_) (lb 68 2097151) rfl rfl (any_of HT_.out (by kernel_rfl)) (fun _ _ _ h => h) (Or.inl ⟨by rfl, ?_⟩) ?_ ?_
                rotate_left
                ·intro w'
                 go_simp
                 with_reducible rfl
                rotate_left
                ·simp only [Act.put, zS, zT, zU, zV, zW]
                 rfl
                refine pure_ (i := 21) (N := some 87) (v := ?_) (a' := ?_) (lb 68 4194303) rfl rfl (any_of HT_.out (by kernel_rfl)) (fun _ _ _ h => h) (Or.inl ⟨by rfl, ?_⟩) ?_ ?_
                rotate_left
                ·intro w'
                 go_simp
                 with_reducible rfl
                rotate_left
                ·simp only [Act.put, zS, zT, zU, zV, zW]
                 rfl
                refine pure_ (i := 22) (N := some 88) (v := ?_) (a' := ?_) (lb 68 8388607) rfl rfl (any_of HT_.out (by kernel_rfl)) (fun _ _ _ h => h) (Or.inl ⟨by rfl, ?_⟩) ?_ ?_
                rotate_left
                ·intro w'
                 go_simp
                 with_reducible rfl
                rotate_left
                ·simp only [Act.put, zS, zT, zU, zV, zW]
                 rfl
                refine pure_ (i := 23) (N := some 89) (v := ?_) (a' := ?_) (lb 68 16777215) rfl rfl (any_of HT_.out (by kernel_rfl)) (fun _ _ _ h => h) (Or.inl ⟨by rfl, ?_⟩) ?_ ?_
                rotate_left
                ·intro w'
                 go_simp
                 with_reducible rfl
                rotate_left
                ·simp only [Act.put, zS, zT, zU, zV, zW]
                 rfl
                refine pure_ (i := 24) (N := some 90) (v := ?_) (a' := ?_) (lb 68 33554431) rfl rfl (any_of HT_.out (by kernel_rfl)) (fun _ _ _ h => h) (Or.inl ⟨by rfl, ?_⟩) ?_ ?_
                rotate_left
                ·intro w'
                 go_simp
                 with_reducible rfl
                rotate_left
                ·simp only [Act.put, zS, zT, zU, zV, zW]
                 rfl
                refine take_ (i := 25) (N := some 91) (v := ?_) (a' := ?_) (lb 68 67108863) rfl rfl (take_ofW HT_.out HW_.out (by kernel_rfl)) (fun _ _ _ h => h) (Or.inl ⟨by rfl, ?_⟩) hHeld ?_ ?_
                rotate_left
                ·rintro w' ⟨s0, s1, s2, s3⟩
                 go_simp
                 with_reducible rfl
                rotate_left
                ·simp only [Act.put, zS, zT, zU, zV, zW]
                 rfl
                refine one_ (i := 26) (N := some 92) (lb 68 134217727) rfl rfl (one_of HT_.out (by kernel_rfl)) (by decide) (fun K hK => ?_)
                refine goes_ Try.func25 (by kernel_rfl) rfl #[.string (⟨#[99]⟩ : ByteArray)] (by rfl) rfl rfl (by (try simp only [zX, zY, zZ]); first | done | rfl | (simp only [zD, zE]; rfl)) ?_
                with_reducible refine (codicillaw19_node.calls (⟨#[99]⟩ : ByteArray) t193 t194 _ A27.out).mono ?_
                rintro e w78 ⟨rfl, hb⟩
                have HS0_ := (hb.cell (qO _ _ (hHeld.1))).trans (hHeld.1)
                have HS1_ := (hb.cell (qO _ _ (hHeld.2.1))).trans (hHeld.2.1)
                have HS2_ := (hb.cell (qO _ _ (hHeld.2.2.1))).trans (hHeld.2.2.1)
                have HS3_ := (hb.cell (qO _ _ (hHeld.2.2.2))).trans (hHeld.2.2.2)
                refine ⟨_, rfl, ?_⟩
                have n0_ := qH (Kd.V_below (by (with_reducible repeat first | apply zVa | apply zVb | apply zVc); exact HO131.out) hb)
                have n1_ := qH (Kd.R_below (by (with_reducible repeat first | apply zRa | apply zRb | apply zRc); exact HO139.out) hb)
                have n2_ := qH (Kd.V_below (by (with_reducible repeat first | apply zVa | apply zVb | apply zVc); exact HO142.out) hb)
                have n3_ := qH (Kd.R_below (by (with_reducible repeat first | apply zRa | apply zRb | apply zRc); exact HO152.out) hb)
                have n4_ := qH (Kd.V_below (by (with_reducible repeat first | apply zVa | apply zVb | apply zVc); exact HO155.out) hb)
                have n5_ := qH (Kd.R_below (by (with_reducible repeat first | apply zRa | apply zRb | apply zRc); exact HO161.out) hb)
                have n6_ := qH (Kd.R_below (by (with_reducible repeat first | apply zRa | apply zRb | apply zRc); exact HO165.out) hb)
                have n7_ := qH (Kd.V_below (by (with_reducible repeat first | apply zVa | apply zVb | apply zVc); exact HO170.out) hb)
                have n8_ := qH (Kd.V_below (by (with_reducible repeat first | apply zVa | apply zVb | apply zVc); exact HO176.out) hb)
                have n9_ := qH (Kd.R_below (by (with_reducible repeat first | apply zRa | apply zRb | apply zRc); exact HO184.out) hb)
                have n10_ := qH (Kd.V_below (by (with_reducible repeat first | apply zVa | apply zVb | apply zVc); exact HO187.out) hb)
                have n11_ := qH (below_step (by repeat (first | (with_reducible first | exact HB.out | apply qL | apply qJ | apply qK) | exact HB.out)) hb)
                clear HO131
                clear HO139
                clear HO142
                clear HO152
                clear HO155
                clear HO161
                clear HO165
                clear HO170
                clear HO176
                clear HO184
                clear HO187
                clear HB
                have HO131 := n0_
                have HO139 := n1_
                have HO142 := n2_
                have HO152 := n3_
                have HO155 := n4_
                have HO161 := n5_
                have HO165 := n6_
                have HO170 := n7_
                have HO176 := n8_
                have HO184 := n9_
                have HO187 := n10_
                have HB := n11_
                clear n0_ n1_ n2_ n3_ n4_ n5_ n6_ n7_ n8_ n9_ n10_ n11_
                (try clear hb)
                (try clear hb2)
                (try clear hk)
                (try clear hi)
                obtain ⟨Ao79, co79, eo79⟩ := Kd.V_slice HO176.out
                (first | subst eo79 | (injection eo79 with f1_ f2_ f3_; have f4_ := f1_.symm; have f5_ := f3_.symm; clear f1_ f2_ f3_; subst f4_; subst f5_))
                refine hK.out _ _ ⟨HS0_, HS1_, HS2_, HS3_⟩ (fun hHeld => ?_)
                clear hK K
                refine norm_ (a' := ?_) ?_ ?_
                rotate_left
                ·show Act.put _ (some 92) _ = _
                 simp only [Act.put, zS, zT, zU, zV, zW]
                 rfl
                refine pure_ (i := 27) (N := some 93) (v := ?_) (a' := ?_) (lb 68 268435455) rfl rfl (any_of HT_.out (by kernel_rfl)) (fun _ _ _ h => h) (Or.inl ⟨by rfl, ?_⟩) ?_ ?_
                rotate_left
                ·intro w'
                 go_simp
                 with_reducible rfl
                rotate_left
                ·simp only [Act.put, zS, zT, zU, zV, zW]
                 rfl
                refine pure_ (i := 28) (N := some 94) (v := ?_) (a' := ?_) (lb 68 536870911) rfl rfl (any_of HT_.out (by kernel_rfl)) (fun _ _ _ h => h) (Or.inl ⟨by rfl, ?_⟩) ?_ ?_
                rotate_left
                ·intro w'
                 go_simp
                 with_reducible rfl
                rotate_left
                ·simp only [Act.put, zS, zT, zU, zV, zW]
                 rfl
                refine pure_ (i := 29) (N := some 95) (v := ?_) (a' := ?_) (lb 68 1073741823) rfl rfl (any_of HT_.out (by kernel_rfl)) (fun _ _ _ h => h) (Or.inl ⟨by rfl, ?_⟩) ?_ ?_
                rotate_left
                ·intro w'
                 go_simp
                 with_reducible rfl
                rotate_left
                ·simp only [Act.put, zS, zT, zU, zV, zW]
                 rfl
                refine pure_ (i := 30) (N := some 96) (v := ?_) (a' := ?_) (lb 68 2147483647) rfl rfl (any_of HT_.out (by kernel_rfl)) (fun _ _ _ h => h) (Or.inl ⟨by rfl, ?_⟩) ?_ ?_
                rotate_left
                ·intro w'
                 go_simp
                 with_reducible rfl
                rotate_left
                ·simp only [Act.put, zS, zT, zU, zV, zW]
                 rfl
                refine pure_ (i := 31) (N := some 97) (v := ?_) (a' := ?_) (lb 68 4294967295) rfl rfl (any_of HT_.out (by kernel_rfl)) (fun _ _ _ h => h) (Or.inl ⟨by rfl, ?_⟩) ?_ ?_
                rotate_left
                ·intro w'
                 go_simp
                 with_reducible rfl
                rotate_left
                ·simp only [Act.put, zS, zT, zU, zV, zW]
                 rfl
                refine pure_ (i := 32) (N := some 98) (v := ?_) (a' := ?_) (lb 68 8589934591) rfl rfl (any_of HT_.out (by kernel_rfl)) (fun _ _ _ h => h) (Or.inl ⟨by rfl, ?_⟩) ?_ ?_
                rotate_left
                ·intro w'
                 go_simp
                 with_reducible rfl
                rotate_left
                ·simp only [Act.put, zS, zT, zU, zV, zW]
                 rfl
                refine pure_ (i := 33) (N := some 99) (v := ?_) (a' := ?_) (lb 68 17179869183) rfl rfl (any_of HT_.out (by kernel_rfl)) (fun _ _ _ h => h) (Or.inl ⟨by rfl, ?_⟩) ?_ ?_
                rotate_left
                ·intro w'
                 go_simp
                 with_reducible rfl
                rotate_left
                ·simp only [Act.put, zS, zT, zU, zV, zW]
                 rfl
                refine pure_ (i := 34) (N := some 100) (v := ?_) (a' := ?_) (lb 68 34359738367) rfl rfl (any_of HT_.out (by kernel_rfl)) (fun _ _ _ h => h) (Or.inl ⟨by rfl, ?_⟩) ?_ ?_
                rotate_left
                ·intro w'
                 go_simp
                 with_reducible rfl
                rotate_left
                ·simp only [Act.put, zS, zT, zU, zV, zW]
                 rfl
                refine pure_ (i := 35) (N := some 101) (v := ?_) (a' := ?_) (lb 68 68719476735) rfl rfl (any_of HT_.out (by kernel_rfl)) (fun _ _ _ h => h) (Or.inl ⟨by rfl, ?_⟩) ?_ ?_
                rotate_left
                ·intro w'
                 go_simp
                 with_reducible rfl
                rotate_left
                ·simp only [Act.put, zS, zT, zU, zV, zW]
                 rfl
                refine pure_ (i := 36) (N := some 102) (v := ?_) (a' := ?_) (lb 68 137438953471) rfl rfl (any_of HT_.out (by kernel_rfl)) (fun _ _ _ h => h) (Or.inl ⟨by rfl, ?_⟩) ?_ ?_
                rotate_left
                ·intro w'
                 go_simp
                 with_reducible rfl
                rotate_left
                ·simp only [Act.put, zS, zT, zU, zV, zW]
                 rfl
                refine pure_ (i := 37) (N := some 103) (v := ?_) (a' := ?_) (lb 68 274877906943) rfl rfl (any_of HT_.out (by kernel_rfl)) (fun _ _ _ h => h) (Or.inl ⟨by rfl, ?_⟩) ?_ ?_
                rotate_left
                ·intro w'
                 go_simp
                 with_reducible rfl
                rotate_left
                ·simp only [Act.put, zS, zT, zU, zV, zW]
                 rfl
                refine pure_ (i := 38) (N := some 104) (v := ?_) (a' := ?_) (lb 68 549755813887) rfl rfl (any_of HT_.out (by kernel_rfl)) (fun _ _ _ h => h) (Or.inl ⟨by rfl, ?_⟩) ?_ ?_
                rotate_left
                ·intro w'
                 go_simp
                 with_reducible rfl
                rotate_left
                ·simp only [Act.put, zS, zT, zU, zV, zW]
                 rfl
                refine pure_ (i := 39) (N := some 105) (v := ?_) (a' := ?_) (lb 68 1099511627775) rfl rfl (any_of HT_.out (by kernel_rfl)) (fun _ _ _ h => h) (Or.inl ⟨by rfl, ?_⟩) ?_ ?_
                rotate_left
                ·intro w'
                 go_simp
                 with_reducible rfl
                rotate_left
                ·simp only [Act.put, zS, zT, zU, zV, zW]
                 rfl
                refine pure_ (i := 40) (N := some 106) (v := ?_) (a' := ?_) (lb 68 2199023255551) rfl rfl (any_of HT_.out (by kernel_rfl)) (fun _ _ _ h => h) (Or.inl ⟨by rfl, ?_⟩) ?_ ?_
                rotate_left
                ·intro w'
                 go_simp
                 with_reducible rfl
                rotate_left
                ·simp only [Act.put, zS, zT, zU, zV, zW]
                 rfl
                refine pure_ (i := 41) (N := some 107) (v := ?_) (a' := ?_) (lb 68 4398046511103) rfl rfl (any_of HT_.out (by kernel_rfl)) (fun _ _ _ h => h) (Or.inl ⟨by rfl, ?_⟩) ?_ ?_
                rotate_left
                ·intro w'
                 go_simp
                 with_reducible rfl
                rotate_left
                ·simp only [Act.put, zS, zT, zU, zV, zW]
                 rfl
                refine pure_ (i := 42) (N := some 108) (v := ?_) (a' := ?_) (lb 68 8796093022207) rfl rfl (any_of HT_.out (by kernel_rfl)) (fun _ _ _ h => h) (Or.inl ⟨by rfl, ?_⟩) ?_ ?_
                rotate_left
                ·intro w'
                 go_simp
                 with_reducible rfl
                rotate_left
                ·simp only [Act.put, zS, zT, zU, zV, zW]
                 rfl
                refine pure_ (i := 43) (N := some 109) (v := ?_) (a' := ?_) (lb 68 17592186044415) rfl rfl (any_of HT_.out (by kernel_rfl)) (fun _ _ _ h => h) (Or.inl ⟨by rfl, ?_⟩) ?_ ?_
                rotate_left
                ·intro w'
                 go_simp
                 with_reducible rfl
                rotate_left
                ·simp only [Act.put, zS, zT, zU, zV, zW]
                 rfl
                refine pure_ (i := 44) (N := some 110) (v := ?_) (a' := ?_) (lb 68 35184372088831) rfl rfl (any_of HT_.out (by kernel_rfl)) (fun _ _ _ h => h) (Or.inl ⟨by rfl, ?_⟩) ?_ ?_
                rotate_left
                ·intro w'
                 go_simp
                 with_reducible rfl
                rotate_left
                ·simp only [Act.put, zS, zT, zU, zV, zW]
                 rfl
                refine pure_ (i := 45) (N := some 111) (v := ?_) (a' := ?_) (lb 68 70368744177663) rfl rfl (any_of HT_.out (by kernel_rfl)) (fun _ _ _ h => h) (Or.inl ⟨by rfl, ?_⟩) ?_ ?_
                rotate_left
                ·intro w'
                 go_simp
                 with_reducible rfl
                rotate_left
                ·simp only [Act.put, zS, zT, zU, zV, zW]
                 rfl
                refine pure_ (i := 46) (N := some 112) (v := ?_) (a' := ?_) (lb 68 140737488355327) rfl rfl (any_of HT_.out (by kernel_rfl)) (fun _ _ _ h => h) (Or.inl ⟨by rfl, ?_⟩) ?_ ?_
                rotate_left
                ·intro w'
                 go_simp
                 with_reducible rfl
                rotate_left
                ·simp only [Act.put, zS, zT, zU, zV, zW]
                 rfl
                refine pure_ (i := 47) (N := some 113) (v := ?_) (a' := ?_) (lb 68 281474976710655) rfl rfl (any_of HT_.out (by kernel_rfl)) (fun _ _ _ h => h) (Or.inl ⟨by rfl, ?_⟩) ?_ ?_
                rotate_left
                ·intro w'
                 go_simp
                 with_reducible rfl
                rotate_left
                ·simp only [Act.put, zS, zT, zU, zV, zW]
                 rfl
                refine pure_ (i := 48) (N := some 114) (v := ?_) (a' := ?_) (lb 68 562949953421311) rfl rfl (any_of HT_.out (by kernel_rfl)) (fun _ _ _ h => h) (Or.inl ⟨by rfl, ?_⟩) ?_ ?_
                rotate_left
                ·intro w'
                 go_simp
                 with_reducible rfl
                rotate_left
                ·simp only [Act.put, zS, zT, zU, zV, zW]
                 rfl
                refine pure_ (i := 49) (N := some 115) (v := ?_) (a' := ?_) (lb 68 1125899906842623) rfl rfl (any_of HT_.out (by kernel_rfl)) (fun _ _ _ h => h) (Or.inl ⟨by rfl, ?_⟩) ?_ ?_
                rotate_left
                ·intro w'
                 go_simp
                 with_reducible rfl
                rotate_left
                ·simp only [Act.put, zS, zT, zU, zV, zW]
                 rfl
                refine pure_ (i := 50) (N := some 116) (v := ?_) (a' := ?_) (lb 68 2251799813685247) rfl rfl (any_of HT_.out (by kernel_rfl)) (fun _ _ _ h => h) (Or.inl ⟨by rfl, ?_⟩) ?_ ?_
                rotate_left
                ·intro w'
                 go_simp
                 with_reducible rfl
                rotate_left
                ·simp only [Act.put, zS, zT, zU, zV, zW]
                 rfl
                refine pure_ (i := 51) (N := some 117) (v := ?_) (a' := ?_) (lb 68 4503599627370495) rfl rfl (any_of HT_.out (by kernel_rfl)) (fun _ _ _ h => h) (Or.inl ⟨by rfl, ?_⟩) ?_ ?_
                rotate_left
                ·intro w'
                 go_simp
                 with_reducible rfl
                rotate_left
                ·simp only [Act.put, zS, zT, zU, zV, zW]
                 rfl
                refine one_ (i := 52) (N := some 118) (lb 68 9007199254740991) rfl rfl (one_of HT_.out (by kernel_rfl)) (by decide) (fun K hK => ?_)
                refine goes_ Try.func13 (by kernel_rfl) rfl #[.slice Ao62 t153.length co62] (by rfl) rfl rfl (by (try simp only [zX, zY, zZ]); first | done | rfl | (simp only [zD, zE]; rfl)) ?_
                with_reducible refine (graph_May.calls _ _ t153 t195 _ ?side1 ?side2 A34.out).mono ?_
                (case side1 => repeat (first | exact (Kd.V_reads' HO155.out).2.2 | (with_reducible refine Kd.C_alloc ?_ _) | (with_reducible refine Kd.C_drewN ?_ _) | (with_reducible refine Kd.C_drew ?_)))
                (case side2 => exact (Kd.V_reads' HO155.out).2.1)
                rintro e w80 ⟨rfl, hb⟩
                have HS0_ := (hb.cell (qO _ _ (hHeld.1))).trans (hHeld.1)
                have HS1_ := (hb.cell (qO _ _ (hHeld.2.1))).trans (hHeld.2.1)
                have HS2_ := (hb.cell (qO _ _ (hHeld.2.2.1))).trans (hHeld.2.2.1)
                have HS3_ := (hb.cell (qO _ _ (hHeld.2.2.2))).trans (hHeld.2.2.2)
                refine ⟨_, rfl, ?_⟩
                have n0_ := qH (Kd.V_below (by (with_reducible repeat first | apply zVa | apply zVb | apply zVc); exact HO131.out) hb)
                have n1_ := qH (Kd.R_below (by (with_reducible repeat first | apply zRa | apply zRb | apply zRc); exact HO139.out) hb)
                have n2_ := qH (Kd.V_below (by (with_reducible repeat first | apply zVa | apply zVb | apply zVc); exact HO142.out) hb)
                have n3_ := qH (Kd.R_below (by (with_reducible repeat first | apply zRa | apply zRb | apply zRc); exact HO152.out) hb)
                have n4_ := qH (Kd.V_below (by (with_reducible repeat first | apply zVa | apply zVb | apply zVc); exact HO155.out) hb)
                have n5_ := qH (Kd.R_below (by (with_reducible repeat first | apply zRa | apply zRb | apply zRc); exact HO161.out) hb)
                have n6_ := qH (Kd.R_below (by (with_reducible repeat first | apply zRa | apply zRb | apply zRc); exact HO165.out) hb)
                have n7_ := qH (Kd.V_below (by (with_reducible repeat first | apply zVa | apply zVb | apply zVc); exact HO170.out) hb)
                have n8_ := qH (Kd.V_below (by (with_reducible repeat first | apply zVa | apply zVb | apply zVc); exact HO176.out) hb)
                have n9_ := qH (Kd.R_below (by (with_reducible repeat first | apply zRa | apply zRb | apply zRc); exact HO184.out) hb)
                have n10_ := qH (Kd.V_below (by (with_reducible repeat first | apply zVa | apply zVb | apply zVc); exact HO187.out) hb)
                have n11_ := qH (below_step (by repeat (first | (with_reducible first | exact HB.out | apply qL | apply qJ | apply qK) | exact HB.out)) hb)
                clear HO131
                clear HO139
                clear HO142
                clear HO152
                clear HO155
                clear HO161
                clear HO165
                clear HO170
                clear HO176
                clear HO184
                clear HO187
                clear HB
                have HO131 := n0_
                have HO139 := n1_
                have HO142 := n2_
                have HO152 := n3_
                have HO155 := n4_
                have HO161 := n5_
                have HO165 := n6_
                have HO170 := n7_
                have HO176 := n8_
                have HO184 := n9_
                have HO187 := n10_
                have HB := n11_
                clear n0_ n1_ n2_ n3_ n4_ n5_ n6_ n7_ n8_ n9_ n10_ n11_
                (try clear hb)
                (try clear hb2)
                (try clear hk)
                (try clear hi)
                refine hK.out _ _ ⟨HS0_, HS1_, HS2_, HS3_⟩ (fun hHeld => ?_)
                clear hK K
                refine norm_ (a' := ?_) ?_ ?_
                rotate_left
                ·show Act.put _ (some 118) _ = _
                 simp only [Act.put, zS, zT, zU, zV, zW]
                 rfl
                refine pure_ (i := 53) (N := some 119) (v := ?_) (a' := ?_) (lb 68 18014398509481983) rfl rfl (any_of HT_.out (by kernel_rfl)) (fun _ _ _ h => h) (Or.inl ⟨by rfl, ?_⟩) ?_ ?_
                rotate_left
                ·intro w'
                 go_simp
                 with_reducible rfl
                rotate_left
                ·simp only [Act.put, zS, zT, zU, zV, zW]
                 rfl
                refine pure_ (i := 54) (N := some 120) (v := ?_) (a' := ?_) (lb 68 36028797018963967) rfl rfl (any_of HT_.out (by kernel_rfl)) (fun _ _ _ h => h) (Or.inl ⟨by rfl, ?_⟩) ?_ ?_
                rotate_left
                ·intro w'
                 go_simp
                 with_reducible rfl
                rotate_left
                ·simp only [Act.put, zS, zT, zU, zV, zW]
                 rfl
                refine pure_ (i := 55) (N := some 121) (v := ?_) (a' := ?_) (lb 68 72057594037927935) rfl rfl (any_of HT_.out (by kernel_rfl)) (fun _ _ _ h => h) (Or.inl ⟨by rfl, ?_⟩) ?_ ?_
                rotate_left
                ·intro w'
                 go_simp
                 with_reducible rfl
                rotate_left
                ·simp only [Act.put, zS, zT, zU, zV, zW]
                 rfl
                refine pure_ (i := 56) (N := some 122) (v := ?_) (a' := ?_) (lb 68 144115188075855871) rfl rfl (any_of HT_.out (by kernel_rfl)) (fun _ _ _ h => h) (Or.inl ⟨by rfl, ?_⟩) ?_ ?_
                rotate_left
                ·intro w'
                 go_simp
                 with_reducible rfl
                rotate_left
                ·simp only [Act.put, zS, zT, zU, zV, zW]
                 rfl
                refine one_ (i := 57) (N := some 123) (lb 68 288230376151711743) rfl rfl (one_of HT_.out (by kernel_rfl)) (by decide) (fun K hK => ?_)
                refine goes_ Try.func25 (by kernel_rfl) rfl #[.string (⟨#[97]⟩ : ByteArray)] (by rfl) rfl rfl (by (try simp only [zX, zY, zZ]); first | done | rfl | (simp only [zD, zE]; rfl)) ?_
                with_reducible refine (codicillaw19_node.calls (⟨#[97]⟩ : ByteArray) t196 t197 _ A36.out).mono ?_
                rintro e w81 ⟨rfl, hb⟩
                have HS0_ := (hb.cell (qO _ _ (hHeld.1))).trans (hHeld.1)
                have HS1_ := (hb.cell (qO _ _ (hHeld.2.1))).trans (hHeld.2.1)
                have HS2_ := (hb.cell (qO _ _ (hHeld.2.2.1))).trans (hHeld.2.2.1)
                have HS3_ := (hb.cell (qO _ _ (hHeld.2.2.2))).trans (hHeld.2.2.2)
                refine ⟨_, rfl, ?_⟩
                have n0_ := qH (Kd.V_below (by (with_reducible repeat first | apply zVa | apply zVb | apply zVc); exact HO131.out) hb)
                have n1_ := qH (Kd.R_below (by (with_reducible repeat first | apply zRa | apply zRb | apply zRc); exact HO139.out) hb)
                have n2_ := qH (Kd.V_below (by (with_reducible repeat first | apply zVa | apply zVb | apply zVc); exact HO142.out) hb)
                have n3_ := qH (Kd.R_below (by (with_reducible repeat first | apply zRa | apply zRb | apply zRc); exact HO152.out) hb)
                have n4_ := qH (Kd.V_below (by (with_reducible repeat first | apply zVa | apply zVb | apply zVc); exact HO155.out) hb)
                have n5_ := qH (Kd.R_below (by (with_reducible repeat first | apply zRa | apply zRb | apply zRc); exact HO161.out) hb)
                have n6_ := qH (Kd.R_below (by (with_reducible repeat first | apply zRa | apply zRb | apply zRc); exact HO165.out) hb)
                have n7_ := qH (Kd.V_below (by (with_reducible repeat first | apply zVa | apply zVb | apply zVc); exact HO170.out) hb)
                have n8_ := qH (Kd.V_below (by (with_reducible repeat first | apply zVa | apply zVb | apply zVc); exact HO176.out) hb)
                have n9_ := qH (Kd.R_below (by (with_reducible repeat first | apply zRa | apply zRb | apply zRc); exact HO184.out) hb)
                have n10_ := qH (Kd.V_below (by (with_reducible repeat first | apply zVa | apply zVb | apply zVc); exact HO187.out) hb)
                have n11_ := qH (below_step (by repeat (first | (with_reducible first | exact HB.out | apply qL | apply qJ | apply qK) | exact HB.out)) hb)
                clear HO131
                clear HO139
                clear HO142
                clear HO152
                clear HO155
                clear HO161
                clear HO165
                clear HO170
                clear HO176
                clear HO184
                clear HO187
                clear HB
                have HO131 := n0_
                have HO139 := n1_
                have HO142 := n2_
                have HO152 := n3_
                have HO155 := n4_
                have HO161 := n5_
                have HO165 := n6_
                have HO170 := n7_
                have HO176 := n8_
                have HO184 := n9_
                have HO187 := n10_
                have HB := n11_
                clear n0_ n1_ n2_ n3_ n4_ n5_ n6_ n7_ n8_ n9_ n10_ n11_
                (try clear hb)
                (try clear hb2)
                (try clear hk)
                (try clear hi)
                refine hK.out _ _ ⟨HS0_, HS1_, HS2_, HS3_⟩ (fun hHeld => ?_)
                clear hK K
                refine norm_ (a' := ?_) ?_ ?_
                rotate_left
                ·show Act.put _ (some 123) _ = _
                 simp only [Act.put, zS, zT, zU, zV, zW]
                 rfl
                refine one_ (i := 58) (N := some 124) (lb 68 576460752303423487) rfl rfl (one_of HT_.out (by kernel_rfl)) (by decide) (fun K hK => ?_)
                refine goes_ Try.func16 (by kernel_rfl) rfl #[.slice Ao62 t153.length co62, .agg #[.string t196, .int .i64 t197]] (by rfl) rfl rfl (by (try simp only [zX, zY, zZ]); first | done | rfl | (simp only [zD, zE]; rfl)) ?_
                with_reducible refine (graph_Users.calls k _ _ t153 t196 t197 t198 _ ?side1 ?side2 A37.out).mono ?_
                (case side1 => repeat (first | exact (Kd.V_reads' HO155.out).2.2 | (with_reducible refine Kd.C_alloc ?_ _) | (with_reducible refine Kd.C_drewN ?_ _) | (with_reducible refine Kd.C_drew ?_)))
                (case side2 => exact (Kd.V_reads' HO155.out).2.1)
                rintro e w82 ⟨v199, rfl, ho0, hb⟩
                have HS0_ := (hb.cell (qO _ _ (hHeld.1))).trans (hHeld.1)
                have HS1_ := (hb.cell (qO _ _ (hHeld.2.1))).trans (hHeld.2.1)
                have HS2_ := (hb.cell (qO _ _ (hHeld.2.2.1))).trans (hHeld.2.2.1)
                have HS3_ := (hb.cell (qO _ _ (hHeld.2.2.2))).trans (hHeld.2.2.2)
                refine ⟨_, rfl, ?_⟩
                have n0_ := qH (Kd.V_elder' (by (with_reducible repeat first | apply zVa | apply zVb | apply zVc); exact HO131.out) (Kd.R_base ho0) hb)
                have n1_ := qH (Kd.R_elder' (by (with_reducible repeat first | apply zRa | apply zRb | apply zRc); exact HO139.out) (Kd.R_base ho0) hb)
                have n2_ := qH (Kd.V_elder' (by (with_reducible repeat first | apply zVa | apply zVb | apply zVc); exact HO142.out) (Kd.R_base ho0) hb)
                have n3_ := qH (Kd.R_elder' (by (with_reducible repeat first | apply zRa | apply zRb | apply zRc); exact HO152.out) (Kd.R_base ho0) hb)
                have n4_ := qH (Kd.V_elder' (by (with_reducible repeat first | apply zVa | apply zVb | apply zVc); exact HO155.out) (Kd.R_base ho0) hb)
                have n5_ := qH (Kd.R_elder' (by (with_reducible repeat first | apply zRa | apply zRb | apply zRc); exact HO161.out) (Kd.R_base ho0) hb)
                have n6_ := qH (Kd.R_elder' (by (with_reducible repeat first | apply zRa | apply zRb | apply zRc); exact HO165.out) (Kd.R_base ho0) hb)
                have n7_ := qH (Kd.V_elder' (by (with_reducible repeat first | apply zVa | apply zVb | apply zVc); exact HO170.out) (Kd.R_base ho0) hb)
                have n8_ := qH (Kd.V_elder' (by (with_reducible repeat first | apply zVa | apply zVb | apply zVc); exact HO176.out) (Kd.R_base ho0) hb)
                have n9_ := qH (Kd.R_elder' (by (with_reducible repeat first | apply zRa | apply zRb | apply zRc); exact HO184.out) (Kd.R_base ho0) hb)
                have n10_ := qH (Kd.V_elder' (by (with_reducible repeat first | apply zVa | apply zVb | apply zVc); exact HO187.out) (Kd.R_base ho0) hb)
                have n11_ := qH (Kd.R_lower (Kd.R_new' (Kd.R_new' (Kd.R_new' (Kd.R_new' (Kd.R_new' ho0 (Kd.R_lt (by (with_reducible repeat first | apply zRa | apply zRb | apply zRc); exact HO139.out))) (Kd.R_lt (by (with_reducible repeat first | apply zRa | apply zRb | apply zRc); exact HO152.out))) (Kd.R_lt (by (with_reducible repeat first | apply zRa | apply zRb | apply zRc); exact HO161.out))) (Kd.R_lt (by (with_reducible repeat first | apply zRa | apply zRb | apply zRc); exact HO165.out))) (Kd.R_lt (by (with_reducible repeat first | apply zRa | apply zRb | apply zRc); exact HO184.out))) (below_size (by repeat (first | (with_reducible first | exact HB.out | apply qL | apply qJ | apply qK) | exact HB.out))))
                have n12_ := qH (below_step (by repeat (first | (with_reducible first | exact HB.out | apply qL | apply qJ | apply qK) | exact HB.out)) hb)
                clear HO131
                clear HO139
                clear HO142
                clear HO152
                clear HO155
                clear HO161
                clear HO165
                clear HO170
                clear HO176
                clear HO184
                clear HO187
                clear HB
                have HO131 := n0_
                have HO139 := n1_
                have HO142 := n2_
                have HO152 := n3_
                have HO155 := n4_
                have HO161 := n5_
                have HO165 := n6_
                have HO170 := n7_
                have HO176 := n8_
                have HO184 := n9_
                have HO187 := n10_
                have HO200 := n11_
                have HB := n12_
                clear n0_ n1_ n2_ n3_ n4_ n5_ n6_ n7_ n8_ n9_ n10_ n11_ n12_
                (try clear hb)
                (try clear hb2)
                (try clear hk)
                (try clear hi)
                (try clear ho0)
                obtain ⟨Ao83, co83, eo83⟩ := Kd.R_slice HO200.out
                (first | subst eo83 | (injection eo83 with f1_ f2_ f3_; have f4_ := f1_.symm; have f5_ := f3_.symm; clear f1_ f2_ f3_; subst f4_; subst f5_))
                refine hK.out _ _ ⟨HS0_, HS1_, HS2_, HS3_⟩ (fun hHeld => ?_)
                clear hK K
                refine norm_ (a' := ?_) ?_ ?_
                rotate_left
                ·show Act.put _ (some 124) _ = _
                 simp only [Act.put, zS, zT, zU, zV, zW]
                 rfl
                refine pure_ (i := 59) (N := some 125) (v := ?_) (a' := ?_) (lb 68 1152921504606846975) rfl rfl (any_of HT_.out (by kernel_rfl)) (fun _ _ _ h => h) (Or.inl ⟨by rfl, ?_⟩) ?_ ?_
                rotate_left
                ·intro w'
                 go_simp
                 with_reducible rfl
                rotate_left
                ·simp only [Act.put, zS, zT, zU, zV, zW]
                 rfl
                refine pure_ (i := 60) (N := some 126) (v := ?_) (a' := ?_) (lb 68 2305843009213693951) rfl rfl (any_of HT_.out (by kernel_rfl)) (fun _ _ _ h => h) (Or.inl ⟨by rfl, ?_⟩) ?_ ?_
                rotate_left
                ·intro w'
                 go_simp
                 with_reducible rfl
                rotate_left
                ·simp only [Act.put, zS, zT, zU, zV, zW]
                 rfl
                refine pure_ (i := 61) (N := some 127) (v := ?_) (a' := ?_) (lb 68 4611686018427387903) rfl rfl (any_of HT_.out (by kernel_rfl)) (fun _ _ _ h => h) (Or.inl ⟨by rfl, ?_⟩) ?_ ?_
                rotate_left
                ·intro w'
                 go_simp
                 with_reducible rfl
                rotate_left
                ·simp only [Act.put, zS, zT, zU, zV, zW]
                 rfl
                refine pure_ (i := 62) (N := some 128) (v := ?_) (a' := ?_) (lb 68 9223372036854775807) rfl rfl (any_of HT_.out (by kernel_rfl)) (fun _ _ _ h => h) (Or.inl ⟨by rfl, ?_⟩) ?_ ?_
                rotate_left
                ·intro w'
                 go_simp
                 with_reducible rfl
                rotate_left
                ·simp only [Act.put, zS, zT, zU, zV, zW]
                 rfl
                refine one_ (i := 63) (N := some 129) (lb 68 18446744073709551615) rfl rfl (one_of HT_.out (by kernel_rfl)) (by decide) (fun K hK => ?_)
                refine goes_ Try.func25 (by kernel_rfl) rfl #[.string (⟨#[97]⟩ : ByteArray)] (by rfl) rfl rfl (by (try simp only [zX, zY, zZ]); first | done | rfl | (simp only [zD, zE]; rfl)) ?_
                with_reducible refine (codicillaw19_node.calls (⟨#[97]⟩ : ByteArray) t201 t202 _ A39.out).mono ?_
                rintro e w84 ⟨rfl, hb⟩
                have HS0_ := (hb.cell (qO _ _ (hHeld.1))).trans (hHeld.1)
                have HS1_ := (hb.cell (qO _ _ (hHeld.2.1))).trans (hHeld.2.1)
                have HS2_ := (hb.cell (qO _ _ (hHeld.2.2.1))).trans (hHeld.2.2.1)
                have HS3_ := (hb.cell (qO _ _ (hHeld.2.2.2))).trans (hHeld.2.2.2)
                refine ⟨_, rfl, ?_⟩
                have n0_ := qH (Kd.V_below (by (with_reducible repeat first | apply zVa | apply zVb | apply zVc); exact HO131.out) hb)
                have n1_ := qH (Kd.R_below (by (with_reducible repeat first | apply zRa | apply zRb | apply zRc); exact HO139.out) hb)
                have n2_ := qH (Kd.V_below (by (with_reducible repeat first | apply zVa | apply zVb | apply zVc); exact HO142.out) hb)
                have n3_ := qH (Kd.R_below (by (with_reducible repeat first | apply zRa | apply zRb | apply zRc); exact HO152.out) hb)
                have n4_ := qH (Kd.V_below (by (with_reducible repeat first | apply zVa | apply zVb | apply zVc); exact HO155.out) hb)
                have n5_ := qH (Kd.R_below (by (with_reducible repeat first | apply zRa | apply zRb | apply zRc); exact HO161.out) hb)
                have n6_ := qH (Kd.R_below (by (with_reducible repeat first | apply zRa | apply zRb | apply zRc); exact HO165.out) hb)
                have n7_ := qH (Kd.V_below (by (with_reducible repeat first | apply zVa | apply zVb | apply zVc); exact HO170.out) hb)
                have n8_ := qH (Kd.V_below (by (with_reducible repeat first | apply zVa | apply zVb | apply zVc); exact HO176.out) hb)
                have n9_ := qH (Kd.R_below (by (with_reducible repeat first | apply zRa | apply zRb | apply zRc); exact HO184.out) hb)
                have n10_ := qH (Kd.V_below (by (with_reducible repeat first | apply zVa | apply zVb | apply zVc); exact HO187.out) hb)
                have n11_ := qH (Kd.R_below (by (with_reducible repeat first | apply zRa | apply zRb | apply zRc); exact HO200.out) hb)
                have n12_ := qH (below_step (by repeat (first | (with_reducible first | exact HB.out | apply qL | apply qJ | apply qK) | exact HB.out)) hb)
                clear HO131
                clear HO139
                clear HO142
                clear HO152
                clear HO155
                clear HO161
                clear HO165
                clear HO170
                clear HO176
                clear HO184
                clear HO187
                clear HO200
                clear HB
                have HO131 := n0_
                have HO139 := n1_
                have HO142 := n2_
                have HO152 := n3_
                have HO155 := n4_
                have HO161 := n5_
                have HO165 := n6_
                have HO170 := n7_
                have HO176 := n8_
                have HO184 := n9_
                have HO187 := n10_
                have HO200 := n11_
                have HB := n12_
                clear n0_ n1_ n2_ n3_ n4_ n5_ n6_ n7_ n8_ n9_ n10_ n11_ n12_
                (try clear hb)
                (try clear hb2)
                (try clear hk)
                (try clear hi)
                refine hK.out _ _ ⟨HS0_, HS1_, HS2_, HS3_⟩ (fun hHeld => ?_)
                clear hK K
                refine norm_ (a' := ?_) ?_ ?_
                rotate_left
                ·show Act.put _ (some 129) _ = _
                 simp only [Act.put, zS, zT, zU, zV, zW]
                 rfl
                refine one_ (i := 64) (N := some 130) (lb 68 36893488147419103231) rfl rfl (one_of HT_.out (by kernel_rfl)) (by decide) (fun K hK => ?_)
                refine goes_ Try.func25 (by kernel_rfl) rfl #[.string (⟨#[98]⟩ : ByteArray)] (by rfl) rfl rfl (by (try simp only [zX, zY, zZ]); first | done | rfl | (simp only [zD, zE]; rfl)) ?_
                with_reducible refine (codicillaw19_node.calls (⟨#[98]⟩ : ByteArray) t203 t204 _ A40.out).mono ?_
                rintro e w85 ⟨rfl, hb⟩
                have HS0_ := (hb.cell (qO _ _ (hHeld.1))).trans (hHeld.1)
                have HS1_ := (hb.cell (qO _ _ (hHeld.2.1))).trans (hHeld.2.1)
                have HS2_ := (hb.cell (qO _ _ (hHeld.2.2.1))).trans (hHeld.2.2.1)
                have HS3_ := (hb.cell (qO _ _ (hHeld.2.2.2))).trans (hHeld.2.2.2)
                refine ⟨_, rfl, ?_⟩
                have n0_ := qH (Kd.V_below (by (with_reducible repeat first | apply zVa | apply zVb | apply zVc); exact HO131.out) hb)
                have n1_ := qH (Kd.R_below (by (with_reducible repeat first | apply zRa | apply zRb | apply zRc); exact HO139.out) hb)
                have n2_ := qH (Kd.V_below (by (with_reducible repeat first | apply zVa | apply zVb | apply zVc); exact HO142.out) hb)
                have n3_ := qH (Kd.R_below (by (with_reducible repeat first | apply zRa | apply zRb | apply zRc); exact HO152.out) hb)
                have n4_ := qH (Kd.V_below (by (with_reducible repeat first | apply zVa | apply zVb | apply zVc); exact HO155.out) hb)
                have n5_ := qH (Kd.R_below (by (with_reducible repeat first | apply zRa | apply zRb | apply zRc); exact HO161.out) hb)
                have n6_ := qH (Kd.R_below (by (with_reducible repeat first | apply zRa | apply zRb | apply zRc); exact HO165.out) hb)
                have n7_ := qH (Kd.V_below (by (with_reducible repeat first | apply zVa | apply zVb | apply zVc); exact HO170.out) hb)
                have n8_ := qH (Kd.V_below (by (with_reducible repeat first | apply zVa | apply zVb | apply zVc); exact HO176.out) hb)
                have n9_ := qH (Kd.R_below (by (with_reducible repeat first | apply zRa | apply zRb | apply zRc); exact HO184.out) hb)
                have n10_ := qH (Kd.V_below (by (with_reducible repeat first | apply zVa | apply zVb | apply zVc); exact HO187.out) hb)
                have n11_ := qH (Kd.R_below (by (with_reducible repeat first | apply zRa | apply zRb | apply zRc); exact HO200.out) hb)
                have n12_ := qH (below_step (by repeat (first | (with_reducible first | exact HB.out | apply qL | apply qJ | apply qK) | exact HB.out)) hb)
                clear HO131
                clear HO139
                clear HO142
                clear HO152
                clear HO155
                clear HO161
                clear HO165
                clear HO170
                clear HO176
                clear HO184
                clear HO187
                clear HO200
                clear HB
                have HO131 := n0_
                have HO139 := n1_
                have HO142 := n2_
                have HO152 := n3_
                have HO155 := n4_
                have HO161 := n5_
                have HO165 := n6_
                have HO170 := n7_
                have HO176 := n8_
                have HO184 := n9_
                have HO187 := n10_
                have HO200 := n11_
                have HB := n12_
                clear n0_ n1_ n2_ n3_ n4_ n5_ n6_ n7_ n8_ n9_ n10_ n11_ n12_
                (try clear hb)
                (try clear hb2)
                (try clear hk)
                (try clear hi)
                refine hK.out _ _ ⟨HS0_, HS1_, HS2_, HS3_⟩ (fun hHeld => ?_)
                clear hK K
                refine norm_ (a' := ?_) ?_ ?_
                rotate_left
                ·show Act.put _ (some 130) _ = _
                 simp only [Act.put, zS, zT, zU, zV, zW]
                 rfl
                refine one_ (i := 65) (N := some 131) (lb 68 73786976294838206463) rfl rfl (one_of HT_.out (by kernel_rfl)) (by decide) (fun K hK => ?_)
                refine goes_ Try.func11 (by kernel_rfl) rfl #[.agg #[.string t201, .int .i64 t202], .agg #[.string t203, .int .i64 t204]] (by rfl) rfl rfl (by (try simp only [zX, zY, zZ]); first | done | rfl | (simp only [zD, zE]; rfl)) ?_
                with_reducible refine (graph_Less.calls k t201 t202 t203 t204 t205 _ A41.out).mono ?_
                rintro e w86 ⟨rfl, hb⟩
                have HS0_ := (hb.cell (qO _ _ (hHeld.1))).trans (hHeld.1)
                have HS1_ := (hb.cell (qO _ _ (hHeld.2.1))).trans (hHeld.2.1)
                have HS2_ := (hb.cell (qO _ _ (hHeld.2.2.1))).trans (hHeld.2.2.1)
                have HS3_ := (hb.cell (qO _ _ (hHeld.2.2.2))).trans (hHeld.2.2.2)
                refine ⟨_, rfl, ?_⟩
                have n0_ := qH (Kd.V_below (by (with_reducible repeat first | apply zVa | apply zVb | apply zVc); exact HO131.out) hb)
                have n1_ := qH (Kd.R_below (by (with_reducible repeat first | apply zRa | apply zRb | apply zRc); exact HO139.out) hb)
                have n2_ := qH (Kd.V_below (by (with_reducible repeat first | apply zVa | apply zVb | apply zVc); exact HO142.out) hb)
                have n3_ := qH (Kd.R_below (by (with_reducible repeat first | apply zRa | apply zRb | apply zRc); exact HO152.out) hb)
                have n4_ := qH (Kd.V_below (by (with_reducible repeat first | apply zVa | apply zVb | apply zVc); exact HO155.out) hb)
                have n5_ := qH (Kd.R_below (by (with_reducible repeat first | apply zRa | apply zRb | apply zRc); exact HO161.out) hb)
                have n6_ := qH (Kd.R_below (by (with_reducible repeat first | apply zRa | apply zRb | apply zRc); exact HO165.out) hb)
                have n7_ := qH (Kd.V_below (by (with_reducible repeat first | apply zVa | apply zVb | apply zVc); exact HO170.out) hb)
                have n8_ := qH (Kd.V_below (by (with_reducible repeat first | apply zVa | apply zVb | apply zVc); exact HO176.out) hb)
                have n9_ := qH (Kd.R_below (by (with_reducible repeat first | apply zRa | apply zRb | apply zRc); exact HO184.out) hb)
                have n10_ := qH (Kd.V_below (by (with_reducible repeat first | apply zVa | apply zVb | apply zVc); exact HO187.out) hb)
                have n11_ := qH (Kd.R_below (by (with_reducible repeat first | apply zRa | apply zRb | apply zRc); exact HO200.out) hb)
                have n12_ := qH (below_step (by repeat (first | (with_reducible first | exact HB.out | apply qL | apply qJ | apply qK) | exact HB.out)) hb)
                clear HO131
                clear HO139
                clear HO142
                clear HO152
                clear HO155
                clear HO161
                clear HO165
                clear HO170
                clear HO176
                clear HO184
                clear HO187
                clear HO200
                clear HB
                have HO131 := n0_
                have HO139 := n1_
                have HO142 := n2_
                have HO152 := n3_
                have HO155 := n4_
                have HO161 := n5_
                have HO165 := n6_
                have HO170 := n7_
                have HO176 := n8_
                have HO184 := n9_
                have HO187 := n10_
                have HO200 := n11_
                have HB := n12_
                clear n0_ n1_ n2_ n3_ n4_ n5_ n6_ n7_ n8_ n9_ n10_ n11_ n12_
                (try clear hb)
                (try clear hb2)
                (try clear hk)
                (try clear hi)
                refine hK.out _ _ ⟨HS0_, HS1_, HS2_, HS3_⟩ (fun hHeld => ?_)
                clear hK K
                refine norm_ (a' := ?_) ?_ ?_
                rotate_left
                ·show Act.put _ (some 131) _ = _
                 simp only [Act.put, zS, zT, zU, zV, zW]
                 rfl
                refine pure_ (i := 66) (N := some 132) (v := ?_) (a' := ?_) (lb 68 147573952589676412927) rfl rfl (any_of HT_.out (by kernel_rfl)) (fun _ _ _ h => h) (Or.inl ⟨by rfl, ?_⟩) ?_ ?_
                rotate_left
                ·intro w'
                 go_simp
                 with_reducible rfl
                rotate_left
                ·simp only [Act.put, zS, zT, zU, zV, zW]
                 rfl
                refine pure_ (i := 67) (N := some 0) (v := ?_) (a' := ?_) (lb 68 295147905179352825855) rfl rfl (any_of HT_.out (by kernel_rfl)) (fun _ _ _ h => h) (Or.inl ⟨by rfl, ?_⟩) ?_ ?_
                rotate_left
                ·intro w'
                 go_simp
                 with_reducible rfl
                rotate_left
                ·simp only [Act.put, zS, zT, zU, zV, zW]
                 rfl
                refine done_ (done_of HT_.out (by kernel_rfl)) ?_
                try go_wp2
                go_ret
                exact ⟨by first | rfl | (simp [errW_none, errW_some] <;> rfl) | (simp [*, errW_none, errW_some] <;> rfl), by repeat (first | (with_reducible first | exact HB.out | apply qL | apply qJ | apply qK) | exact HB.out)⟩
               ·rw [if_neg c38] at H
                have c38b0 : ((t198.length : Int) == 2) = false := beq_eq_false_iff_ne.mpr c38
                have c38b1 : ((t198.length : Int) != 2) = true := bne_iff_ne.mpr c38
                obtain rfl := Option.some.inj H
                exact absurd hTrue.out (by decide)
              ·rw [if_neg c35] at H
               have c35b0 : (t195 == 0) = false := beq_eq_false_iff_ne.mpr c35
               have c35b1 : (t195 != 0) = true := bne_iff_ne.mpr c35
               obtain rfl := Option.some.inj H
               exact absurd hTrue.out (by decide)
             ·rw [if_neg c33] at H
              have c33b0 : (t188 == 5) = false := beq_eq_false_iff_ne.mpr c33
              have c33b1 : (t188 != 5) = true := bne_iff_ne.mpr c33
              obtain rfl := Option.some.inj H
              exact absurd hTrue.out (by decide)
            ·rw [if_neg c32] at H
             have c32b0 : (t177 == 0) = false := beq_eq_false_iff_ne.mpr c32
             have c32b1 : (t177 != 0) = true := bne_iff_ne.mpr c32
             obtain rfl := Option.some.inj H
             exact absurd hTrue.out (by decide)
           ·rw [if_neg c31] at H
            have c31b0 : ((t174.length : Int) == 2) = false := beq_eq_false_iff_ne.mpr c31
            have c31b1 : ((t174.length : Int) != 2) = true := bne_iff_ne.mpr c31
            obtain rfl := Option.some.inj H
            exact absurd hTrue.out (by decide)
          ·rw [if_neg c30] at H
           have c30b0 : (t171 == 3) = false := beq_eq_false_iff_ne.mpr c30
           have c30b1 : (t171 != 3) = true := bne_iff_ne.mpr c30
           obtain rfl := Option.some.inj H
           exact absurd hTrue.out (by decide)
         ·rw [if_neg c29] at H
          have c29b0 : (t163 == 0) = false := beq_eq_false_iff_ne.mpr c29
          have c29b1 : (t163 != 0) = true := bne_iff_ne.mpr c29
          obtain rfl := Option.some.inj H
          exact absurd hTrue.out (by decide)
        ·rw [if_neg c28] at H
         have c28b0 : ((((rd_T24 t162 2).f0).toList) == t193.toList && (((rd_T24 t162 2).f1) == t194)) = false := by simpa using c28
         (try (have c28b1 : decide ((((rd_T24 t162 2).f0).toList) = t193.toList && (((rd_T24 t162 2).f1) == t194)) = false := by simpa using c28))
         (try (have c28b2 : ((((rd_T24 t162 2).f0).toList) == t193.toList && (((rd_T24 t162 2).f1) == t194)) = false := by simpa using c28))
         (try (have c28b3 : ¬ ((((rd_T24 t162 2).f0).toList) = t193.toList && (((rd_T24 t162 2).f1) == t194)) := by simpa using c28))
         clear c28
         obtain rfl := Option.some.inj H
         exact absurd hTrue.out (by decide)
       ·rw [if_neg c26] at H
        exact absurd H (by simp)
      ·rw [if_neg c25] at H
       have c25b0 : ((((rd_T24 t162 0).f0).toList) == t190.toList && (((rd_T24 t162 0).f1) == t191)) = false := by simpa using c25
       (try (have c25b1 : decide ((((rd_T24 t162 0).f0).toList) = t190.toList && (((rd_T24 t162 0).f1) == t191)) = false := by simpa using c25))
       (try (have c25b2 : ((((rd_T24 t162 0).f0).toList) == t190.toList && (((rd_T24 t162 0).f1) == t191)) = false := by simpa using c25))
       (try (have c25b3 : ¬ ((((rd_T24 t162 0).f0).toList) = t190.toList && (((rd_T24 t162 0).f1) == t191)) := by simpa using c25))
       clear c25
       obtain rfl := Option.some.inj H
       exact absurd hTrue.out (by decide)
     ·rw [if_neg c23] at H
      exact absurd H (by simp)
    ·rw [if_neg c22] at H
     have c22b0 : ((t162.length : Int) == 3) = false := beq_eq_false_iff_ne.mpr c22
     have c22b1 : ((t162.length : Int) != 3) = true := bne_iff_ne.mpr c22
     obtain rfl := Option.some.inj H
     exact absurd hTrue.out (by decide)
   ·rw [if_neg c21] at H
    have c21b0 : (t156 == 0) = false := beq_eq_false_iff_ne.mpr c21
    have c21b1 : (t156 != 0) = true := bne_iff_ne.mpr c21
    obtain rfl := Option.some.inj H
    exact absurd hTrue.out (by decide)
  ·rw [if_neg c20] at H
   have c20b0 : (t143 == 0) = false := beq_eq_false_iff_ne.mpr c20
   have c20b1 : (t143 != 0) = true := bne_iff_ne.mpr c20
   obtain rfl := Option.some.inj H
   exact absurd hTrue.out (by decide)
 ·rw [if_neg c19] at H
  have c19b0 : (t132 == 0) = false := beq_eq_false_iff_ne.mpr c19
  have c19b1 : (t132 != 0) = true := bne_iff_ne.mpr c19
  obtain rfl := Option.some.inj H
  exact absurd hTrue.out (by decide)

end Go.Proofs.Ytddjhmelniphgaa.Print
