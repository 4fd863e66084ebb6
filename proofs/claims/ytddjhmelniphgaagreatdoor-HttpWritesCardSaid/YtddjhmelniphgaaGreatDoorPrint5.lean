-- Written by wip/tools/xprint.py of this session's repo (the kit's print, run with external functions). Lean checks it.
import Derived.Test.YtddjhmelniphgaaGreatDoorHAm
import Derived.Test.YtddjhmelniphgaaGreatDoorHLb
import Derived.Test.YtddjhmelniphgaaGreatDoorPrint0
import Derived.Test.YtddjhmelniphgaaGreatDoorPrint3
import Derived.Test.YtddjhmelniphgaaGreatDoorPrint4
import Derived.Test.YtddjhmelniphgaaGreatDoorHTItoa
namespace Go.Proofs.YtddjhmelniphgaaGreatDoor.Print
open Go.RowKit Go.Proofs.YtddjhmelniphgaaGreatDoorW.PrintWords Go.Proofs.YtddjhmelniphgaaGreatDoorW.PrintLast Go.Proofs.YtddjhmelniphgaaGreatDoorW.PrintMore
attribute [local go_sem] max2_int min2_int max_two min_two max_three min_three max_four min_four   -- for this text's walks alone
set_option linter.unusedVariables false
set_option linter.unusedSimpArgs false

/-! ### codicilref29_Write: function 23 -/
def codicilref29_Write.j0 : Nat → Bool → Int → List (S59) → ByteArray → Option (ByteArray × Int)
 | 0, _, _, _, _ => none
 | k + 1, x13, x178000, x178001, x178002 => if x13 = true then (some ((⟨#[]⟩ : ByteArray), 2)) else ((strconv_Itoa.f x178000).bind fun t178 => (if 9 + t178.size ≤ 9223372036854775807 then (if ((⟨#[72, 84, 84, 80, 47, 49, 46, 49, 32]⟩ : ByteArray) ++ t178).size + 1 ≤ 9223372036854775807 then ((codicilref29_Reason.f k x178000).bind fun t179 => (if (((⟨#[72, 84, 84, 80, 47, 49, 46, 49, 32]⟩ : ByteArray) ++ t178) ++ (⟨#[32]⟩ : ByteArray)).size + t179.size ≤ 9223372036854775807 then ((codicilref29_bytes.f k ((((⟨#[72, 84, 84, 80, 47, 49, 46, 49, 32]⟩ : ByteArray) ++ t178) ++ (⟨#[32]⟩ : ByteArray)) ++ t179) x178001 x178002).bind fun bt180 => (if bt180.2 = true then (some (bt180.1, 0)) else (some ((⟨#[]⟩ : ByteArray), 2)))) else (none))) else (none)) else (none)))
def codicilref29_Write.f (k : Nat) (a0_0 : Int) (l0_1 : List (S59)) (a0_2 : ByteArray) : Option (ByteArray × Int) := if a0_0 < 100 then (codicilref29_Write.j0 k true a0_0 l0_1 a0_2) else (codicilref29_Write.j0 k (decide (a0_0 > 599)) a0_0 l0_1 a0_2)
theorem codicilref29_Write.mono_l : ∀ k, (∀ y0 y1 y2 y3, LeO (codicilref29_Write.j0 k y0 y1 y2 y3) (codicilref29_Write.j0 (k + 1) y0 y1 y2 y3))
 | 0 => fun _ _ _ _ r h => by simp [codicilref29_Write.j0] at h
 | k + 1 => by
  have ih0 := codicilref29_Write.mono_l k
  ·intro y0 y1 y2 y3
   unfold codicilref29_Write.j0
   repeat' first
   | (with_reducible exact ih0 _ _ _ _)
   | (with_reducible exact codicilref29_Reason.mono _ _)
   | (with_reducible exact codicilref29_bytes.mono _ _ _ _)
   | (with_reducible exact LeO.refl _)
   | (with_reducible exact LeO.none _)
   | (with_reducible refine LeO.ite ?_ ?_)
   | (with_reducible refine LeO.bind ?_ (fun _ => ?_))
   | exact ih0 _ _ _ _
   | exact codicilref29_Reason.mono _ _
   | exact codicilref29_bytes.mono _ _ _ _
   | exact LeO.none _
   | refine LeO.ite ?_ ?_
   | refine LeO.bind ?_ (fun _ => ?_)
theorem codicilref29_Write.mono : ∀ a0 a1 a2 k, LeO (codicilref29_Write.f k a0 a1 a2) (codicilref29_Write.f (k + 1) a0 a1 a2) := by
 intro a0 a1 a2 k
 have ih0 := codicilref29_Write.mono_l k
 unfold codicilref29_Write.f
 repeat' first
   | (with_reducible exact ih0 _ _ _ _)
   | (with_reducible exact codicilref29_Reason.mono _ _)
   | (with_reducible exact codicilref29_bytes.mono _ _ _ _)
   | (with_reducible exact LeO.refl _)
   | (with_reducible exact LeO.none _)
   | (with_reducible refine LeO.ite ?_ ?_)
   | (with_reducible refine LeO.bind ?_ (fun _ => ?_))
   | exact ih0 _ _ _ _
   | exact codicilref29_Reason.mono _ _
   | exact codicilref29_bytes.mono _ _ _ _
   | exact LeO.none _
   | refine LeO.ite ?_ ?_
   | refine LeO.bind ?_ (fun _ => ?_)
def codicilref29_Write.T3 : Bool × List (List Nat × List Nat) := (true, [([], []), ([0], [0]), ([1], [1]), ([2], [2]), ([3], [3]), ([], []), ([5], [5]), ([6, 2], [6]), ([4, 7], [4, 7]), ([], []), ([9], [9]), ([], []), ([11], [11]), ([8, 10, 12, 7], [8, 10, 12]), ([13], [13]), ([14], [14]), ([14], [14]), ([15, 13, 0, 1, 2, 3, 4, 5, 6, 7, 8, 9, 10, 11, 12, 13, 14, 15], [15]), ([16, 17, 0, 1, 2, 3, 4, 5, 6, 7, 8, 9, 10, 11, 12, 13, 14, 15, 16, 17], [16])])
def codicilref29_Write.B3 : List Nat := [0, 1, 3, 7, 15, 0, 32, 103, 255, 0, 512, 0, 2048, 8191, 16383, 32767, 32767, 65535, 262143]
theorem codicilref29_Write.tab3 : rtab .any (opsOf Tryz.f23 3) = codicilref29_Write.T3 := by kernel_rfl
theorem codicilref29_Write.bits3 : waitsOk codicilref29_Write.T3.2 codicilref29_Write.B3 = true := by kernel_rfl
set_option maxHeartbeats 8000000 in
set_option maxRecDepth 100000 in
theorem codicilref29_Write.calls (k : Nat) (a0_0 : Int) (A0_1 : Option Addr) (c0_1 : Nat) (l0_1 : List (S59)) (a0_2 : ByteArray) (r1 : ByteArray) (r2 : Int) (w : World) (hr0_1 : Kd.C k59 w A0_1 l0_1.length l0_1) (hc0_1 : l0_1.length ≤ c0_1) (h : codicilref29_Write.f k a0_0 l0_1 a0_2 = some (r1, r2)) (HL : Laid0 w) :
  Calls Tryz.prog 23 #[.agg #[.int .i64 a0_0, .slice A0_1 l0_1.length c0_1, .string a0_2]] w fun e w' => e = .returned (.tuple #[.string r1, .int .i64 r2]) ∧ Below w.heap.size w w' := by
 have hu32 := Tryz.underlying32
 have HR0_1 := qH hr0_1
 have HC0_1 := qH hc0_1
 clear hr0_1 hc0_1
 have HB := qH (Below.refl w.heap.size w)
 have H : (if a0_0 < 100 then (codicilref29_Write.j0 k true a0_0 l0_1 a0_2) else (codicilref29_Write.j0 k (decide (a0_0 > 599)) a0_0 l0_1 a0_2)) = some (r1, r2) := h
 clear h
 have HC2 := qH H
 clear H
 go_enter Tryz.func23, Tryz.ntmps23
 go_upto_region 1 with (first | ((with_reducible refine gate_dst (N := 1) rfl ?_); refine box_event ?hg (N := 1) ?hd (cs := #[.int .i64 a0_0, .slice A0_1 l0_1.length c0_1, .string a0_2]) (t := 32) ?hr ?_; (case hd => rfl); (case hg => rfl); (case hr => first | (go_simp; done) | (go_simp; rfl) | (go_simp; simp [IntKind.wrap_u32]; done)); intro gb177 hg w3 hbox hb; have n0_ := qH (below_step zz3 hb); have n1_ := qH (hbox); have n2_ := qH ((by rw [hg]; exact (below_size zz3) : w.heap.size ≤ gb177)); have n3_ := n2_; clear HB; have HB := n0_; have BK177 := n1_; have GW177 := n2_; have GE177 := n3_; clear n0_ n1_ n2_ n3_; clear hb hbox hg))
 (try simp only [Act.put, List.setIfInBounds_toArray, List.set_cons_zero, List.set_cons_succ])
 go_cut [13] (fun v13 wc => ∃ (kq : Nat) (x13_1 : Bool), v13 = .bool x13_1 ∧ Aside0 (codicilref29_Write.j0 kq x13_1 a0_0 l0_1 a0_2 = some (r1, r2)) ∧ Aside0 (kq ≤ k) ∧ Aside0 (wc.heap[gb177]? = some (.cells #[.int .i64 a0_0, (.slice A0_1 l0_1.length c0_1), .string a0_2] 32 (0, 0))) ∧ Aside0 (Below w.heap.size w wc))
 case first =>
  have H := HC2.out
  clear HC2
  by_cases c4 : a0_0 < 100
  ·rw [if_pos c4] at H
   have c4b0 : decide (a0_0 < 100) = true := decide_eq_true c4
   clear c4
   (first | rw [c4b0] | (simp only [i64_w, i32_w]; rw [c4b0]) | skip)
   have H' := qH H
   clear H
   have hcz5_0 : w3.cell? ⟨gb177, 0, none⟩ = some (.int .i64 a0_0) := (qE BK177.out 0).trans rfl
   have hcz5_1 : w3.cell? ⟨gb177, 1, none⟩ = some (.slice A0_1 l0_1.length c0_1) := (qE BK177.out 1).trans rfl
   have hcz5_2 : w3.cell? ⟨gb177, 2, none⟩ = some (.string a0_2) := (qE BK177.out 2).trans rfl
   have hfz5_0 := qF BK177.out 0
   have hfz5_1 := qF BK177.out 1
   have hfz5_2 := qF BK177.out 2
   go_wp2
   go_meet
   case rel => exact ⟨_, (true), zz1, H', ⟨by first | omega | exact Nat.le_refl _⟩, ⟨by (with_reducible repeat first | apply qA | apply qC | apply qB); exact BK177.out⟩, ⟨by repeat (first | (with_reducible first | exact HB.out | apply qL | apply qJ | apply qK | refine qI ?_ GE177.out) | exact HB.out)⟩⟩
  ·rw [if_neg c4] at H
   have c4b0 : decide (a0_0 < 100) = false := decide_eq_false c4
   clear c4
   (first | rw [c4b0] | (simp only [i64_w, i32_w]; rw [c4b0]) | skip)
   have H' := qH H
   clear H
   have hcz6_0 : w3.cell? ⟨gb177, 0, none⟩ = some (.int .i64 a0_0) := (qE BK177.out 0).trans rfl
   have hcz6_1 : w3.cell? ⟨gb177, 1, none⟩ = some (.slice A0_1 l0_1.length c0_1) := (qE BK177.out 1).trans rfl
   have hcz6_2 : w3.cell? ⟨gb177, 2, none⟩ = some (.string a0_2) := (qE BK177.out 2).trans rfl
   have hfz6_0 := qF BK177.out 0
   have hfz6_1 := qF BK177.out 1
   have hfz6_2 := qF BK177.out 2
   go_wp2
   go_meet
   case rel => exact ⟨_, (decide (a0_0 > 599)), zz1, H', ⟨by first | omega | exact Nat.le_refl _⟩, ⟨by (with_reducible repeat first | apply qA | apply qC | apply qB); exact BK177.out⟩, ⟨by repeat (first | (with_reducible first | exact HB.out | apply qL | apply qJ | apply qK | refine qI ?_ GE177.out) | exact HB.out)⟩⟩
 case rest =>
  clear HC2
  try clear c2
  try clear p2
  try clear c4
  try clear c4b0
  try clear hcz5_0
  try clear hcz5_1
  try clear hcz5_2
  try clear hcz6_0
  try clear hcz6_1
  try clear hcz6_2
  try clear hfz5_0
  try clear hfz5_1
  try clear hfz5_2
  try clear hfz6_0
  try clear hfz6_1
  try clear hfz6_2
  obtain ⟨kq, x13_1, rfl, HA, HJ1, BK177, HB⟩ := hcut
  cases kq with
  | zero => exact absurd HA.out (by simp [codicilref29_Write.j0])
  | succ kj1 =>
   have H := HA.out
   clear HA
   simp only [codicilref29_Write.j0] at H
   by_cases c7 : x13_1 = true
   ·subst c7
    have H1 : (some ((⟨#[]⟩ : ByteArray), 2)) = some (r1, r2) := by rw [if_pos rfl] at H; exact H
    clear H
    have H := H1
    clear H1
    simp only [Option.some.injEq, Prod.mk.injEq] at H
    obtain ⟨rfl, rfl⟩ := H
    go_wp2
    go_ret2
    exact ⟨by first | rfl | (simp [errW_none, errW_some] <;> rfl) | (simp [*, errW_none, errW_some] <;> rfl), by repeat (first | (with_reducible first | exact HB.out | apply qL | apply qJ | apply qK | refine qI ?_ GE177.out) | exact HB.out)⟩
   ·replace c7 := Bool.eq_false_iff.mpr c7
    subst c7
    have H1 : ((strconv_Itoa.f a0_0).bind fun t178 => (if 9 + t178.size ≤ 9223372036854775807 then (if ((⟨#[72, 84, 84, 80, 47, 49, 46, 49, 32]⟩ : ByteArray) ++ t178).size + 1 ≤ 9223372036854775807 then ((codicilref29_Reason.f kj1 a0_0).bind fun t179 => (if (((⟨#[72, 84, 84, 80, 47, 49, 46, 49, 32]⟩ : ByteArray) ++ t178) ++ (⟨#[32]⟩ : ByteArray)).size + t179.size ≤ 9223372036854775807 then ((codicilref29_bytes.f kj1 ((((⟨#[72, 84, 84, 80, 47, 49, 46, 49, 32]⟩ : ByteArray) ++ t178) ++ (⟨#[32]⟩ : ByteArray)) ++ t179) l0_1 a0_2).bind fun bt180 => (if bt180.2 = true then (some (bt180.1, 0)) else (some ((⟨#[]⟩ : ByteArray), 2)))) else (none))) else (none)) else (none))) = some (r1, r2) := by rw [if_neg (show ¬ (false = true) by decide)] at H; exact H
    clear H
    have H := H1
    clear H1
    replace H := Option.bind_eq_some_iff.mp H
    obtain ⟨t178, A80, H⟩ := H
    (try dsimp only at H)
    have A8 := qH A80
    clear A80
    by_cases c9 : 9 + t178.size ≤ 9223372036854775807
    ·rw [if_pos c9] at H
     have c9b0 := eq_true c9
     have c9b1 : decide (9 + t178.size ≤ 9223372036854775807) = true := decide_eq_true c9
     try have c9b2 : (9223372036854775807 < 9 + t178.size) = False := eq_false (Nat.not_lt.2 c9)
     by_cases c10 : ((⟨#[72, 84, 84, 80, 47, 49, 46, 49, 32]⟩ : ByteArray) ++ t178).size + 1 ≤ 9223372036854775807
     ·rw [if_pos c10] at H
      have c10b0 := eq_true c10
      have c10b1 : decide (((⟨#[72, 84, 84, 80, 47, 49, 46, 49, 32]⟩ : ByteArray) ++ t178).size + 1 ≤ 9223372036854775807) = true := decide_eq_true c10
      try have c10b2 : (9223372036854775807 < ((⟨#[72, 84, 84, 80, 47, 49, 46, 49, 32]⟩ : ByteArray) ++ t178).size + 1) = False := eq_false (Nat.not_lt.2 c10)
      try (have c10b3 := of_eq_false c10b2; simp only [ByteArray.size_append, show (⟨#[72, 84, 84, 80, 47, 49, 46, 49, 32]⟩ : ByteArray).size = 9 from rfl] at c10b3)
      replace H := Option.bind_eq_some_iff.mp H
      obtain ⟨t179, A110, H⟩ := H
      (try dsimp only at H)
      have A11 := qH A110
      clear A110
      by_cases c12 : (((⟨#[72, 84, 84, 80, 47, 49, 46, 49, 32]⟩ : ByteArray) ++ t178) ++ (⟨#[32]⟩ : ByteArray)).size + t179.size ≤ 9223372036854775807
      ·rw [if_pos c12] at H
       have c12b0 := eq_true c12
       have c12b1 : decide ((((⟨#[72, 84, 84, 80, 47, 49, 46, 49, 32]⟩ : ByteArray) ++ t178) ++ (⟨#[32]⟩ : ByteArray)).size + t179.size ≤ 9223372036854775807) = true := decide_eq_true c12
       try have c12b2 : (9223372036854775807 < (((⟨#[72, 84, 84, 80, 47, 49, 46, 49, 32]⟩ : ByteArray) ++ t178) ++ (⟨#[32]⟩ : ByteArray)).size + t179.size) = False := eq_false (Nat.not_lt.2 c12)
       try (have c12b3 := of_eq_false c12b2; simp only [ByteArray.size_append, show (⟨#[32]⟩ : ByteArray).size = 1 from rfl, show (⟨#[72, 84, 84, 80, 47, 49, 46, 49, 32]⟩ : ByteArray).size = 9 from rfl] at c12b3)
       replace H := Option.bind_eq_some_iff.mp H
       obtain ⟨⟨t180, t181⟩, A130, H⟩ := H
       (try dsimp only at H)
       have A13 := qH A130
       clear A130
       by_cases c14 : t181 = true
       ·subst c14
        have H1 : (some (t180, 0)) = some (r1, r2) := by rw [if_pos rfl] at H; exact H
        clear H
        have H := H1
        clear H1
        simp only [Option.some.injEq, Prod.mk.injEq] at H
        obtain ⟨rfl, rfl⟩ := H
        try go_wp2
        have n0_ := qH (qC BK177.out)
        have n1_ := qH (qK HB.out)
        clear BK177
        clear HB
        have BK177 := n0_
        have HB := n1_
        clear n0_ n1_
        refine start_ (n := 19) (S := fun w' => w'.cell? ⟨gb177, 0, none⟩ = some (.int .i64 a0_0) ∧ w'.cell? ⟨gb177, 1, none⟩ = some (.slice A0_1 l0_1.length c0_1) ∧ w'.cell? ⟨gb177, 2, none⟩ = some (.string a0_2)) (ds := []) (lb 19 0) (by kernel_rfl) rfl rfl ⟨(qE BK177.out 0).trans rfl, (qE BK177.out 1).trans rfl, (qE BK177.out 2).trans rfl⟩ (fun hHeld => ?_); refine with_tabW codicilref29_Write.tab3 codicilref29_Write.bits3 (fun HT_ HW_ => ?_)
        generalize wc.drew = w15 at BK177 HB hHeld ⊢
        refine pure_ (i := 0) (N := some 15) (v := ?_) (a' := ?_) (lb 19 1) rfl rfl (any_of HT_.out (by kernel_rfl)) (fun _ _ _ h => h) (Or.inl ⟨by rfl, ?_⟩) ?_ ?_
        rotate_left
        ·intro w'
         go_simp
         with_reducible rfl
        rotate_left
        ·simp only [Act.put, zS, zT, zU, zV, zW]
         rfl
        refine pure_ (i := 5) (N := some 20) (v := ?_) (a' := ?_) (lb 19 33) rfl rfl (any_of HT_.out (by kernel_rfl)) (fun _ _ _ h => h) (Or.inl ⟨by rfl, ?_⟩) ?_ ?_
        rotate_left
        ·intro w'
         go_simp
         with_reducible rfl
        rotate_left
        ·simp only [Act.put, zS, zT, zU, zV, zW]
         rfl
        refine pure_ (i := 9) (N := some 24) (v := ?_) (a' := ?_) (lb 19 545) rfl rfl (any_of HT_.out (by kernel_rfl)) (fun _ _ _ h => h) (Or.inl ⟨by rfl, ?_⟩) ?_ ?_
        rotate_left
        ·intro w'
         go_simp
         with_reducible rfl
        rotate_left
        ·simp only [Act.put, zS, zT, zU, zV, zW]
         rfl
        refine pure_ (i := 11) (N := some 26) (v := ?_) (a' := ?_) (lb 19 2593) rfl rfl (any_of HT_.out (by kernel_rfl)) (fun _ _ _ h => h) (Or.inl ⟨by rfl, ?_⟩) ?_ ?_
        rotate_left
        ·intro w'
         go_simp
         with_reducible rfl
        rotate_left
        ·simp only [Act.put, zS, zT, zU, zV, zW]
         rfl
        refine take_ (i := 1) (N := some 16) (v := ?_) (a' := ?_) (lb 19 2595) rfl rfl (take_ofW HT_.out HW_.out (by kernel_rfl)) (fun _ _ _ h => h) (Or.inl ⟨by rfl, ?_⟩) hHeld ?_ ?_
        rotate_left
        ·rintro w' ⟨s0, s1, s2⟩
         go_simp
         with_reducible rfl
        rotate_left
        ·simp only [Act.put, zS, zT, zU, zV, zW]
         rfl
        refine take_ (i := 6) (N := some 21) (v := ?_) (a' := ?_) (lb 19 2659) rfl rfl (take_ofW HT_.out HW_.out (by kernel_rfl)) (fun _ _ _ h => h) (Or.inl ⟨by rfl, ?_⟩) hHeld ?_ ?_
        rotate_left
        ·rintro w' ⟨s0, s1, s2⟩
         go_simp
         with_reducible rfl
        rotate_left
        ·simp only [Act.put, zS, zT, zU, zV, zW]
         rfl
        refine take_ (i := 10) (N := some 25) (v := ?_) (a' := ?_) (lb 19 3683) rfl rfl (take_ofW HT_.out HW_.out (by kernel_rfl)) (fun _ _ _ h => h) (Or.inl ⟨by rfl, ?_⟩) hHeld ?_ ?_
        rotate_left
        ·rintro w' ⟨s0, s1, s2⟩
         go_simp
         with_reducible rfl
        rotate_left
        ·simp only [Act.put, zS, zT, zU, zV, zW]
         rfl
        refine take_ (i := 12) (N := some 27) (v := ?_) (a' := ?_) (lb 19 7779) rfl rfl (take_ofW HT_.out HW_.out (by kernel_rfl)) (fun _ _ _ h => h) (Or.inl ⟨by rfl, ?_⟩) hHeld ?_ ?_
        rotate_left
        ·rintro w' ⟨s0, s1, s2⟩
         go_simp
         with_reducible rfl
        rotate_left
        ·simp only [Act.put, zS, zT, zU, zV, zW]
         rfl
        refine one_ (i := 2) (N := some 17) (lb 19 7783) rfl rfl (one_of HT_.out (by kernel_rfl)) (by decide) (fun K hK => ?_)
        refine goes_ Tryz.func54 (by kernel_rfl) rfl #[.int .i64 a0_0] (by rfl) rfl rfl zz10 ?_
        with_reducible refine (strconv_Itoa.calls a0_0 t178 _ A8.out (HL.later zz5)).mono ?_
        rintro e w16 ⟨rfl, hb⟩
        refine ⟨_, rfl, ?_⟩
        have n0_ := qH (qD (g := gb177) zz8 hb)
        have n1_ := qH (below_step zz5 hb)
        clear BK177
        clear HB
        have BK177 := n0_
        have HB := n1_
        clear n0_ n1_
        (try clear hb)
        (try clear hb2)
        (try clear hk)
        (try clear hi)
        refine hK.out _ _ ⟨(qE BK177.out 0).trans rfl, (qE BK177.out 1).trans rfl, (qE BK177.out 2).trans rfl⟩ (fun hHeld => ?_)
        clear hK K
        refine norm_ (a' := ?_) ?_ ?_
        rotate_left
        ·show Act.put _ (some 17) _ = _
         simp only [Act.put, zS, zT, zU, zV, zW]
         rfl
        refine pure_ (i := 3) (N := some 18) (v := ?_) (a' := ?_) (lb 19 7791) rfl rfl (any_of HT_.out (by kernel_rfl)) (fun _ _ _ h => h) (Or.inl ⟨by rfl, ?_⟩) ?_ ?_
        rotate_left
        ·intro w'
         go_simp
         with_reducible rfl
        rotate_left
        ·simp only [Act.put, zS, zT, zU, zV, zW]
         rfl
        refine pure_ (i := 4) (N := some 19) (v := ?_) (a' := ?_) (lb 19 7807) rfl rfl (any_of HT_.out (by kernel_rfl)) (fun _ _ _ h => h) (Or.inl ⟨by rfl, ?_⟩) ?_ ?_
        rotate_left
        ·intro w'
         go_simp
         with_reducible rfl
        rotate_left
        ·simp only [Act.put, zS, zT, zU, zV, zW]
         rfl
        refine one_ (i := 7) (N := some 22) (lb 19 7935) rfl rfl (one_of HT_.out (by kernel_rfl)) (by decide) (fun K hK => ?_)
        refine goes_ Tryz.func56 (by kernel_rfl) rfl #[.int .i64 a0_0] (by rfl) rfl rfl zz10 ?_
        with_reducible refine (codicilref29_Reason.calls kj1 a0_0 t179 _ A11.out).mono ?_
        rintro e w17 ⟨rfl, hb⟩
        refine ⟨_, rfl, ?_⟩
        have n0_ := qH (qD (g := gb177) zz8 hb)
        have n1_ := qH (below_step zz5 hb)
        clear BK177
        clear HB
        have BK177 := n0_
        have HB := n1_
        clear n0_ n1_
        (try clear hb)
        (try clear hb2)
        (try clear hk)
        (try clear hi)
        refine hK.out _ _ ⟨(qE BK177.out 0).trans rfl, (qE BK177.out 1).trans rfl, (qE BK177.out 2).trans rfl⟩ (fun hHeld => ?_)
        clear hK K
        refine norm_ (a' := ?_) ?_ ?_
        rotate_left
        ·show Act.put _ (some 22) _ = _
         simp only [Act.put, zS, zT, zU, zV, zW]
         rfl
        refine pure_ (i := 8) (N := some 23) (v := ?_) (a' := ?_) (lb 19 8191) rfl rfl (any_of HT_.out (by kernel_rfl)) (fun _ _ _ h => h) (Or.inl ⟨by rfl, ?_⟩) ?_ ?_
        rotate_left
        ·intro w'
         go_simp
         with_reducible rfl
        rotate_left
        ·simp only [Act.put, zS, zT, zU, zV, zW]
         rfl
        refine one_ (i := 13) (N := some 28) (lb 19 16383) rfl rfl (one_of HT_.out (by kernel_rfl)) (by decide) (fun K hK => ?_)
        refine goes_ Tryz.func53 (by kernel_rfl) rfl #[.string ((((⟨#[72, 84, 84, 80, 47, 49, 46, 49, 32]⟩ : ByteArray) ++ t178) ++ (⟨#[32]⟩ : ByteArray)) ++ t179), .slice A0_1 l0_1.length c0_1, .string a0_2] (by rfl) rfl rfl zz10 ?_
        with_reducible refine (codicilref29_bytes.calls kj1 ((((⟨#[72, 84, 84, 80, 47, 49, 46, 49, 32]⟩ : ByteArray) ++ t178) ++ (⟨#[32]⟩ : ByteArray)) ++ t179) _ _ l0_1 a0_2 t180 true _ ?side1 ?side2 A13.out (HL.later zz5)).mono ?_
        (case side1 => repeat (first | exact (Kd.C_below HR0_1.out HB.out) | (with_reducible refine Kd.C_alloc ?_ _) | (with_reducible refine Kd.C_drewN ?_ _) | (with_reducible refine Kd.C_drew ?_)))
        (case side2 => exact HC0_1.out)
        rintro e w18 ⟨rfl, hb⟩
        refine ⟨_, rfl, ?_⟩
        have n0_ := qH (qD (g := gb177) zz8 hb)
        have n1_ := qH (below_step zz5 hb)
        clear BK177
        clear HB
        have BK177 := n0_
        have HB := n1_
        clear n0_ n1_
        (try clear hb)
        (try clear hb2)
        (try clear hk)
        (try clear hi)
        refine hK.out _ _ ⟨(qE BK177.out 0).trans rfl, (qE BK177.out 1).trans rfl, (qE BK177.out 2).trans rfl⟩ (fun hHeld => ?_)
        clear hK K
        refine norm_ (a' := ?_) ?_ ?_
        rotate_left
        ·show Act.put _ (some 28) _ = _
         simp only [Act.put, zS, zT, zU, zV, zW]
         rfl
        refine pure_ (i := 14) (N := some 14) (v := ?_) (a' := ?_) (lb 19 32767) rfl rfl (any_of HT_.out (by kernel_rfl)) (fun _ _ _ h => h) (Or.inl ⟨by rfl, ?_⟩) ?_ ?_
        rotate_left
        ·intro w'
         go_simp
         with_reducible rfl
        rotate_left
        ·simp only [Act.put, zS, zT, zU, zV, zW]
         rfl
        refine pure_ (i := 15) (N := some 29) (v := ?_) (a' := ?_) (lb 19 65535) rfl rfl (any_of HT_.out (by kernel_rfl)) (fun _ _ _ h => h) (Or.inl ⟨by rfl, ?_⟩) ?_ ?_
        rotate_left
        ·intro w'
         go_simp
         with_reducible rfl
        rotate_left
        ·simp only [Act.put, zS, zT, zU, zV, zW]
         rfl
        refine pure_ (i := 16) (N := some 30) (v := ?_) (a' := ?_) (lb 19 131071) rfl rfl (any_of HT_.out (by kernel_rfl)) (fun _ _ _ h => h) (Or.inl ⟨by rfl, ?_⟩) ?_ ?_
        rotate_left
        ·intro w'
         go_simp
         with_reducible rfl
        rotate_left
        ·simp only [Act.put, zS, zT, zU, zV, zW]
         rfl
        refine pure_ (i := 17) (N := some 4) (v := ?_) (a' := ?_) (lb 19 262143) rfl rfl (any_of HT_.out (by kernel_rfl)) (fun _ _ _ h => h) (Or.inl ⟨by rfl, ?_⟩) ?_ ?_
        rotate_left
        ·intro w'
         go_simp
         with_reducible rfl
        rotate_left
        ·simp only [Act.put, zS, zT, zU, zV, zW]
         rfl
        refine pure_ (i := 18) (N := some 5) (v := ?_) (a' := ?_) (lb 19 524287) rfl rfl (any_of HT_.out (by kernel_rfl)) (fun _ _ _ h => h) (Or.inl ⟨by rfl, ?_⟩) ?_ ?_
        rotate_left
        ·intro w'
         go_simp
         with_reducible rfl
        rotate_left
        ·simp only [Act.put, zS, zT, zU, zV, zW]
         rfl
        refine done_ (done_of HT_.out (by kernel_rfl)) ?_
        try go_wp2
        go_ret2
        exact ⟨by first | rfl | (simp [errW_none, errW_some] <;> rfl) | (simp [*, errW_none, errW_some] <;> rfl), by repeat (first | (with_reducible first | exact HB.out | apply qL | apply qJ | apply qK | refine qI ?_ GE177.out) | exact HB.out)⟩
       ·replace c14 := Bool.eq_false_iff.mpr c14
        subst c14
        have H1 : (some ((⟨#[]⟩ : ByteArray), 2)) = some (r1, r2) := by rw [if_neg (show ¬ (false = true) by decide)] at H; exact H
        clear H
        have H := H1
        clear H1
        simp only [Option.some.injEq, Prod.mk.injEq] at H
        obtain ⟨rfl, rfl⟩ := H
        try go_wp2
        have n0_ := qH (qC BK177.out)
        have n1_ := qH (qK HB.out)
        clear BK177
        clear HB
        have BK177 := n0_
        have HB := n1_
        clear n0_ n1_
        refine start_ (n := 19) (S := fun w' => w'.cell? ⟨gb177, 0, none⟩ = some (.int .i64 a0_0) ∧ w'.cell? ⟨gb177, 1, none⟩ = some (.slice A0_1 l0_1.length c0_1) ∧ w'.cell? ⟨gb177, 2, none⟩ = some (.string a0_2)) (ds := []) (lb 19 0) (by kernel_rfl) rfl rfl ⟨(qE BK177.out 0).trans rfl, (qE BK177.out 1).trans rfl, (qE BK177.out 2).trans rfl⟩ (fun hHeld => ?_); refine with_tabW codicilref29_Write.tab3 codicilref29_Write.bits3 (fun HT_ HW_ => ?_)
        generalize wc.drew = w19 at BK177 HB hHeld ⊢
        refine pure_ (i := 0) (N := some 15) (v := ?_) (a' := ?_) (lb 19 1) rfl rfl (any_of HT_.out (by kernel_rfl)) (fun _ _ _ h => h) (Or.inl ⟨by rfl, ?_⟩) ?_ ?_
        rotate_left
        ·intro w'
         go_simp
         with_reducible rfl
        rotate_left
        ·simp only [Act.put, zS, zT, zU, zV, zW]
         rfl
        refine pure_ (i := 5) (N := some 20) (v := ?_) (a' := ?_) (lb 19 33) rfl rfl (any_of HT_.out (by kernel_rfl)) (fun _ _ _ h => h) (Or.inl ⟨by rfl, ?_⟩) ?_ ?_
        rotate_left
        ·intro w'
         go_simp
         with_reducible rfl
        rotate_left
        ·simp only [Act.put, zS, zT, zU, zV, zW]
         rfl
        refine pure_ (i := 9) (N := some 24) (v := ?_) (a' := ?_) (lb 19 545) rfl rfl (any_of HT_.out (by kernel_rfl)) (fun _ _ _ h => h) (Or.inl ⟨by rfl, ?_⟩) ?_ ?_
        rotate_left
        ·intro w'
         go_simp
         with_reducible rfl
        rotate_left
        ·simp only [Act.put, zS, zT, zU, zV, zW]
         rfl
        refine pure_ (i := 11) (N := some 26) (v := ?_) (a' := ?_) (lb 19 2593) rfl rfl (any_of HT_.out (by kernel_rfl)) (fun _ _ _ h => h) (Or.inl ⟨by rfl, ?_⟩) ?_ ?_
        rotate_left
        ·intro w'
         go_simp
         with_reducible rfl
        rotate_left
        ·simp only [Act.put, zS, zT, zU, zV, zW]
         rfl
        refine take_ (i := 1) (N := some 16) (v := ?_) (a' := ?_) (lb 19 2595) rfl rfl (take_ofW HT_.out HW_.out (by kernel_rfl)) (fun _ _ _ h => h) (Or.inl ⟨by rfl, ?_⟩) hHeld ?_ ?_
        rotate_left
        ·rintro w' ⟨s0, s1, s2⟩
         go_simp
         with_reducible rfl
        rotate_left
        ·simp only [Act.put, zS, zT, zU, zV, zW]
         rfl
        refine take_ (i := 6) (N := some 21) (v := ?_) (a' := ?_) (lb 19 2659) rfl rfl (take_ofW HT_.out HW_.out (by kernel_rfl)) (fun _ _ _ h => h) (Or.inl ⟨by rfl, ?_⟩) hHeld ?_ ?_
        rotate_left
        ·rintro w' ⟨s0, s1, s2⟩
         go_simp
         with_reducible rfl
        rotate_left
        ·simp only [Act.put, zS, zT, zU, zV, zW]
         rfl
        refine take_ (i := 10) (N := some 25) (v := ?_) (a' := ?_) (lb 19 3683) rfl rfl (take_ofW HT_.out HW_.out (by kernel_rfl)) (fun _ _ _ h => h) (Or.inl ⟨by rfl, ?_⟩) hHeld ?_ ?_
        rotate_left
        ·rintro w' ⟨s0, s1, s2⟩
         go_simp
         with_reducible rfl
        rotate_left
        ·simp only [Act.put, zS, zT, zU, zV, zW]
         rfl
        refine take_ (i := 12) (N := some 27) (v := ?_) (a' := ?_) (lb 19 7779) rfl rfl (take_ofW HT_.out HW_.out (by kernel_rfl)) (fun _ _ _ h => h) (Or.inl ⟨by rfl, ?_⟩) hHeld ?_ ?_
        rotate_left
        ·rintro w' ⟨s0, s1, s2⟩
         go_simp
         with_reducible rfl
        rotate_left
        ·simp only [Act.put, zS, zT, zU, zV, zW]
         rfl
        refine one_ (i := 2) (N := some 17) (lb 19 7783) rfl rfl (one_of HT_.out (by kernel_rfl)) (by decide) (fun K hK => ?_)
        refine goes_ Tryz.func54 (by kernel_rfl) rfl #[.int .i64 a0_0] (by rfl) rfl rfl zz10 ?_
        with_reducible refine (strconv_Itoa.calls a0_0 t178 _ A8.out (HL.later zz5)).mono ?_
        rintro e w20 ⟨rfl, hb⟩
        refine ⟨_, rfl, ?_⟩
        have n0_ := qH (qD (g := gb177) zz8 hb)
        have n1_ := qH (below_step zz5 hb)
        clear BK177
        clear HB
        have BK177 := n0_
        have HB := n1_
        clear n0_ n1_
        (try clear hb)
        (try clear hb2)
        (try clear hk)
        (try clear hi)
        refine hK.out _ _ ⟨(qE BK177.out 0).trans rfl, (qE BK177.out 1).trans rfl, (qE BK177.out 2).trans rfl⟩ (fun hHeld => ?_)
        clear hK K
        refine norm_ (a' := ?_) ?_ ?_
        rotate_left
        ·show Act.put _ (some 17) _ = _
         simp only [Act.put, zS, zT, zU, zV, zW]
         rfl
        refine pure_ (i := 3) (N := some 18) (v := ?_) (a' := ?_) (lb 19 7791) rfl rfl (any_of HT_.out (by kernel_rfl)) (fun _ _ _ h => h) (Or.inl ⟨by rfl, ?_⟩) ?_ ?_
        rotate_left
        ·intro w'
         go_simp
         with_reducible rfl
        rotate_left
        ·simp only [Act.put, zS, zT, zU, zV, zW]
         rfl
        refine pure_ (i := 4) (N := some 19) (v := ?_) (a' := ?_) (lb 19 7807) rfl rfl (any_of HT_.out (by kernel_rfl)) (fun _ _ _ h => h) (Or.inl ⟨by rfl, ?_⟩) ?_ ?_
        rotate_left
        ·intro w'
         go_simp
         with_reducible rfl
        rotate_left
        ·simp only [Act.put, zS, zT, zU, zV, zW]
         rfl
        refine one_ (i := 7) (N := some 22) (lb 19 7935) rfl rfl (one_of HT_.out (by kernel_rfl)) (by decide) (fun K hK => ?_)
        refine goes_ Tryz.func56 (by kernel_rfl) rfl #[.int .i64 a0_0] (by rfl) rfl rfl zz10 ?_
        with_reducible refine (codicilref29_Reason.calls kj1 a0_0 t179 _ A11.out).mono ?_
        rintro e w21 ⟨rfl, hb⟩
        refine ⟨_, rfl, ?_⟩
        have n0_ := qH (qD (g := gb177) zz8 hb)
        have n1_ := qH (below_step zz5 hb)
        clear BK177
        clear HB
        have BK177 := n0_
        have HB := n1_
        clear n0_ n1_
        (try clear hb)
        (try clear hb2)
        (try clear hk)
        (try clear hi)
        refine hK.out _ _ ⟨(qE BK177.out 0).trans rfl, (qE BK177.out 1).trans rfl, (qE BK177.out 2).trans rfl⟩ (fun hHeld => ?_)
        clear hK K
        refine norm_ (a' := ?_) ?_ ?_
        rotate_left
        ·show Act.put _ (some 22) _ = _
         simp only [Act.put, zS, zT, zU, zV, zW]
         rfl
        refine pure_ (i := 8) (N := some 23) (v := ?_) (a' := ?_) (lb 19 8191) rfl rfl (any_of HT_.out (by kernel_rfl)) (fun _ _ _ h => h) (Or.inl ⟨by rfl, ?_⟩) ?_ ?_
        rotate_left
        ·intro w'
         go_simp
         with_reducible rfl
        rotate_left
        ·simp only [Act.put, zS, zT, zU, zV, zW]
         rfl
        refine one_ (i := 13) (N := some 28) (lb 19 16383) rfl rfl (one_of HT_.out (by kernel_rfl)) (by decide) (fun K hK => ?_)
        refine goes_ Tryz.func53 (by kernel_rfl) rfl #[.string ((((⟨#[72, 84, 84, 80, 47, 49, 46, 49, 32]⟩ : ByteArray) ++ t178) ++ (⟨#[32]⟩ : ByteArray)) ++ t179), .slice A0_1 l0_1.length c0_1, .string a0_2] (by rfl) rfl rfl zz10 ?_
        with_reducible refine (codicilref29_bytes.calls kj1 ((((⟨#[72, 84, 84, 80, 47, 49, 46, 49, 32]⟩ : ByteArray) ++ t178) ++ (⟨#[32]⟩ : ByteArray)) ++ t179) _ _ l0_1 a0_2 t180 false _ ?side1 ?side2 A13.out (HL.later zz5)).mono ?_
        (case side1 => repeat (first | exact (Kd.C_below HR0_1.out HB.out) | (with_reducible refine Kd.C_alloc ?_ _) | (with_reducible refine Kd.C_drewN ?_ _) | (with_reducible refine Kd.C_drew ?_)))
        (case side2 => exact HC0_1.out)
        rintro e w22 ⟨rfl, hb⟩
        refine ⟨_, rfl, ?_⟩
        have n0_ := qH (qD (g := gb177) zz8 hb)
        have n1_ := qH (below_step zz5 hb)
        clear BK177
        clear HB
        have BK177 := n0_
        have HB := n1_
        clear n0_ n1_
        (try clear hb)
        (try clear hb2)
        (try clear hk)
        (try clear hi)
        refine hK.out _ _ ⟨(qE BK177.out 0).trans rfl, (qE BK177.out 1).trans rfl, (qE BK177.out 2).trans rfl⟩ (fun hHeld => ?_)
        clear hK K
        refine norm_ (a' := ?_) ?_ ?_
        rotate_left
        ·show Act.put _ (some 28) _ = _
         simp only [Act.put, zS, zT, zU, zV, zW]
         rfl
        refine pure_ (i := 14) (N := some 14) (v := ?_) (a' := ?_) (lb 19 32767) rfl rfl (any_of HT_.out (by kernel_rfl)) (fun _ _ _ h => h) (Or.inl ⟨by rfl, ?_⟩) ?_ ?_
        rotate_left
        ·intro w'
         go_simp
         with_reducible rfl
        rotate_left
        ·simp only [Act.put, zS, zT, zU, zV, zW]
         rfl
        refine pure_ (i := 15) (N := some 29) (v := ?_) (a' := ?_) (lb 19 65535) rfl rfl (any_of HT_.out (by kernel_rfl)) (fun _ _ _ h => h) (Or.inl ⟨by rfl, ?_⟩) ?_ ?_
        rotate_left
        ·intro w'
         go_simp
         with_reducible rfl
        rotate_left
        ·simp only [Act.put, zS, zT, zU, zV, zW]
         rfl
        refine pure_ (i := 16) (N := some 30) (v := ?_) (a' := ?_) (lb 19 131071) rfl rfl (any_of HT_.out (by kernel_rfl)) (fun _ _ _ h => h) (Or.inl ⟨by rfl, ?_⟩) ?_ ?_
        rotate_left
        ·intro w'
         go_simp
         with_reducible rfl
        rotate_left
        ·simp only [Act.put, zS, zT, zU, zV, zW]
         rfl
        refine pure_ (i := 17) (N := some 4) (v := ?_) (a' := ?_) (lb 19 262143) rfl rfl (any_of HT_.out (by kernel_rfl)) (fun _ _ _ h => h) (Or.inl ⟨by rfl, ?_⟩) ?_ ?_
        rotate_left
        ·intro w'
         go_simp
         with_reducible rfl
        rotate_left
        ·simp only [Act.put, zS, zT, zU, zV, zW]
         rfl
        refine pure_ (i := 18) (N := some 5) (v := ?_) (a' := ?_) (lb 19 524287) rfl rfl (any_of HT_.out (by kernel_rfl)) (fun _ _ _ h => h) (Or.inl ⟨by rfl, ?_⟩) ?_ ?_
        rotate_left
        ·intro w'
         go_simp
         with_reducible rfl
        rotate_left
        ·simp only [Act.put, zS, zT, zU, zV, zW]
         rfl
        refine done_ (done_of HT_.out (by kernel_rfl)) ?_
        try go_wp2
        go_ret2
        exact ⟨by first | rfl | (simp [errW_none, errW_some] <;> rfl) | (simp [*, errW_none, errW_some] <;> rfl), by repeat (first | (with_reducible first | exact HB.out | apply qL | apply qJ | apply qK | refine qI ?_ GE177.out) | exact HB.out)⟩
      ·rw [if_neg c12] at H
       exact absurd H (by simp)
     ·rw [if_neg c10] at H
      exact absurd H (by simp)
    ·rw [if_neg c9] at H
     exact absurd H (by simp)

/-! ### codicilref29_Get: function 25 -/
def codicilref29_Get.l0 : Nat → List (S59) → ByteArray → Int → Option (ByteArray × Bool)
 | 0, _, _, _ => none
 | k + 1, x0, x1, x6 => if x6 < (x0.length : Int) then (if 0 ≤ x6 then (if ((rd_T59 x0 x6).f0).toList = x1.toList then (some ((rd_T59 x0 x6).f1, true)) else (codicilref29_Get.l0 k x0 x1 (wrap64 (x6 + 1)))) else (none)) else (some ((⟨#[]⟩ : ByteArray), false))
def codicilref29_Get.f (k : Nat) (l0 : List (S59)) (a1 : ByteArray) : Option (ByteArray × Bool) := codicilref29_Get.l0 k l0 a1 0
theorem codicilref29_Get.mono_l : ∀ k, (∀ y0 y1 y2, LeO (codicilref29_Get.l0 k y0 y1 y2) (codicilref29_Get.l0 (k + 1) y0 y1 y2))
 | 0 => fun _ _ _ r h => by simp [codicilref29_Get.l0] at h
 | k + 1 => by
  have ih0 := codicilref29_Get.mono_l k
  ·intro y0 y1 y2
   unfold codicilref29_Get.l0
   repeat' first
   | (with_reducible exact ih0 _ _ _)
   | (with_reducible exact LeO.refl _)
   | (with_reducible exact LeO.none _)
   | (with_reducible refine LeO.ite ?_ ?_)
   | (with_reducible refine LeO.bind ?_ (fun _ => ?_))
   | exact ih0 _ _ _
   | exact LeO.none _
   | refine LeO.ite ?_ ?_
   | refine LeO.bind ?_ (fun _ => ?_)
theorem codicilref29_Get.mono : ∀ a0 a1 k, LeO (codicilref29_Get.f k a0 a1) (codicilref29_Get.f (k + 1) a0 a1) := by
 intro a0 a1 k
 have ih0 := codicilref29_Get.mono_l k
 unfold codicilref29_Get.f
 repeat' first
   | (with_reducible exact ih0 _ _ _)
   | (with_reducible exact LeO.refl _)
   | (with_reducible exact LeO.none _)
   | (with_reducible refine LeO.ite ?_ ?_)
   | (with_reducible refine LeO.bind ?_ (fun _ => ?_))
   | exact ih0 _ _ _
   | exact LeO.none _
   | refine LeO.ite ?_ ?_
   | refine LeO.bind ?_ (fun _ => ?_)
set_option maxHeartbeats 8000000 in
set_option maxRecDepth 100000 in
theorem codicilref29_Get.calls (k : Nat) (A0 : Option Addr) (c0 : Nat) (l0 : List (S59)) (a1 : ByteArray) (r1 : ByteArray) (r2 : Bool) (w : World) (hr0 : Kd.C k59 w A0 l0.length l0) (hc0 : l0.length ≤ c0) (h : codicilref29_Get.f k l0 a1 = some (r1, r2)) :
  Calls Tryz.prog 25 #[.slice A0 l0.length c0, .string a1] w fun e w' => e = .returned (.tuple #[.string r1, .bool r2]) ∧ Drawn0 w w' := by
 have HR0 := qH hr0
 have HC0 := qH hc0
 clear hr0 hc0
 have H : (codicilref29_Get.l0 k l0 a1 0) = some (r1, r2) := h
 clear h
 have H' := qH H
 clear H
 go_enter Tryz.func25, Tryz.ntmps25
 go_wp2
 go_loopg [6] k (fun kq v6 w' => ∃ (x6_1 : Int), v6 = .int .i64 x6_1 ∧ Aside0 (codicilref29_Get.l0 kq l0 a1 x6_1 = some (r1, r2)) ∧ Aside0 (kq ≤ k) ∧ Drawn0 w w')
 case atStart => exact ⟨(0), zz1, H', ⟨Nat.le_refl _⟩, by repeat (first | exact Drawn0.refl _ | apply Drawn0.step)⟩
 case round =>
  clear H'
  try clear c2
  try clear p2
  obtain ⟨x6_1, rfl, HA, HK1, ⟨m1, rfl⟩⟩ := hrel
  cases gk with
  | zero => exact absurd HA.out (by simp [codicilref29_Get.l0])
  | succ k1 =>
   have H := HA.out
   clear HA
   simp only [codicilref29_Get.l0] at H
   by_cases c3 : x6_1 < (l0.length : Int)
   ·rw [if_pos c3] at H
    have c3b0 : decide (x6_1 < (l0.length : Int)) = true := decide_eq_true c3
    clear c3
    by_cases c4 : 0 ≤ x6_1
    ·rw [if_pos c4] at H
     have c4b0 : decide (0 ≤ x6_1) = true := decide_eq_true c4
     clear c4
     by_cases c5 : ((rd_T59 l0 x6_1).f0).toList = a1.toList
     ·rw [if_pos c5] at H
      have c5b0 : (((rd_T59 l0 x6_1).f0).toList == a1.toList) = true := beq_iff_eq.mpr c5
      have c5b1 : (((rd_T59 l0 x6_1).f0).toList != a1.toList) = false := bne_eq_false_iff_eq.mpr c5
      clear c5
      simp only [Option.some.injEq, Prod.mk.injEq] at H
      obtain ⟨rfl, rfl⟩ := H
      have p182 : 0 ≤ (x6_1 : Int) := of_decide_eq_true zz0
      have q182 : x6_1 < (l0.length : Int) := of_decide_eq_true zz0
      obtain ⟨ad182, e182, hx182_0, hx182_1⟩ := at_T59 HR0.out x6_1 p182 q182
      cases e182
      replace p182 := eq_true p182
      replace q182 := eq_true q182
      have p183 : 0 ≤ (x6_1 : Int) := of_decide_eq_true zz0
      have q183 : x6_1 < (l0.length : Int) := of_decide_eq_true zz0
      obtain ⟨ad183, e183, hx183_0, hx183_1⟩ := at_T59 HR0.out x6_1 p183 q183
      obtain rfl : ad182 = ad183 := (by injection e183)
      replace p183 := eq_true p183
      replace q183 := eq_true q183
      go_wp2
      go_ret2
      exact ⟨by first | rfl | (simp; done) | (simp; exact qEmp _) | (simp [*]; done), by repeat (first | exact Drawn0.refl _ | apply Drawn0.step)⟩
     ·rw [if_neg c5] at H
      have c5b0 : (((rd_T59 l0 x6_1).f0).toList == a1.toList) = false := beq_eq_false_iff_ne.mpr c5
      have c5b1 : (((rd_T59 l0 x6_1).f0).toList != a1.toList) = true := bne_iff_ne.mpr c5
      have H' := qH H
      clear H
      have p182 : 0 ≤ (x6_1 : Int) := of_decide_eq_true zz0
      have q182 : x6_1 < (l0.length : Int) := of_decide_eq_true zz0
      obtain ⟨ad182, e182, hx182_0, hx182_1⟩ := at_T59 HR0.out x6_1 p182 q182
      cases e182
      replace p182 := eq_true p182
      replace q182 := eq_true q182
      go_wp2
      go_roundg k1
      case measure => have := HK1.out; omega
      case rel => exact ⟨(wrap64 (x6_1 + 1)), zz1, H', ⟨by have := HK1.out; omega⟩, by repeat (first | exact Drawn0.refl _ | apply Drawn0.step)⟩
    ·rw [if_neg c4] at H
     exact absurd H (by simp)
   ·rw [if_neg c3] at H
    have c3b0 : decide (x6_1 < (l0.length : Int)) = false := decide_eq_false c3
    clear c3
    simp only [Option.some.injEq, Prod.mk.injEq] at H
    obtain ⟨rfl, rfl⟩ := H
    go_wp2
    go_ret2
    exact ⟨by first | rfl | (simp; done) | (simp; exact qEmp _) | (simp [*]; done), by repeat (first | exact Drawn0.refl _ | apply Drawn0.step)⟩

end Go.Proofs.YtddjhmelniphgaaGreatDoor.Print
