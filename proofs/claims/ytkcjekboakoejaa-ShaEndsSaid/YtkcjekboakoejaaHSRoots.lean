/- Contracts of sha.square and sha.cube: the bits behind the point of roots. -/
import Derived.Test.YtkcjekboakoejaaHSRot
import Derived.Test.YtkcjekboakoejaaHShelf
import Derived.Test.YtkcjekboakoejaaHSq
import Derived.BigGuardPart
import Derived.Laws.Externs
namespace Go.Proofs.Ytkcjekboakoejaa.Print
open Go Go.RowKit Go.Proofs.YtkcjekboakoejaaW.PrintWords
set_option linter.unusedVariables false
set_option linter.unusedSimpArgs false

/-- The bit that is tried when so many are left. -/
def bitOf (r : Nat) : Nat := if r = 0 then 0 else 2 ^ (r - 1)
theorem bitOf_half (r : Nat) : bitOf (r + 1) / 2 = bitOf r := by
  unfold bitOf
  rw [if_neg (by omega), Nat.add_sub_cancel]
  cases r with
  | zero => decide
  | succ n => rw [if_neg (by omega), Nat.add_sub_cancel, Nat.pow_succ]; omega
theorem bitOf_lt {r j : Nat} (h : r ≤ j) : bitOf r < 2 ^ j := by
  unfold bitOf
  split
  · exact Nat.two_pow_pos j
  · exact Nat.pow_lt_pow_right (by decide) (by omega)
def sqOk (p y : Nat) : Bool := decide (y * y / 18446744073709551616 < p) || (decide (y * y / 18446744073709551616 = p) && decide (y * y % 18446744073709551616 = 0))
def sqGo (p : Nat) : Nat → Nat → Nat
  | 0, x => x
  | r + 1, x => sqGo p r (if sqOk p (x ||| bitOf (r + 1)) = true then x ||| bitOf (r + 1) else x)
def squareN (p : Nat) : Nat := sqGo p 37 0 % 4294967296
theorem sq_hi {y : Nat} (h : y < 2 ^ 37) : y * y / 18446744073709551616 < 18446744073709551616 := by
  have h1 : y * y < 2 ^ 37 * 2 ^ 37 := Nat.mul_lt_mul'' h h
  have h2 : y * y / 18446744073709551616 ≤ y * y := Nat.div_le_self _ _
  have h3 : y * y / 18446744073709551616 < 1048576 := Nat.div_lt_of_lt_mul (Nat.lt_of_lt_of_le h1 (by decide))
  omega
theorem or_lt37 {a b : Nat} (ha : a < 2 ^ 37) (hb : b < 2 ^ 37) : a ||| b < 2 ^ 37 := Nat.or_lt_two_pow ha hb
theorem sqGo_succ (p r x : Nat) : sqGo p (r + 1) x = sqGo p r (if sqOk p (x ||| bitOf (r + 1)) = true then x ||| bitOf (r + 1) else x) := rfl
theorem sqGo_zero (p x : Nat) : sqGo p 0 x = x := rfl
theorem bitOf_pos (r : Nat) : 0 < bitOf (r + 1) := by unfold bitOf; rw [if_neg (by omega)]; exact Nat.two_pow_pos _
theorem conv32 (x : Nat) : IntKind.u32.wrap (x : Int) = ((x % 4294967296 : Nat) : Int) := by rw [IntKind.wrap_u32]; omega
set_option maxRecDepth 1000000 in
set_option maxHeartbeats 4000000 in
theorem square_any (p : Nat) (hp : p < 18446744073709551616) (w : World) : Calls Try.prog 62 #[.int .u64 p] w fun e w' => e = .returned (.int .u32 (squareN p)) ∧ w' = w := by
  obtain ⟨G, hG⟩ : ∃ G, G = sqGo p 37 0 := ⟨_, rfl⟩
  have hs : squareN p = G % 4294967296 := by unfold squareN; rw [hG]
  obtain ⟨R, hR⟩ : ∃ R, R = squareN p := ⟨_, rfl⟩
  rw [← hR] at hs ⊢
  have HS := Aside0.mk hs
  have HG := Aside0.mk hG
  clear hs hG hR
  have hb37 : (68719476736 : Int) = ((bitOf 37 : Nat) : Int) := by decide
  have HB37 := Aside0.mk hb37
  clear hb37
  go_enter Try.func62, Try.ntmps62
  go_wp2
  rw [HB37.out]
  go_loop [3, 4] (fun v3 v4 => ∃ (r x : Nat), r ≤ 37 ∧ v3 = .int .u64 x ∧ v4 = .int .u64 (bitOf r : Nat) ∧ Aside0 (x < 2 ^ 37 ∧ sqGo p r x = G)) (fun _ v4 => (intOf v4).toNat)
  case atStart => exact ⟨37, 0, Nat.le_refl _, rfl, rfl, Aside0.mk ⟨by decide, HG.out.symm⟩⟩
  case round =>
    obtain ⟨r, x, hr, rfl, rfl, HX⟩ := hrel
    cases r with
    | zero =>
      have h0 : bitOf 0 = 0 := rfl
      rw [h0]
      obtain rfl : x = G := HX.out.2
      clear h0 HX HG
      go_wp2
      go_ret
      exact ⟨by rw [HS.out, ← conv32]; rfl, rfl⟩
    | succ r =>
      have hx := HX.out.1
      have hst := HX.out.2
      rw [sqGo_succ] at hst
      have hbl := bitOf_lt hr
      have hbp := bitOf_pos r
      have hbh := bitOf_half r
      have hyl := or_lt37 hx hbl
      obtain ⟨nb, hnb⟩ : ∃ nb, nb = bitOf r := ⟨_, rfl⟩
      have HNB := Aside0.mk hnb
      rw [← hnb] at hbh
      clear hnb
      generalize bitOf (r + 1) = bt at *
      have hor : bits .or .u64 (x : Int) (bt : Int) = ((x ||| bt : Nat) : Int) := bits_or_u64_nat x bt (by omega) (by omega)
      generalize x ||| bt = y at *
      have hmul := fun W => Try.bits_Mul64 y y (by omega) (by omega) W
      have hok : sqOk p y = (decide (y * y / 18446744073709551616 < p) || (decide (y * y / 18446744073709551616 = p) && decide (y * y % 18446744073709551616 = 0))) := rfl
      have hhi : y * y / 18446744073709551616 < 18446744073709551616 := sq_hi hyl
      generalize y * y / 18446744073709551616 = hi at *
      generalize y * y % 18446744073709551616 = lo at *
      have HST := Aside0.mk hst
      have HOK := Aside0.mk hok
      have HYL := Aside0.mk hyl
      have HHALF := Aside0.mk hbh
      have HXX := Aside0.mk hx
      clear hst hok hbl hx hyl hbh HX
      have yes : sqOk p y = true → Aside0 (y < 2 ^ 37 ∧ sqGo p r y = G) := fun h => Aside0.mk ⟨HYL.out, by have := HST.out; rw [if_pos h] at this; exact this⟩
      have no : sqOk p y = false → Aside0 (x < 2 ^ 37 ∧ sqGo p r x = G) := fun h => Aside0.mk ⟨HXX.out, by have := HST.out; rw [if_neg (by rw [h]; decide)] at this; exact this⟩
      have hz : (0 : Int) < (bt : Int) := by omega
      by_cases c1 : hi < p
      · have HY := Aside0.mk (yes (by rw [HOK.out, decide_eq_true c1, Bool.true_or]))
        have d1 : (hi : Int) < (p : Int) := by omega
        have b1 : decide (hi < p) = true := decide_eq_true c1
        clear yes no
        go_wp2_with (go_at_call 76; refine (hmul _).mono ?_; rintro e w' ⟨rfl, rfl⟩)
        go_round
        case rel => exact ⟨r, y, by omega, rfl, by rw [← HNB.out, ← HHALF.out]; rfl, HY.out⟩
        case measure => simp [intOf]; omega
      · have d1 : ¬ (hi : Int) < (p : Int) := by omega
        have b1 : decide (hi < p) = false := decide_eq_false c1
        by_cases c2 : hi = p
        · by_cases c3 : lo = 0
          · have HY := Aside0.mk (yes (by rw [HOK.out, decide_eq_true c2, decide_eq_true c3]; simp))
            clear yes no HOK HST
            subst c3
            have b2 : ((hi : Int) == (p : Int)) = true := by rw [c2]; exact beq_self_eq_true _
            clear c2
            go_wp2_with (go_at_call 76; refine (hmul _).mono ?_; rintro e w' ⟨rfl, rfl⟩)
            go_round
            case rel => exact ⟨r, y, by omega, rfl, by rw [← HNB.out, ← HHALF.out]; rfl, HY.out⟩
            case measure => simp [intOf]; omega
          · have HY := Aside0.mk (no (by rw [HOK.out, decide_eq_false c1, decide_eq_false c3]; simp))
            have b2 : ((hi : Int) == (p : Int)) = true := by rw [c2]; exact beq_self_eq_true _
            have b3 : ((lo : Int) == 0) = false := by simp; omega
            clear yes no c2 HOK HST
            go_wp2_with (go_at_call 76; refine (hmul _).mono ?_; rintro e w' ⟨rfl, rfl⟩)
            go_round
            case rel => exact ⟨r, x, by omega, rfl, by rw [← HNB.out, ← HHALF.out]; rfl, HY.out⟩
            case measure => simp [intOf]; omega
        · have HY := Aside0.mk (no (by rw [HOK.out, decide_eq_false c1, decide_eq_false c2]; simp))
          have b2 : ((hi : Int) == (p : Int)) = false := by simp; omega
          clear yes no
          go_wp2_with (go_at_call 76; refine (hmul _).mono ?_; rintro e w' ⟨rfl, rfl⟩)
          go_round
          case rel => exact ⟨r, x, by omega, rfl, by rw [← HNB.out, ← HHALF.out]; rfl, HY.out⟩
          case measure => simp [intOf]; omega

/-- Is the cube of y not more than p? (By four words.) -/
def cuOk (p y : Nat) : Bool :=
  let hi := y * y / 18446744073709551616
  let lo := y * y % 18446744073709551616
  let h2 := lo * y / 18446744073709551616
  let l2 := lo * y % 18446744073709551616
  let h3 := hi * y / 18446744073709551616
  let l3 := hi * y % 18446744073709551616
  let mid := (h2 + l3) % 18446744073709551616
  let top := (h3 + (h2 + l3) / 18446744073709551616) % 18446744073709551616
  decide (top < p / 4294967296) || (decide (top = p / 4294967296) && (decide (mid < p * 4294967296 % 18446744073709551616) || (decide (mid = p * 4294967296 % 18446744073709551616) && decide (l2 = 0))))
def cuGo (p : Nat) : Nat → Nat → Nat
  | 0, x => x
  | r + 1, x => cuGo p r (if cuOk p (x ||| bitOf (r + 1)) = true then x ||| bitOf (r + 1) else x)
def cubeN (p : Nat) : Nat := cuGo p 36 0 % 4294967296
theorem cuGo_succ (p r x : Nat) : cuGo p (r + 1) x = cuGo p r (if cuOk p (x ||| bitOf (r + 1)) = true then x ||| bitOf (r + 1) else x) := rfl
theorem or_lt36 {a b : Nat} (ha : a < 2 ^ 36) (hb : b < 2 ^ 36) : a ||| b < 2 ^ 36 := Nat.or_lt_two_pow ha hb
theorem add64_run (x y : Nat) (hx : x < 18446744073709551616) (hy : y < 18446744073709551616) (W : World) :
    (callFunc 77 #[.int .u64 x, .int .u64 y, .int .u64 0]).run Try.prog W =
      .ok (.value (.tuple #[.int .u64 (((x + y) % 18446744073709551616 : Nat) : Int), .int .u64 (((x + y) / 18446744073709551616 : Nat) : Int)])) W := by
  rw [run_callFunc_extern Try.func77 (by kernel_rfl) (by kernel_rfl) (by kernel_rfl) (e := add64Entry) (by kernel_rfl)]
  have h := run_add64 (P := Try.prog) (x : Int) (y : Int) 0 (by omega) (by omega) (by omega) (by omega) W
  rw [h]
  simp only [Result.andThen]
  congr 5 <;> omega
theorem cu_bounds {y : Nat} (h : y < 2 ^ 36) : y * y / 18446744073709551616 < 1048576 ∧ y * y % 18446744073709551616 * y / 18446744073709551616 < 2 ^ 36 := by
  have h1 : y * y < 2 ^ 36 * 2 ^ 36 := Nat.mul_lt_mul'' h h
  refine ⟨Nat.div_lt_of_lt_mul (Nat.lt_of_lt_of_le h1 (by decide)), Nat.div_lt_of_lt_mul ?_⟩
  exact Nat.mul_lt_mul'' (Nat.mod_lt _ (by decide)) h
theorem cu_bounds2 {hi y : Nat} (h : y < 2 ^ 36) (h1 : hi < 1048576) : hi * y / 18446744073709551616 < 1048576 := by
  refine Nat.div_lt_of_lt_mul ?_
  have : hi * y < 1048576 * 2 ^ 36 := Nat.mul_lt_mul'' h1 h
  omega
set_option maxRecDepth 1000000 in
set_option maxHeartbeats 8000000 in
theorem cube_any (p : Nat) (hp : p < 18446744073709551616) (w : World) : Calls Try.prog 61 #[.int .u64 p] w fun e w' => e = .returned (.int .u32 (cubeN p)) ∧ w' = w := by
  obtain ⟨G, hG⟩ : ∃ G, G = cuGo p 36 0 := ⟨_, rfl⟩
  have hs : cubeN p = G % 4294967296 := by unfold cubeN; rw [hG]
  obtain ⟨R, hR⟩ : ∃ R, R = cubeN p := ⟨_, rfl⟩
  rw [← hR] at hs ⊢
  have HS := Aside0.mk hs
  have HG := Aside0.mk hG
  clear hs hG hR
  have hb36 : (34359738368 : Int) = ((bitOf 36 : Nat) : Int) := by decide
  have HB36 := Aside0.mk hb36
  clear hb36
  go_enter Try.func61, Try.ntmps61
  go_wp2
  rw [HB36.out]
  go_loop [3, 4] (fun v3 v4 => ∃ (r x : Nat), r ≤ 36 ∧ v3 = .int .u64 x ∧ v4 = .int .u64 (bitOf r : Nat) ∧ Aside0 (x < 2 ^ 36 ∧ cuGo p r x = G)) (fun _ v4 => (intOf v4).toNat)
  case atStart => exact ⟨36, 0, Nat.le_refl _, rfl, rfl, Aside0.mk ⟨by decide, HG.out.symm⟩⟩
  case round =>
    obtain ⟨r, x, hr, rfl, rfl, HX⟩ := hrel
    cases r with
    | zero =>
      have h0 : bitOf 0 = 0 := rfl
      rw [h0]
      obtain rfl : x = G := HX.out.2
      clear h0 HX HG
      go_wp2
      go_ret
      exact ⟨by rw [HS.out, ← conv32]; rfl, rfl⟩
    | succ r =>
      have hx := HX.out.1
      have hst := HX.out.2
      rw [cuGo_succ] at hst
      have hbl := bitOf_lt hr
      have hbp := bitOf_pos r
      have hbh := bitOf_half r
      have hyl := or_lt36 hx hbl
      obtain ⟨nb, hnb⟩ : ∃ nb, nb = bitOf r := ⟨_, rfl⟩
      have HNB := Aside0.mk hnb
      rw [← hnb] at hbh
      clear hnb
      generalize bitOf (r + 1) = bt at *
      have hor : bits .or .u64 (x : Int) (bt : Int) = ((x ||| bt : Nat) : Int) := bits_or_u64_nat x bt (by omega) (by omega)
      generalize x ||| bt = y at *
      have hok : cuOk p y = cuOk p y := rfl
      conv at hok => rhs; simp only [cuOk]
      have hb := cu_bounds hyl
      have hb3 := cu_bounds2 hyl hb.1
      have hm1 := fun W => Try.bits_Mul64 y y (by omega) (by omega) W
      have hlo : y * y % 18446744073709551616 < 18446744073709551616 := Nat.mod_lt _ (by decide)
      have hm2 := fun W => Try.bits_Mul64 (y * y % 18446744073709551616) y hlo (by omega) W
      have hm3 := fun W => Try.bits_Mul64 (y * y / 18446744073709551616) y (by omega) (by omega) W
      have hl2 : y * y % 18446744073709551616 * y % 18446744073709551616 < 18446744073709551616 := Nat.mod_lt _ (by decide)
      have hl3 : y * y / 18446744073709551616 * y % 18446744073709551616 < 18446744073709551616 := Nat.mod_lt _ (by decide)
      generalize y * y / 18446744073709551616 = hi at *
      generalize y * y % 18446744073709551616 = lo at *
      generalize lo * y / 18446744073709551616 = h2 at *
      generalize lo * y % 18446744073709551616 = l2 at *
      generalize hi * y / 18446744073709551616 = h3 at *
      generalize hi * y % 18446744073709551616 = l3 at *
      have hadd := fun W => add64_run h2 l3 (by omega) hl3 W
      have hcy : (h2 + l3) / 18446744073709551616 ≤ 1 := by omega
      have htop : (h3 + (h2 + l3) / 18446744073709551616) % 18446744073709551616 = h3 + (h2 + l3) / 18446744073709551616 := Nat.mod_eq_of_lt (by omega)
      rw [htop] at hok
      generalize (h2 + l3) / 18446744073709551616 = cy at *
      generalize (h2 + l3) % 18446744073709551616 = mid at *
      have hq : IntKind.u64.wrap ((p : Int) * 4294967296) = ((p * 4294967296 % 18446744073709551616 : Nat) : Int) := by rw [IntKind.wrap_u64]; omega
      generalize p * 4294967296 % 18446744073709551616 = q at *
      have HST := Aside0.mk hst
      have HOK := Aside0.mk hok
      have HYL := Aside0.mk hyl
      have HHALF := Aside0.mk hbh
      have HXX := Aside0.mk hx
      clear hst hok hbl hx hyl hbh HX htop
      have yes : cuOk p y = true → Aside0 (y < 2 ^ 36 ∧ cuGo p r y = G) := fun h => Aside0.mk ⟨HYL.out, by have := HST.out; rw [if_pos h] at this; exact this⟩
      have no : cuOk p y = false → Aside0 (x < 2 ^ 36 ∧ cuGo p r x = G) := fun h => Aside0.mk ⟨HXX.out, by have := HST.out; rw [if_neg (by rw [h]; decide)] at this; exact this⟩
      have hz : (0 : Int) < (bt : Int) := by omega
      go_wp2_with (first | (go_at_call 76; (with_reducible refine (hm1 _).mono ?_); rintro e w' ⟨rfl, rfl⟩) | (go_at_call 76; (with_reducible refine (hm2 _).mono ?_); rintro e w' ⟨rfl, rfl⟩) | (go_at_call 76; (with_reducible refine (hm3 _).mono ?_); rintro e w' ⟨rfl, rfl⟩) | (simp only [hadd]))
      all_goals
        clear hm1 hm2 hm3 hadd hor hq
        simp only [beq_iff_eq, beq_eq_false_iff_ne] at *
        have hnb : Value.int IntKind.u64 ((bt : Int) / 2) = Value.int IntKind.u64 ((bitOf r : Nat) : Int) := by rw [← HNB.out, ← HHALF.out]; rfl
        go_round
        case rel =>
          first
            | exact ⟨r, y, by omega, rfl, hnb, yes (by rw [HOK.out]; simp only [Bool.or_eq_true, Bool.and_eq_true, decide_eq_true_eq]; omega)⟩
            | exact ⟨r, x, by omega, rfl, hnb, no (by rw [HOK.out]; simp only [Bool.or_eq_false_iff, Bool.and_eq_false_iff, decide_eq_false_iff_not]; omega)⟩
        case measure => simp [intOf]; omega
end Go.Proofs.Ytkcjekboakoejaa.Print
