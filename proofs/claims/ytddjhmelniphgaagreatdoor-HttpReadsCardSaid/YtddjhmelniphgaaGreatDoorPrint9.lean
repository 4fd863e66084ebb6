-- Written by wip/tools/xprint.py of this session's repo (the kit's print, run with external functions). Lean checks it.
import Derived.Test.YtddjhmelniphgaaGreatDoorHAm
import Derived.Test.YtddjhmelniphgaaGreatDoorPrint0
import Derived.Test.YtddjhmelniphgaaGreatDoorPrint2
import Derived.Test.YtddjhmelniphgaaGreatDoorPrint3
import Derived.Test.YtddjhmelniphgaaGreatDoorPrint8
import Derived.Test.YtddjhmelniphgaaGreatDoorHAlive29
import Derived.Test.YtddjhmelniphgaaGreatDoorHTReq
import Derived.Test.YtddjhmelniphgaaGreatDoorHTTold
namespace Go.Proofs.YtddjhmelniphgaaGreatDoor.Print
open Go.RowKit Go.Proofs.YtddjhmelniphgaaGreatDoorW.PrintWords Go.Proofs.YtddjhmelniphgaaGreatDoorW.PrintLast Go.Proofs.YtddjhmelniphgaaGreatDoorW.PrintMore
attribute [local go_sem] max2_int min2_int max_two min_two max_three min_three max_four min_four   -- for this text's walks alone
set_option linter.unusedVariables false
set_option linter.unusedSimpArgs false

/-! ### codicillaw29_HttpReads: function 3 -/
def codicillaw29_HttpReads.f (k : Nat) (a0 : ByteArray) : Option (Bool) := if (a0.size : Int) > 16384 then ((codicillaw29_alive.f k).bind fun t249 => (some t249)) else ((http_Read.f a0).bind fun bt250 => ((codicilref29_Read.f k a0).bind fun bt259 => ((http_Told.f a0).bind fun bt268 => ((codicilref29_Told.f k a0).bind fun bt276 => ((codicillaw29_Requests.f k bt250.1 bt250.2.1 bt250.2.2.1 bt250.2.2.2.1 bt259.1 bt259.2.1 bt259.2.2.1 bt259.2.2.2.1).bind fun t284 => (if t284 = true then (if bt250.2.2.2.2.1 = bt259.2.2.2.2.1 then (if bt250.2.2.2.2.2 = bt259.2.2.2.2.2 then ((codicillaw29_Responses.f k bt268.1 bt268.2.1 bt268.2.2.1 bt276.1 bt276.2.1 bt276.2.2.1).bind fun t285 => (if t285 = true then (if bt268.2.2.2.1 = bt276.2.2.2.1 then (if bt268.2.2.2.2 = bt276.2.2.2.2 then ((codicillaw29_alive.f k).bind fun t286 => (some t286)) else (some false)) else (some false)) else (some false))) else (some false)) else (some false)) else (some false)))))))
theorem codicillaw29_HttpReads.mono : ∀ a0 k, LeO (codicillaw29_HttpReads.f k a0) (codicillaw29_HttpReads.f (k + 1) a0) := by
 intro a0 k
 unfold codicillaw29_HttpReads.f
 repeat' first
   | (with_reducible exact codicillaw29_Requests.mono _ _ _ _ _ _ _ _ _)
   | (with_reducible exact codicillaw29_Responses.mono _ _ _ _ _ _ _)
   | (with_reducible exact codicillaw29_alive.mono _)
   | (with_reducible exact codicilref29_Read.mono _ _)
   | (with_reducible exact codicilref29_Told.mono _ _)
   | (with_reducible exact LeO.refl _)
   | (with_reducible exact LeO.none _)
   | (with_reducible refine LeO.ite ?_ ?_)
   | (with_reducible refine LeO.bind ?_ (fun _ => ?_))
   | exact codicillaw29_Requests.mono _ _ _ _ _ _ _ _ _
   | exact codicillaw29_Responses.mono _ _ _ _ _ _ _
   | exact codicillaw29_alive.mono _
   | exact codicilref29_Read.mono _ _
   | exact codicilref29_Told.mono _ _
   | exact LeO.none _
   | refine LeO.ite ?_ ?_
   | refine LeO.bind ?_ (fun _ => ?_)
set_option maxHeartbeats 8000000 in
set_option maxRecDepth 100000 in
theorem codicillaw29_HttpReads.calls1 (k : Nat) (a0 : ByteArray) (r : Bool) (w : World) (h : codicillaw29_HttpReads.f k a0 = some r) (hTrue : Aside0 (r = true)) (HL : Laid0 w) :
  Calls Tryz.prog 3 #[.string a0] w fun e w' => e = .returned (.bool r) ∧ Below w.heap.size w w' := by
 have hu25 := Tryz.underlying25
 have hu32 := Tryz.underlying32
 have HB := qH (Below.refl w.heap.size w)
 have H : (if (a0.size : Int) > 16384 then ((codicillaw29_alive.f k).bind fun t249 => (some t249)) else ((http_Read.f a0).bind fun bt250 => ((codicilref29_Read.f k a0).bind fun bt259 => ((http_Told.f a0).bind fun bt268 => ((codicilref29_Told.f k a0).bind fun bt276 => ((codicillaw29_Requests.f k bt250.1 bt250.2.1 bt250.2.2.1 bt250.2.2.2.1 bt259.1 bt259.2.1 bt259.2.2.1 bt259.2.2.2.1).bind fun t284 => (if t284 = true then (if bt250.2.2.2.2.1 = bt259.2.2.2.2.1 then (if bt250.2.2.2.2.2 = bt259.2.2.2.2.2 then ((codicillaw29_Responses.f k bt268.1 bt268.2.1 bt268.2.2.1 bt276.1 bt276.2.1 bt276.2.2.1).bind fun t285 => (if t285 = true then (if bt268.2.2.2.1 = bt276.2.2.2.1 then (if bt268.2.2.2.2 = bt276.2.2.2.2 then ((codicillaw29_alive.f k).bind fun t286 => (some t286)) else (some false)) else (some false)) else (some false))) else (some false)) else (some false)) else (some false)))))))) = some r := h
 clear h
 by_cases c2 : (a0.size : Int) > 16384
 ·rw [if_pos c2] at H
  have c2b0 : decide (16384 < (a0.size : Int)) = true := decide_eq_true c2
  have c2b1 : decide (16384 < a0.size) = true := decide_eq_true zz22
  clear c2
  replace H := Option.bind_eq_some_iff.mp H
  obtain ⟨t249, A30, H⟩ := H
  (try dsimp only at H)
  have A3 := qH A30
  clear A30
  obtain rfl := Option.some.inj H
  simp only [Option.some.injEq, Prod.mk.injEq] at H
  obtain ⟨rfl⟩ := H
  go_enter Tryz.func3, Tryz.ntmps3
  go_wp2_with (first | ((with_reducible refine gate_callee (f := 9) rfl ?_); refine goesL_ (some 18) rfl rfl Tryz.func9 (by kernel_rfl) rfl #[] rfl zz2 ?_; (with_reducible refine (codicillaw29_alive.calls k  t249 _ A3.out (HL.later zz13)).mono ?_); rintro e w4 ⟨rfl, hb⟩; refine ⟨_, rfl, ?_⟩; have n0_ := qH (below_step zz1 hb); clear HB; have HB := n0_; clear n0_; (try clear hb); (try clear hb2); (try clear hk); (try clear hi)))
  go_ret
  exact ⟨by first | rfl | (simp [errW_none, errW_some] <;> rfl) | (simp [*, errW_none, errW_some] <;> rfl), by repeat (first | (with_reducible first | exact HB.out | apply qL | apply qJ | apply qK) | exact HB.out)⟩
 ·rw [if_neg c2] at H
  have c2b0 : decide (16384 < (a0.size : Int)) = false := decide_eq_false c2
  have c2b1 : decide (16384 < a0.size) = false := decide_eq_false zz22
  clear c2
  replace H := Option.bind_eq_some_iff.mp H
  obtain ⟨⟨t250, t251, t252, t255, t256, t257⟩, A50, H⟩ := H
  (try dsimp only at H)
  have A5 := qH A50
  clear A50
  replace H := Option.bind_eq_some_iff.mp H
  obtain ⟨⟨t259, t260, t261, t264, t265, t266⟩, A60, H⟩ := H
  (try dsimp only at H)
  have A6 := qH A60
  clear A60
  replace H := Option.bind_eq_some_iff.mp H
  obtain ⟨⟨t268, t269, t272, t273, t274⟩, A70, H⟩ := H
  (try dsimp only at H)
  have A7 := qH A70
  clear A70
  replace H := Option.bind_eq_some_iff.mp H
  obtain ⟨⟨t276, t277, t280, t281, t282⟩, A80, H⟩ := H
  (try dsimp only at H)
  have A8 := qH A80
  clear A80
  replace H := Option.bind_eq_some_iff.mp H
  obtain ⟨t284, A90, H⟩ := H
  (try dsimp only at H)
  have A9 := qH A90
  clear A90
  by_cases c10 : t284 = true
  ·subst c10
   have H1 : (if t256 = t265 then (if t257 = t266 then ((codicillaw29_Responses.f k t268 t269 t272 t276 t277 t280).bind fun t285 => (if t285 = true then (if t273 = t281 then (if t274 = t282 then ((codicillaw29_alive.f k).bind fun t286 => (some t286)) else (some false)) else (some false)) else (some false))) else (some false)) else (some false)) = some r := by rw [if_pos rfl] at H; exact H
   clear H
   have H := H1
   clear H1
   by_cases c11 : t256 = t265
   ·rw [if_pos c11] at H
    have c11b0 : (t256 == t265) = true := beq_iff_eq.mpr c11
    have c11b1 : (t256 != t265) = false := bne_eq_false_iff_eq.mpr c11
    clear c11
    by_cases c12 : t257 = t266
    ·rw [if_pos c12] at H
     have c12b0 : (t257 == t266) = true := beq_iff_eq.mpr c12
     have c12b1 : (t257 != t266) = false := bne_eq_false_iff_eq.mpr c12
     clear c12
     replace H := Option.bind_eq_some_iff.mp H
     obtain ⟨t285, A130, H⟩ := H
     (try dsimp only at H)
     have A13 := qH A130
     clear A130
     by_cases c14 : t285 = true
     ·subst c14
      have H1 : (if t273 = t281 then (if t274 = t282 then ((codicillaw29_alive.f k).bind fun t286 => (some t286)) else (some false)) else (some false)) = some r := by rw [if_pos rfl] at H; exact H
      clear H
      have H := H1
      clear H1
      by_cases c15 : t273 = t281
      ·rw [if_pos c15] at H
       have c15b0 : (t273 == t281) = true := beq_iff_eq.mpr c15
       have c15b1 : (t273 != t281) = false := bne_eq_false_iff_eq.mpr c15
       clear c15
       by_cases c16 : t274 = t282
       ·rw [if_pos c16] at H
        have c16b0 : (t274 == t282) = true := beq_iff_eq.mpr c16
        have c16b1 : (t274 != t282) = false := bne_eq_false_iff_eq.mpr c16
        clear c16
        replace H := Option.bind_eq_some_iff.mp H
        obtain ⟨t286, A170, H⟩ := H
        (try dsimp only at H)
        have A17 := qH A170
        clear A170
        obtain rfl := Option.some.inj H
        simp only [Option.some.injEq, Prod.mk.injEq] at H
        obtain ⟨rfl⟩ := H
        go_enter Tryz.func3, Tryz.ntmps3
        go_wp2_with (first | ((with_reducible refine gate_callee (f := 10) rfl ?_); refine goesL_ (some 21) rfl rfl Tryz.func10 (by kernel_rfl) rfl #[.string a0] rfl zz2 ?_; (with_reducible refine (http_Read.calls a0 t250 t251 t252 t255 t256 t257 _ A5.out (HL.later zz13)).mono ?_); rintro e w18 ⟨v253, rfl, ho0, hb⟩; refine ⟨_, rfl, ?_⟩; have n0_ := qH (Kd.R_lower ho0 (below_size zz1)); have n1_ := qH (below_step zz1 hb); clear HB; have HO254 := n0_; have HB := n1_; clear n0_ n1_; (try clear hb); (try clear hb2); (try clear hk); (try clear hi); (try clear ho0)) | ((with_reducible refine gate_dst (N := 3) rfl ?_); refine box_event ?hg (N := 3) ?hd (cs := #[.string (⟨#[]⟩ : ByteArray), .string (⟨#[]⟩ : ByteArray), .slice none 0 0, .string (⟨#[]⟩ : ByteArray)]) (t := 25) ?hr ?_; (case hd => rfl); (case hg => rfl); (case hr => first | (go_simp; done) | (go_simp; rfl) | (go_simp; simp [IntKind.wrap_u32]; done)); intro gb258 hg w19 hbox hb; have n0_ := qH (Kd.R_below zz38 hb); have n1_ := qH (below_step zz1 hb); have n2_ := qH (hbox); have n3_ := qH ((by rw [hg]; exact (below_size zz1) : w.heap.size ≤ gb258)); have n4_ := n3_; clear HO254; clear HB; have HO254 := n0_; have HB := n1_; have BK258 := n2_; have GW258 := n3_; have GE258 := n4_; clear n0_ n1_ n2_ n3_ n4_; clear hb hbox hg; obtain ⟨hcz20_0, hcz20_1, hcz20_2, hcz20_3⟩ := qc4 BK258.out; obtain ⟨hfz20_0, hfz20_1, hfz20_2, hfz20_3⟩ := qf4 BK258.out; obtain ⟨Ao21, co21, eo21⟩ := Kd.R_slice HO254.out; subst eo21) | ((with_reducible refine gate_callee (f := 11) rfl ?_); refine goesL_ (some 27) rfl rfl Tryz.func11 (by kernel_rfl) rfl #[.string a0] rfl zz2 ?_; (with_reducible refine (codicilref29_Read.calls k a0 t259 t260 t261 t264 t265 t266 _ A6.out).mono ?_); rintro e w22 ⟨v262, rfl, ho0, hb⟩; refine ⟨_, rfl, ?_⟩; have n0_ := qH (Kd.R_elder' zz49 (Kd.R_base ho0) hb); have n1_ := qH (Kd.R_lower (Kd.R_new' ho0 (Kd.R_lt zz49)) (below_size zz65)); have n2_ := qH (qD (g := gb258) (o := .cells #[.string t250, .string t251, .slice Ao21 t252.length co21, .string t255] 25 (0, 0)) (by (with_reducible repeat first | apply qA | apply qC | apply qB); refine blk_put (cs := #[.string t250, .string t251, .slice Ao21 t252.length co21, .string (⟨#[]⟩ : ByteArray)]) ?_ 3 _ rfl; (with_reducible repeat first | apply qA | apply qC | apply qB); refine blk_put (cs := #[.string t250, .string t251, .slice none 0 0, .string (⟨#[]⟩ : ByteArray)]) ?_ 2 _ rfl; (with_reducible repeat first | apply qA | apply qC | apply qB); refine blk_put (cs := #[.string t250, .string (⟨#[]⟩ : ByteArray), .slice none 0 0, .string (⟨#[]⟩ : ByteArray)]) ?_ 1 _ rfl; (with_reducible repeat first | apply qA | apply qC | apply qB); refine blk_put (cs := #[.string (⟨#[]⟩ : ByteArray), .string (⟨#[]⟩ : ByteArray), .slice none 0 0, .string (⟨#[]⟩ : ByteArray)]) ?_ 0 _ rfl; (with_reducible repeat first | apply qA | apply qC | apply qB); exact BK258.out) hb); have n3_ := qH (below_step zz65 hb); clear HO254; clear BK258; clear HB; have HO254 := n0_; have HO263 := n1_; have BK258 := n2_; have HB := n3_; clear n0_ n1_ n2_ n3_; (try clear hb); (try clear hb2); (try clear hk); (try clear hi); (try clear ho0)) | ((with_reducible refine gate_dst (N := 6) rfl ?_); refine box_event ?hg (N := 6) ?hd (cs := #[.string (⟨#[]⟩ : ByteArray), .string (⟨#[]⟩ : ByteArray), .slice none 0 0, .string (⟨#[]⟩ : ByteArray)]) (t := 25) ?hr ?_; (case hd => rfl); (case hg => rfl); (case hr => first | (go_simp; done) | (go_simp; rfl) | (go_simp; simp [IntKind.wrap_u32]; done)); intro gb267 hg w23 hbox hb; have n0_ := qH (Kd.R_below zz38 hb); have n1_ := qH (Kd.R_below zz56 hb); have n2_ := qH (qD (g := gb258) zz25 hb); have n3_ := qH (below_step zz65 hb); have n4_ := qH (hbox); have n5_ := qH ((by rw [hg]; exact (below_size zz65) : w.heap.size ≤ gb267)); have n6_ := n5_; have n7_ := qH ((by rw [hg]; exact qN (blk_lt (g := gb258) zz25) : gb258 ≠ gb267)); have n8_ := qH ((by rw [hg]; exact Nat.ne_of_gt (blk_lt (g := gb258) zz25) : gb267 ≠ gb258)); clear HO254; clear HO263; clear BK258; clear HB; have HO254 := n0_; have HO263 := n1_; have BK258 := n2_; have HB := n3_; have BK267 := n4_; have GW267 := n5_; have GE267 := n6_; have NB258_267 := n7_; have NB267_258 := n8_; clear n0_ n1_ n2_ n3_ n4_ n5_ n6_ n7_ n8_; clear hb hbox hg; have hnb24 := NB267_258.out; have hnc24 := NB258_267.out; obtain ⟨hcz25_0, hcz25_1, hcz25_2, hcz25_3⟩ := qc4 BK267.out; obtain ⟨hfz25_0, hfz25_1, hfz25_2, hfz25_3⟩ := qf4 BK267.out; obtain ⟨Ao26, co26, eo26⟩ := Kd.R_slice HO263.out; subst eo26) | ((with_reducible refine gate_callee (f := 12) rfl ?_); refine goesL_ (some 33) rfl rfl Tryz.func12 (by kernel_rfl) rfl #[.string a0] rfl zz2 ?_; (with_reducible refine (http_Told.calls a0 t268 t269 t272 t273 t274 _ A7.out (HL.later zz13)).mono ?_); rintro e w27 ⟨v270, rfl, ho0, hb⟩; refine ⟨_, rfl, ?_⟩; have n0_ := qH (Kd.R_elder' zz50 (Kd.R_base ho0) hb); have n1_ := qH (Kd.R_elder' zz51 (Kd.R_base ho0) hb); have n2_ := qH (Kd.R_lower (Kd.R_new' (Kd.R_new' ho0 (Kd.R_lt zz50)) (Kd.R_lt zz51)) (below_size zz53)); have n3_ := qH (qD (g := gb258) (o := .cells #[.string t250, .string t251, .slice Ao21 t252.length co21, .string t255] 25 (0, 0)) (by (with_reducible repeat first | apply qA | apply qC | apply qB); refine qG ?_ NB258_267.out _; (with_reducible repeat first | apply qA | apply qC | apply qB); refine qG ?_ NB258_267.out _; (with_reducible repeat first | apply qA | apply qC | apply qB); refine qG ?_ NB258_267.out _; (with_reducible repeat first | apply qA | apply qC | apply qB); refine qG ?_ NB258_267.out _; (with_reducible repeat first | apply qA | apply qC | apply qB); exact BK258.out) hb); have n4_ := qH (qD (g := gb267) (o := .cells #[.string t259, .string t260, .slice Ao26 t261.length co26, .string t264] 25 (0, 0)) (by (with_reducible repeat first | apply qA | apply qC | apply qB); refine blk_put (cs := #[.string t259, .string t260, .slice Ao26 t261.length co26, .string (⟨#[]⟩ : ByteArray)]) ?_ 3 _ rfl; (with_reducible repeat first | apply qA | apply qC | apply qB); refine blk_put (cs := #[.string t259, .string t260, .slice none 0 0, .string (⟨#[]⟩ : ByteArray)]) ?_ 2 _ rfl; (with_reducible repeat first | apply qA | apply qC | apply qB); refine blk_put (cs := #[.string t259, .string (⟨#[]⟩ : ByteArray), .slice none 0 0, .string (⟨#[]⟩ : ByteArray)]) ?_ 1 _ rfl; (with_reducible repeat first | apply qA | apply qC | apply qB); refine blk_put (cs := #[.string (⟨#[]⟩ : ByteArray), .string (⟨#[]⟩ : ByteArray), .slice none 0 0, .string (⟨#[]⟩ : ByteArray)]) ?_ 0 _ rfl; (with_reducible repeat first | apply qA | apply qC | apply qB); exact BK267.out) hb); have n5_ := qH (below_step zz53 hb); clear HO254; clear HO263; clear BK258; clear BK267; clear HB; have HO254 := n0_; have HO263 := n1_; have HO271 := n2_; have BK258 := n3_; have BK267 := n4_; have HB := n5_; clear n0_ n1_ n2_ n3_ n4_ n5_; (try clear hb); (try clear hb2); (try clear hk); (try clear hi); (try clear ho0)) | ((with_reducible refine gate_dst (N := 9) rfl ?_); refine box_event ?hg (N := 9) ?hd (cs := #[.int .i64 0, .slice none 0 0, .string (⟨#[]⟩ : ByteArray)]) (t := 32) ?hr ?_; (case hd => rfl); (case hg => rfl); (case hr => first | (go_simp; done) | (go_simp; rfl) | (go_simp; simp [IntKind.wrap_u32]; done)); intro gb275 hg w28 hbox hb; have n0_ := qH (Kd.R_below zz38 hb); have n1_ := qH (Kd.R_below zz56 hb); have n2_ := qH (Kd.R_below (by (with_reducible repeat (first | apply Kd.R_alloc | apply Kd.R_drewN | apply Kd.R_drew)); exact HO271.out) hb); have n3_ := qH (qD (g := gb258) zz25 hb); have n4_ := qH (qD (g := gb267) zz33 hb); have n5_ := qH (below_step zz53 hb); have n6_ := qH (hbox); have n7_ := qH ((by rw [hg]; exact (below_size zz53) : w.heap.size ≤ gb275)); have n8_ := n7_; have n9_ := qH ((by rw [hg]; exact qN (blk_lt (g := gb258) zz25) : gb258 ≠ gb275)); have n10_ := qH ((by rw [hg]; exact Nat.ne_of_gt (blk_lt (g := gb258) zz25) : gb275 ≠ gb258)); have n11_ := qH ((by rw [hg]; exact qN (blk_lt (g := gb267) zz33) : gb267 ≠ gb275)); have n12_ := qH ((by rw [hg]; exact Nat.ne_of_gt (blk_lt (g := gb267) zz33) : gb275 ≠ gb267)); clear HO254; clear HO263; clear HO271; clear BK258; clear BK267; clear HB; have HO254 := n0_; have HO263 := n1_; have HO271 := n2_; have BK258 := n3_; have BK267 := n4_; have HB := n5_; have BK275 := n6_; have GW275 := n7_; have GE275 := n8_; have NB258_275 := n9_; have NB275_258 := n10_; have NB267_275 := n11_; have NB275_267 := n12_; clear n0_ n1_ n2_ n3_ n4_ n5_ n6_ n7_ n8_ n9_ n10_ n11_ n12_; clear hb hbox hg; have hnb29 := NB275_258.out; have hnc29 := NB258_275.out; have hnb30 := NB275_267.out; have hnc30 := NB267_275.out; obtain ⟨hcz31_0, hcz31_1, hcz31_2⟩ := qc3 BK275.out; obtain ⟨hfz31_0, hfz31_1, hfz31_2⟩ := qf3 BK275.out; obtain ⟨Ao32, co32, eo32⟩ := Kd.R_slice HO271.out; subst eo32) | ((with_reducible refine gate_callee (f := 13) rfl ?_); refine goesL_ (some 39) rfl rfl Tryz.func13 (by kernel_rfl) rfl #[.string a0] rfl zz2 ?_; (with_reducible refine (codicilref29_Told.calls k a0 t276 t277 t280 t281 t282 _ A8.out).mono ?_); rintro e w33 ⟨v278, rfl, ho0, hb⟩; refine ⟨_, rfl, ?_⟩; have n0_ := qH (Kd.R_elder' zz58 (Kd.R_base ho0) hb); have n1_ := qH (Kd.R_elder' zz59 (Kd.R_base ho0) hb); have n2_ := qH (Kd.R_elder' zz60 (Kd.R_base ho0) hb); have n3_ := qH (Kd.R_lower (Kd.R_new' (Kd.R_new' (Kd.R_new' ho0 (Kd.R_lt zz58)) (Kd.R_lt zz59)) (Kd.R_lt zz60)) (below_size zz36)); have n4_ := qH (qD (g := gb258) (o := .cells #[.string t250, .string t251, .slice Ao21 t252.length co21, .string t255] 25 (0, 0)) (by (with_reducible repeat first | apply qA | apply qC | apply qB); refine qG ?_ NB258_275.out _; (with_reducible repeat first | apply qA | apply qC | apply qB); refine qG ?_ NB258_275.out _; (with_reducible repeat first | apply qA | apply qC | apply qB); refine qG ?_ NB258_275.out _; (with_reducible repeat first | apply qA | apply qC | apply qB); exact BK258.out) hb); have n5_ := qH (qD (g := gb267) (o := .cells #[.string t259, .string t260, .slice Ao26 t261.length co26, .string t264] 25 (0, 0)) (by (with_reducible repeat first | apply qA | apply qC | apply qB); refine qG ?_ NB267_275.out _; (with_reducible repeat first | apply qA | apply qC | apply qB); refine qG ?_ NB267_275.out _; (with_reducible repeat first | apply qA | apply qC | apply qB); refine qG ?_ NB267_275.out _; (with_reducible repeat first | apply qA | apply qC | apply qB); exact BK267.out) hb); have n6_ := qH (qD (g := gb275) (o := .cells #[.int .i64 t268, .slice Ao32 t269.length co32, .string t272] 32 (0, 0)) (by (with_reducible repeat first | apply qA | apply qC | apply qB); refine blk_put (cs := #[.int .i64 t268, .slice Ao32 t269.length co32, .string (⟨#[]⟩ : ByteArray)]) ?_ 2 _ rfl; (with_reducible repeat first | apply qA | apply qC | apply qB); refine blk_put (cs := #[.int .i64 t268, .slice none 0 0, .string (⟨#[]⟩ : ByteArray)]) ?_ 1 _ rfl; (with_reducible repeat first | apply qA | apply qC | apply qB); refine blk_put (cs := #[.int .i64 0, .slice none 0 0, .string (⟨#[]⟩ : ByteArray)]) ?_ 0 _ rfl; (with_reducible repeat first | apply qA | apply qC | apply qB); exact BK275.out) hb); have n7_ := qH (below_step zz36 hb); clear HO254; clear HO263; clear HO271; clear BK258; clear BK267; clear BK275; clear HB; have HO254 := n0_; have HO263 := n1_; have HO271 := n2_; have HO279 := n3_; have BK258 := n4_; have BK267 := n5_; have BK275 := n6_; have HB := n7_; clear n0_ n1_ n2_ n3_ n4_ n5_ n6_ n7_; (try clear hb); (try clear hb2); (try clear hk); (try clear hi); (try clear ho0)) | ((with_reducible refine gate_dst (N := 12) rfl ?_); refine box_event ?hg (N := 12) ?hd (cs := #[.int .i64 0, .slice none 0 0, .string (⟨#[]⟩ : ByteArray)]) (t := 32) ?hr ?_; (case hd => rfl); (case hg => rfl); (case hr => first | (go_simp; done) | (go_simp; rfl) | (go_simp; simp [IntKind.wrap_u32]; done)); intro gb283 hg w34 hbox hb; have n0_ := qH (Kd.R_below zz38 hb); have n1_ := qH (Kd.R_below zz56 hb); have n2_ := qH (Kd.R_below (by (with_reducible repeat (first | apply Kd.R_alloc | apply Kd.R_drewN | apply Kd.R_drew)); exact HO271.out) hb); have n3_ := qH (Kd.R_below (by (with_reducible repeat (first | apply Kd.R_alloc | apply Kd.R_drewN | apply Kd.R_drew)); exact HO279.out) hb); have n4_ := qH (qD (g := gb258) zz25 hb); have n5_ := qH (qD (g := gb267) zz33 hb); have n6_ := qH (qD (g := gb275) (by (with_reducible repeat first | apply qA | apply qC | apply qB); exact BK275.out) hb); have n7_ := qH (below_step zz36 hb); have n8_ := qH (hbox); have n9_ := qH ((by rw [hg]; exact (below_size zz36) : w.heap.size ≤ gb283)); have n10_ := n9_; have n11_ := qH ((by rw [hg]; exact qN (blk_lt (g := gb258) zz25) : gb258 ≠ gb283)); have n12_ := qH ((by rw [hg]; exact Nat.ne_of_gt (blk_lt (g := gb258) zz25) : gb283 ≠ gb258)); have n13_ := qH ((by rw [hg]; exact qN (blk_lt (g := gb267) zz33) : gb267 ≠ gb283)); have n14_ := qH ((by rw [hg]; exact Nat.ne_of_gt (blk_lt (g := gb267) zz33) : gb283 ≠ gb267)); have n15_ := qH ((by rw [hg]; exact qN (blk_lt (g := gb275) (by (with_reducible repeat first | apply qA | apply qC | apply qB); exact BK275.out)) : gb275 ≠ gb283)); have n16_ := qH ((by rw [hg]; exact Nat.ne_of_gt (blk_lt (g := gb275) (by (with_reducible repeat first | apply qA | apply qC | apply qB); exact BK275.out)) : gb283 ≠ gb275)); clear HO254; clear HO263; clear HO271; clear HO279; clear BK258; clear BK267; clear BK275; clear HB; have HO254 := n0_; have HO263 := n1_; have HO271 := n2_; have HO279 := n3_; have BK258 := n4_; have BK267 := n5_; have BK275 := n6_; have HB := n7_; have BK283 := n8_; have GW283 := n9_; have GE283 := n10_; have NB258_283 := n11_; have NB283_258 := n12_; have NB267_283 := n13_; have NB283_267 := n14_; have NB275_283 := n15_; have NB283_275 := n16_; clear n0_ n1_ n2_ n3_ n4_ n5_ n6_ n7_ n8_ n9_ n10_ n11_ n12_ n13_ n14_ n15_ n16_; clear hb hbox hg; have hnb35 := NB283_258.out; have hnc35 := NB258_283.out; have hnb36 := NB283_267.out; have hnc36 := NB267_283.out; have hnb37 := NB283_275.out; have hnc37 := NB275_283.out; obtain ⟨hcz38_0, hcz38_1, hcz38_2⟩ := qc3 BK283.out; obtain ⟨hfz38_0, hfz38_1, hfz38_2⟩ := qf3 BK283.out; obtain ⟨Ao39, co39, eo39⟩ := Kd.R_slice HO279.out; subst eo39; obtain ⟨hcz40_0, hcz40_1, hcz40_2, hcz40_3⟩ := qc4 BK258.out; obtain ⟨hfz40_0, hfz40_1, hfz40_2, hfz40_3⟩ := qf4 BK258.out; obtain ⟨hcz41_0, hcz41_1, hcz41_2, hcz41_3⟩ := qc4 BK267.out; obtain ⟨hfz41_0, hfz41_1, hfz41_2, hfz41_3⟩ := qf4 BK267.out) | ((with_reducible refine gate_callee (f := 14) rfl ?_); refine goesL_ (some 45) rfl rfl Tryz.func14 (by kernel_rfl) rfl #[.agg #[.string t250, .string t251, .slice Ao21 t252.length co21, .string t255], .agg #[.string t259, .string t260, .slice Ao26 t261.length co26, .string t264]] rfl zz2 ?_; (with_reducible refine (codicillaw29_Requests.calls k t250 t251 _ _ t252 t255 t259 t260 _ _ t261 t264 true _ ?side1 ?side2 ?side3 ?side4 A9.out).mono ?_); (case side1 => refine (Kd.R_reads' (e := 59) (base := w.heap.size) (ok := fun k_ => (((True ∧ some k_ ≠ (.slice Ao26 t261.length co26 : Value).ownBlock) ∧ some k_ ≠ (.slice Ao32 t269.length co32 : Value).ownBlock) ∧ some k_ ≠ (.slice Ao39 t277.length co39 : Value).ownBlock)) (n := t252.length) (c := co21) ?_).2.2; exact zz61); (case side2 => exact (Kd.R_reads' HO254.out).2.1); (case side3 => refine (Kd.R_reads' (e := 59) (base := w.heap.size) (ok := fun k_ => (((True ∧ some k_ ≠ (.slice Ao21 t252.length co21 : Value).ownBlock) ∧ some k_ ≠ (.slice Ao32 t269.length co32 : Value).ownBlock) ∧ some k_ ≠ (.slice Ao39 t277.length co39 : Value).ownBlock)) (n := t261.length) (c := co26) ?_).2.2; exact zz62); (case side4 => exact (Kd.R_reads' HO263.out).2.1); rintro e w42 ⟨rfl, hb⟩; refine ⟨_, rfl, ?_⟩; have n0_ := qH (Kd.R_below zz61 hb); have n1_ := qH (Kd.R_below zz62 hb); have n2_ := qH (Kd.R_below (by (with_reducible repeat (first | apply Kd.R_alloc | apply Kd.R_drewN | apply Kd.R_drew)); exact (Kd.R_mono (Kd.R_far (p := ⟨gb283, 2, none⟩) (Kd.R_far (p := ⟨gb283, 1, none⟩) (Kd.R_far (p := ⟨gb283, 0, none⟩) (Kd.R_types HO271.out BK283.out zz34) (fun _ hk => hk.2) (.int .i64 t276)) (fun _ hk => hk.2) (.slice Ao39 t277.length co39)) (fun _ hk => hk.2) (.string t280)) (fun _ h_ => h_.1))) hb); have n3_ := qH (Kd.R_below (by (with_reducible repeat (first | apply Kd.R_alloc | apply Kd.R_drewN | apply Kd.R_drew)); exact (Kd.R_mono (Kd.R_far (p := ⟨gb283, 2, none⟩) (Kd.R_far (p := ⟨gb283, 1, none⟩) (Kd.R_far (p := ⟨gb283, 0, none⟩) (Kd.R_types HO279.out BK283.out zz34) (fun _ hk => hk.2) (.int .i64 t276)) (fun _ hk => hk.2) (.slice Ao39 t277.length co39)) (fun _ hk => hk.2) (.string t280)) (fun _ h_ => h_.1))) hb); have n4_ := qH (qD (g := gb258) (o := .cells #[.string t250, .string t251, .slice Ao21 t252.length co21, .string t255] 25 (0, 0)) (by (with_reducible repeat first | apply qA | apply qC | apply qB); refine qG ?_ NB258_283.out _; (with_reducible repeat first | apply qA | apply qC | apply qB); refine qG ?_ NB258_283.out _; (with_reducible repeat first | apply qA | apply qC | apply qB); refine qG ?_ NB258_283.out _; (with_reducible repeat first | apply qA | apply qC | apply qB); exact BK258.out) hb); have n5_ := qH (qD (g := gb267) (o := .cells #[.string t259, .string t260, .slice Ao26 t261.length co26, .string t264] 25 (0, 0)) (by (with_reducible repeat first | apply qA | apply qC | apply qB); refine qG ?_ NB267_283.out _; (with_reducible repeat first | apply qA | apply qC | apply qB); refine qG ?_ NB267_283.out _; (with_reducible repeat first | apply qA | apply qC | apply qB); refine qG ?_ NB267_283.out _; (with_reducible repeat first | apply qA | apply qC | apply qB); exact BK267.out) hb); have n6_ := qH (qD (g := gb275) (o := .cells #[.int .i64 t268, .slice Ao32 t269.length co32, .string t272] 32 (0, 0)) (by (with_reducible repeat first | apply qA | apply qC | apply qB); refine qG ?_ NB275_283.out _; (with_reducible repeat first | apply qA | apply qC | apply qB); refine qG ?_ NB275_283.out _; (with_reducible repeat first | apply qA | apply qC | apply qB); refine qG ?_ NB275_283.out _; (with_reducible repeat first | apply qA | apply qC | apply qB); exact BK275.out) hb); have n7_ := qH (qD (g := gb283) (o := .cells #[.int .i64 t276, .slice Ao39 t277.length co39, .string t280] 32 (0, 0)) (by (with_reducible repeat first | apply qA | apply qC | apply qB); refine blk_put (cs := #[.int .i64 t276, .slice Ao39 t277.length co39, .string (⟨#[]⟩ : ByteArray)]) ?_ 2 _ rfl; (with_reducible repeat first | apply qA | apply qC | apply qB); refine blk_put (cs := #[.int .i64 t276, .slice none 0 0, .string (⟨#[]⟩ : ByteArray)]) ?_ 1 _ rfl; (with_reducible repeat first | apply qA | apply qC | apply qB); refine blk_put (cs := #[.int .i64 0, .slice none 0 0, .string (⟨#[]⟩ : ByteArray)]) ?_ 0 _ rfl; (with_reducible repeat first | apply qA | apply qC | apply qB); exact BK283.out) hb); have n8_ := qH (below_step zz13 hb); clear HO254; clear HO263; clear HO271; clear HO279; clear BK258; clear BK267; clear BK275; clear BK283; clear HB; have HO254 := n0_; have HO263 := n1_; have HO271 := n2_; have HO279 := n3_; have BK258 := n4_; have BK267 := n5_; have BK275 := n6_; have BK283 := n7_; have HB := n8_; clear n0_ n1_ n2_ n3_ n4_ n5_ n6_ n7_ n8_; (try clear hb); (try clear hb2); (try clear hk); (try clear hi); obtain ⟨hcz43_0, hcz43_1, hcz43_2⟩ := qc3 BK275.out; obtain ⟨hfz43_0, hfz43_1, hfz43_2⟩ := qf3 BK275.out; obtain ⟨hcz44_0, hcz44_1, hcz44_2⟩ := qc3 BK283.out; obtain ⟨hfz44_0, hfz44_1, hfz44_2⟩ := qf3 BK283.out) | (go_at_call 15; (with_reducible refine (codicillaw29_Responses.calls k t268 _ _ t269 t272 t276 _ _ t277 t280 true _ ?side1 ?side2 ?side3 ?side4 A13.out).mono ?_); (case side1 => repeat (first | exact (Kd.R_reads' HO271.out).2.2 | (with_reducible refine Kd.C_alloc ?_ _) | (with_reducible refine Kd.C_drewN ?_ _) | (with_reducible refine Kd.C_drew ?_))); (case side2 => exact (Kd.R_reads' HO271.out).2.1); (case side3 => repeat (first | exact (Kd.R_reads' HO279.out).2.2 | (with_reducible refine Kd.C_alloc ?_ _) | (with_reducible refine Kd.C_drewN ?_ _) | (with_reducible refine Kd.C_drew ?_))); (case side4 => exact (Kd.R_reads' HO279.out).2.1); rintro e w45 ⟨rfl, hb⟩; have n0_ := qH (Kd.R_below zz38 hb); have n1_ := qH (Kd.R_below zz56 hb); have n2_ := qH (Kd.R_below (by (with_reducible repeat (first | apply Kd.R_alloc | apply Kd.R_drewN | apply Kd.R_drew)); exact HO271.out) hb); have n3_ := qH (Kd.R_below (by (with_reducible repeat (first | apply Kd.R_alloc | apply Kd.R_drewN | apply Kd.R_drew)); exact HO279.out) hb); have n4_ := qH (qD (g := gb258) zz25 hb); have n5_ := qH (qD (g := gb267) zz33 hb); have n6_ := qH (qD (g := gb275) (by (with_reducible repeat first | apply qA | apply qC | apply qB); exact BK275.out) hb); have n7_ := qH (qD (g := gb283) (by (with_reducible repeat first | apply qA | apply qC | apply qB); exact BK283.out) hb); have n8_ := qH (below_step zz13 hb); clear HO254; clear HO263; clear HO271; clear HO279; clear BK258; clear BK267; clear BK275; clear BK283; clear HB; have HO254 := n0_; have HO263 := n1_; have HO271 := n2_; have HO279 := n3_; have BK258 := n4_; have BK267 := n5_; have BK275 := n6_; have BK283 := n7_; have HB := n8_; clear n0_ n1_ n2_ n3_ n4_ n5_ n6_ n7_ n8_; (try clear hb); (try clear hb2); (try clear hk); (try clear hi)) | (go_at_call 9; (with_reducible refine (codicillaw29_alive.calls k  t286 _ A17.out (HL.later zz13)).mono ?_); rintro e w46 ⟨rfl, hb⟩; have n0_ := qH (Kd.R_below zz38 hb); have n1_ := qH (Kd.R_below zz56 hb); have n2_ := qH (Kd.R_below (by (with_reducible repeat (first | apply Kd.R_alloc | apply Kd.R_drewN | apply Kd.R_drew)); exact HO271.out) hb); have n3_ := qH (Kd.R_below (by (with_reducible repeat (first | apply Kd.R_alloc | apply Kd.R_drewN | apply Kd.R_drew)); exact HO279.out) hb); have n4_ := qH (qD (g := gb258) zz25 hb); have n5_ := qH (qD (g := gb267) zz33 hb); have n6_ := qH (qD (g := gb275) (by (with_reducible repeat first | apply qA | apply qC | apply qB); exact BK275.out) hb); have n7_ := qH (qD (g := gb283) (by (with_reducible repeat first | apply qA | apply qC | apply qB); exact BK283.out) hb); have n8_ := qH (below_step zz13 hb); clear HO254; clear HO263; clear HO271; clear HO279; clear BK258; clear BK267; clear BK275; clear BK283; clear HB; have HO254 := n0_; have HO263 := n1_; have HO271 := n2_; have HO279 := n3_; have BK258 := n4_; have BK267 := n5_; have BK275 := n6_; have BK283 := n7_; have HB := n8_; clear n0_ n1_ n2_ n3_ n4_ n5_ n6_ n7_ n8_; (try clear hb); (try clear hb2); (try clear hk); (try clear hi)))
        go_ret
        exact ⟨by first | rfl | (simp [errW_none, errW_some] <;> rfl) | (simp [*, errW_none, errW_some] <;> rfl), by repeat (first | (with_reducible first | exact HB.out | apply qL | apply qJ | apply qK | refine qI ?_ GE258.out | refine qI ?_ GE267.out | refine qI ?_ GE275.out | refine qI ?_ GE283.out) | exact HB.out)⟩
       ·rw [if_neg c16] at H
        have c16b0 : (t274 == t282) = false := beq_eq_false_iff_ne.mpr c16
        have c16b1 : (t274 != t282) = true := bne_iff_ne.mpr c16
        obtain rfl := Option.some.inj H
        exact absurd hTrue.out zz34
      ·rw [if_neg c15] at H
       have c15b0 : (t273 == t281) = false := beq_eq_false_iff_ne.mpr c15
       have c15b1 : (t273 != t281) = true := bne_iff_ne.mpr c15
       obtain rfl := Option.some.inj H
       exact absurd hTrue.out zz34
     ·replace c14 := Bool.eq_false_iff.mpr c14
      subst c14
      have H1 : (some false) = some r := by rw [if_neg (show ¬ (false = true) by decide)] at H; exact H
      clear H
      have H := H1
      clear H1
      obtain rfl := Option.some.inj H
      exact absurd hTrue.out zz34
    ·rw [if_neg c12] at H
     have c12b0 : (t257 == t266) = false := beq_eq_false_iff_ne.mpr c12
     have c12b1 : (t257 != t266) = true := bne_iff_ne.mpr c12
     obtain rfl := Option.some.inj H
     exact absurd hTrue.out zz34
   ·rw [if_neg c11] at H
    have c11b0 : (t256 == t265) = false := beq_eq_false_iff_ne.mpr c11
    have c11b1 : (t256 != t265) = true := bne_iff_ne.mpr c11
    obtain rfl := Option.some.inj H
    exact absurd hTrue.out zz34
  ·replace c10 := Bool.eq_false_iff.mpr c10
   subst c10
   have H1 : (some false) = some r := by rw [if_neg (show ¬ (false = true) by decide)] at H; exact H
   clear H
   have H := H1
   clear H1
   obtain rfl := Option.some.inj H
   exact absurd hTrue.out zz34

/-- THE ONE PURE STATEMENT of codicillaw29_HttpReads: yours. -/
def codicillaw29_HttpReads.Pure : Prop := ∀ (a0 : ByteArray), a0.size ≤ 140737488351232 → ∃ k, codicillaw29_HttpReads.f k a0 = some true

/-! ### codicilref29_split: function 49 -/
def codicilref29_split.l0 : Nat → ByteArray → Int → List ByteArray → Bool → Option (List ByteArray)
 | 0, _, _, _, _ => none
 | k + 1, x0, x1, x5, x6 => if x6 = true then ((codicilref29_cut.f k x0 x1).bind fun bt287 => (if x5.length < 8796093022208 then (codicilref29_split.l0 k bt287.2.1 x1 (x5 ++ [bt287.1]) bt287.2.2) else (none))) else (some x5)
def codicilref29_split.f (k : Nat) (a0 : ByteArray) (a1 : Int) : Option (List ByteArray) := codicilref29_split.l0 k a0 a1 ([] : List ByteArray) true
theorem codicilref29_split.mono_l : ∀ k, (∀ y0 y1 y2 y3, LeO (codicilref29_split.l0 k y0 y1 y2 y3) (codicilref29_split.l0 (k + 1) y0 y1 y2 y3))
 | 0 => fun _ _ _ _ r h => by simp [codicilref29_split.l0] at h
 | k + 1 => by
  have ih0 := codicilref29_split.mono_l k
  ·intro y0 y1 y2 y3
   unfold codicilref29_split.l0
   repeat' first
   | (with_reducible exact ih0 _ _ _ _)
   | (with_reducible exact codicilref29_cut.mono _ _ _)
   | (with_reducible exact LeO.refl _)
   | (with_reducible exact LeO.none _)
   | (with_reducible refine LeO.ite ?_ ?_)
   | (with_reducible refine LeO.bind ?_ (fun _ => ?_))
   | exact ih0 _ _ _ _
   | exact codicilref29_cut.mono _ _ _
   | exact LeO.none _
   | refine LeO.ite ?_ ?_
   | refine LeO.bind ?_ (fun _ => ?_)
theorem codicilref29_split.mono : ∀ a0 a1 k, LeO (codicilref29_split.f k a0 a1) (codicilref29_split.f (k + 1) a0 a1) := by
 intro a0 a1 k
 have ih0 := codicilref29_split.mono_l k
 unfold codicilref29_split.f
 repeat' first
   | (with_reducible exact ih0 _ _ _ _)
   | (with_reducible exact codicilref29_cut.mono _ _ _)
   | (with_reducible exact LeO.refl _)
   | (with_reducible exact LeO.none _)
   | (with_reducible refine LeO.ite ?_ ?_)
   | (with_reducible refine LeO.bind ?_ (fun _ => ?_))
   | exact ih0 _ _ _ _
   | exact codicilref29_cut.mono _ _ _
   | exact LeO.none _
   | refine LeO.ite ?_ ?_
   | refine LeO.bind ?_ (fun _ => ?_)
set_option maxHeartbeats 8000000 in
set_option maxRecDepth 100000 in
theorem codicilref29_split.calls (k : Nat) (a0 : ByteArray) (a1 : Int) (r : List ByteArray) (w : World) (h : codicilref29_split.f k a0 a1 = some r) :
  Calls Tryz.prog 49 #[.string a0, .int .u8 a1] w fun e w' => ∃ v0_ : Value, e = .returned (v0_) ∧ Kd.R Kd.string 9 w' w.heap.size (fun _ => True) v0_ r ∧ Below w.heap.size w w' := by
 have HB := qH (Below.refl w.heap.size w)
 have H : (codicilref29_split.l0 k a0 a1 ([] : List ByteArray) true) = some r := h
 clear h
 have H' := qH H
 clear H
 go_enter Tryz.func49, Tryz.ntmps49
 go_wp2
 go_loopg [0, 5, 6] k (fun kq v0 v5 v6 w' => ∃ (x0_1 : ByteArray) (x5_1 : List ByteArray) (x6_1 : Bool), v0 = .string x0_1 ∧ v6 = .bool x6_1 ∧ Aside0 (codicilref29_split.l0 kq x0_1 a1 x5_1 x6_1 = some r) ∧ Aside0 (kq ≤ k) ∧ Aside0 (Kd.R Kd.string 9 w' w.heap.size (fun _ => True) v5 x5_1) ∧ Aside0 (Below w.heap.size w w'))
 case atStart => exact ⟨(a0), (([] : List ByteArray)), (true), zz3, zz3, H', ⟨Nat.le_refl _⟩, ⟨by first | exact Kd.R_nil _ _ _ _ _ | exact Kd.N_nil _ _ _ _ _ | exact Kd.V_nil _ _ _ _ _ | exact Kd.Q_nil _ _ _ _ _ | exact Kd.S_nil _ _ _ _ _⟩, ⟨by repeat (first | (with_reducible first | exact HB.out | apply qL | apply qJ | apply qK) | exact HB.out)⟩⟩
 case round =>
  clear H'
  try clear p2
  obtain ⟨x0_1, x5_1, x6_1, rfl, rfl, HA, HK1, HO_5, HB⟩ := hrel
  cases gk with
  | zero => exact absurd HA.out (by simp [codicilref29_split.l0])
  | succ k1 =>
   have H := HA.out
   clear HA
   simp only [codicilref29_split.l0] at H
   by_cases c3 : x6_1 = true
   ·subst c3
    have H1 : ((codicilref29_cut.f k1 x0_1 a1).bind fun bt287 => (if x5_1.length < 8796093022208 then (codicilref29_split.l0 k1 bt287.2.1 a1 (x5_1 ++ [bt287.1]) bt287.2.2) else (none))) = some r := by rw [if_pos rfl] at H; exact H
    clear H
    have H := H1
    clear H1
    replace H := Option.bind_eq_some_iff.mp H
    obtain ⟨⟨t287, t288, t289⟩, A40, H⟩ := H
    (try dsimp only at H)
    have A4 := qH A40
    clear A40
    by_cases c5 : x5_1.length < 8796093022208
    ·rw [if_pos c5] at H
     have LMc5 := qH c5
     clear c5
     obtain ⟨y290, hy290⟩ : ∃ y_ : List ByteArray, y_ = (x5_1 ++ [t287]) := ⟨_, rfl⟩
     replace H : (codicilref29_split.l0 k1 t288 a1 y290 t289) = some r := by first | (rw [hy290]; with_reducible exact H) | (have H2_ := (Option.bind_some _ _).symm.trans H; rw [hy290]; with_reducible exact H2_) | (have H2_ := (Option.bind_some _ _).symm.trans H; with_reducible exact H2_) | with_reducible exact H | (rw [hy290]; exact H) | exact H
     have Ny290 := qH hy290
     clear hy290
     have H' := qH H
     clear H
     go_wp2_with (first | ((with_reducible refine gate_callee (f := 48) rfl ?_); refine goesL_ (some 12) rfl rfl Tryz.func48 (by kernel_rfl) rfl #[.string x0_1, .int .u8 a1] rfl zz2 ?_; (with_reducible refine (codicilref29_cut.calls k1 x0_1 a1 t287 t288 t289 _ A4.out).mono ?_); rintro e w' ⟨rfl, ⟨nd, rfl⟩⟩; refine ⟨_, rfl, ?_⟩) | ((with_reducible refine gate_builtin (b := .append) (xs := #[.tmp 16, .tmp 18]) rfl ?_); at_builtin; refine Kd.R_append Kd.string (w0 := w) w.heap.size rfl (.tmp 16) (.tmp 18) 40 9 (.string ⟨#[]⟩) 16 rfl Tryz.underlying40 info9 rfl zz34 zz22 u5 x5_1 t287 [.string t287] (fun _ => True) (fun _ => False) rfl rfl ?aP (fun _ hk => hk.elim) ?aF ?aO ?aB ?aS ?aL ?_; (case aP => exact rfl); (case aB => exact zz1); (case aF => exact (fun _ _ => trivial)); (case aO => exact zz26); (case aS => exact (below_size zz1)); (case aL => have := LMc5.out; omega); intro v291 w6 ho hb hg hat; rw [← Ny290.out] at ho; have n0_ := qH (hb); have n1_ := qH (ho); clear HB; clear HO_5; have HB := n0_; have HO292 := n1_; clear n0_ n1_; clear ho hb hg hat))
     go_roundg k1
     case measure => have := HK1.out; omega
     case rel => exact ⟨(t288), (y290), (t289), zz3, zz3, H', ⟨by have := HK1.out; omega⟩, ⟨by (with_reducible repeat (first | apply Kd.R_alloc | apply Kd.R_drewN | apply Kd.R_drew)); exact HO292.out⟩, ⟨by repeat (first | (with_reducible first | exact HB.out | apply qL | apply qJ | apply qK) | exact HB.out)⟩⟩
    ·rw [if_neg c5] at H
     exact absurd H zz54
   ·replace c3 := Bool.eq_false_iff.mpr c3
    subst c3
    have H1 : (some x5_1) = some r := by rw [if_neg (show ¬ (false = true) by decide)] at H; exact H
    clear H
    have H := H1
    clear H1
    obtain rfl := Option.some.inj H
    simp only [Option.some.injEq, Prod.mk.injEq] at H
    obtain ⟨rfl⟩ := H
    go_wp2
    go_ret
    exact ⟨_, by first | rfl | (simp [errW_none, errW_some] <;> rfl) | (simp [*, errW_none, errW_some] <;> rfl), by (with_reducible repeat (first | apply Kd.R_alloc | apply Kd.R_drewN | apply Kd.R_drew)); exact HO_5.out, by repeat (first | (with_reducible first | exact HB.out | apply qL | apply qJ | apply qK) | exact HB.out)⟩

/-! ### codicilref29_digit: function 77 -/
mutual
def codicilref29_digit.j0 : Nat → Int → Bool → Option (Int)
 | 0, _, _ => none
 | k + 1, x0, x3 => if x3 = true then (some ((x0 - 48) % 256)) else (if x0 ≥ 97 then (codicilref29_digit.j1 k x0 (decide (x0 ≤ 102))) else (codicilref29_digit.j1 k x0 false))
def codicilref29_digit.j1 : Nat → Int → Bool → Option (Int)
 | 0, _, _ => none
 | k + 1, x0, x13 => if x13 = true then (some (((x0 - 97) % 256) + 10)) else (if x0 ≥ 65 then (if x0 ≤ 70 then (some (((x0 - 65) % 256) + 10)) else (some (-1))) else (some (-1)))
end
def codicilref29_digit.f (k : Nat) (a0 : Int) : Option (Int) := if a0 ≥ 48 then (codicilref29_digit.j0 k a0 (decide (a0 ≤ 57))) else (codicilref29_digit.j0 k a0 false)
theorem codicilref29_digit.mono_l : ∀ k, (∀ y0 y1, LeO (codicilref29_digit.j0 k y0 y1) (codicilref29_digit.j0 (k + 1) y0 y1)) ∧ (∀ y0 y1, LeO (codicilref29_digit.j1 k y0 y1) (codicilref29_digit.j1 (k + 1) y0 y1))
 | 0 => ⟨fun _ _ r h => by simp [codicilref29_digit.j0] at h, fun _ _ r h => by simp [codicilref29_digit.j1] at h⟩
 | k + 1 => by
  obtain ⟨ih0, ih1⟩ := codicilref29_digit.mono_l k
  refine ⟨?_, ?_⟩
  ·intro y0 y1
   unfold codicilref29_digit.j0
   repeat' first
   | (with_reducible exact ih0 _ _)
   | (with_reducible exact ih1 _ _)
   | (with_reducible exact LeO.refl _)
   | (with_reducible exact LeO.none _)
   | (with_reducible refine LeO.ite ?_ ?_)
   | (with_reducible refine LeO.bind ?_ (fun _ => ?_))
   | exact ih0 _ _
   | exact ih1 _ _
   | exact LeO.none _
   | refine LeO.ite ?_ ?_
   | refine LeO.bind ?_ (fun _ => ?_)
  ·intro y0 y1
   unfold codicilref29_digit.j1
   repeat' first
   | (with_reducible exact ih0 _ _)
   | (with_reducible exact ih1 _ _)
   | (with_reducible exact LeO.refl _)
   | (with_reducible exact LeO.none _)
   | (with_reducible refine LeO.ite ?_ ?_)
   | (with_reducible refine LeO.bind ?_ (fun _ => ?_))
   | exact ih0 _ _
   | exact ih1 _ _
   | exact LeO.none _
   | refine LeO.ite ?_ ?_
   | refine LeO.bind ?_ (fun _ => ?_)
theorem codicilref29_digit.mono : ∀ a0 k, LeO (codicilref29_digit.f k a0) (codicilref29_digit.f (k + 1) a0) := by
 intro a0 k
 obtain ⟨ih0, ih1⟩ := codicilref29_digit.mono_l k
 unfold codicilref29_digit.f
 repeat' first
   | (with_reducible exact ih0 _ _)
   | (with_reducible exact ih1 _ _)
   | (with_reducible exact LeO.refl _)
   | (with_reducible exact LeO.none _)
   | (with_reducible refine LeO.ite ?_ ?_)
   | (with_reducible refine LeO.bind ?_ (fun _ => ?_))
   | exact ih0 _ _
   | exact ih1 _ _
   | exact LeO.none _
   | refine LeO.ite ?_ ?_
   | refine LeO.bind ?_ (fun _ => ?_)
set_option maxHeartbeats 8000000 in
set_option maxRecDepth 100000 in
theorem codicilref29_digit.calls (k : Nat) (a0 : Int) (r : Int) (w : World) (h : codicilref29_digit.f k a0 = some r) :
  Calls Tryz.prog 77 #[.int .u8 a0] w fun e w' => e = .returned (.int .i64 r) ∧ Drawn0 w w' := by
 have H : (if a0 ≥ 48 then (codicilref29_digit.j0 k a0 (decide (a0 ≤ 57))) else (codicilref29_digit.j0 k a0 false)) = some r := h
 clear h
 have HC2 := qH H
 clear H
 go_enter Tryz.func77, Tryz.ntmps77
 go_upto_region 1 with (fail)
 go_cut [3] (fun v3 wc => ∃ (kq : Nat) (x3_1 : Bool), v3 = .bool x3_1 ∧ Aside0 (codicilref29_digit.j0 kq a0 x3_1 = some r) ∧ Aside0 (kq ≤ k) ∧ Drawn0 w wc)
 case first =>
  have H := HC2.out
  clear HC2
  by_cases c3 : a0 ≥ 48
  ·rw [if_pos c3] at H
   have c3b0 : decide (48 ≤ a0) = true := decide_eq_true c3
   clear c3
   (first | rw [c3b0] | (simp only [i64_w, i32_w]; rw [c3b0]) | skip)
   have H' := qH H
   clear H
   go_wp2
   go_meet
   case rel => exact ⟨_, (decide (a0 ≤ 57)), zz3, H', ⟨by first | omega | exact Nat.le_refl _⟩, by repeat (first | exact Drawn0.refl _ | apply Drawn0.step)⟩
  ·rw [if_neg c3] at H
   have c3b0 : decide (48 ≤ a0) = false := decide_eq_false c3
   clear c3
   (first | rw [c3b0] | (simp only [i64_w, i32_w]; rw [c3b0]) | skip)
   have H' := qH H
   clear H
   go_wp2
   go_meet
   case rel => exact ⟨_, (false), zz3, H', ⟨by first | omega | exact Nat.le_refl _⟩, by repeat (first | exact Drawn0.refl _ | apply Drawn0.step)⟩
 case rest =>
  clear HC2
  try clear p2
  try clear c3
  try clear c3b0
  obtain ⟨kq, x3_1, rfl, HA, HJ1, ⟨mc1, rfl⟩⟩ := hcut
  cases kq with
  | zero => exact absurd HA.out (by simp [codicilref29_digit.j0])
  | succ kj1 =>
   have H := HA.out
   clear HA
   simp only [codicilref29_digit.j0] at H
   by_cases c4 : x3_1 = true
   ·subst c4
    have H1 : (some ((a0 - 48) % 256)) = some r := by rw [if_pos rfl] at H; exact H
    clear H
    have H := H1
    clear H1
    obtain rfl := Option.some.inj H
    simp only [Option.some.injEq, Prod.mk.injEq] at H
    obtain ⟨rfl⟩ := H
    go_wp2
    go_ret
    exact ⟨by first | rfl | (simp; done) | (simp; exact qEmp _) | (simp [*]; done), by repeat (first | exact Drawn0.refl _ | apply Drawn0.step)⟩
   ·replace c4 := Bool.eq_false_iff.mpr c4
    subst c4
    have H1 : (if a0 ≥ 97 then (codicilref29_digit.j1 kj1 a0 (decide (a0 ≤ 102))) else (codicilref29_digit.j1 kj1 a0 false)) = some r := by rw [if_neg (show ¬ (false = true) by decide)] at H; exact H
    clear H
    have H := H1
    clear H1
    have HC5 := qH H
    clear H
    go_upto_region 3 with (fail)
    go_cut [13] (fun v13 wc => ∃ (kq : Nat) (x13_4 : Bool), v13 = .bool x13_4 ∧ Aside0 (codicilref29_digit.j1 kq a0 x13_4 = some r) ∧ Aside0 (kq ≤ kj1) ∧ Drawn0 w wc)
    case first =>
     have H := HC5.out
     clear HC5
     by_cases c6 : a0 ≥ 97
     ·rw [if_pos c6] at H
      have c6b0 : decide (97 ≤ a0) = true := decide_eq_true c6
      clear c6
      (first | rw [c6b0] | (simp only [i64_w, i32_w]; rw [c6b0]) | skip)
      have H' := qH H
      clear H
      go_wp2
      go_meet
      case rel => exact ⟨_, (decide (a0 ≤ 102)), zz3, H', ⟨by have := HJ1.out; first | omega | exact Nat.le_refl _⟩, by repeat (first | exact Drawn0.refl _ | apply Drawn0.step)⟩
     ·rw [if_neg c6] at H
      have c6b0 : decide (97 ≤ a0) = false := decide_eq_false c6
      clear c6
      (first | rw [c6b0] | (simp only [i64_w, i32_w]; rw [c6b0]) | skip)
      have H' := qH H
      clear H
      go_wp2
      go_meet
      case rel => exact ⟨_, (false), zz3, H', ⟨by have := HJ1.out; first | omega | exact Nat.le_refl _⟩, by repeat (first | exact Drawn0.refl _ | apply Drawn0.step)⟩
    case rest =>
     clear HC5
     try clear c1
     try clear p2
     try clear c3
     try clear c3b0
     try clear c4
     try clear c6
     try clear c6b0
     try clear p2
     obtain ⟨kq, x13_4, rfl, HA, HJ4, ⟨mc4, rfl⟩⟩ := hcut
     cases kq with
     | zero => exact absurd HA.out (by simp [codicilref29_digit.j1])
     | succ kj4 =>
      have H := HA.out
      clear HA
      simp only [codicilref29_digit.j1] at H
      by_cases c7 : x13_4 = true
      ·subst c7
       have H1 : (some (((a0 - 97) % 256) + 10)) = some r := by rw [if_pos rfl] at H; exact H
       clear H
       have H := H1
       clear H1
       obtain rfl := Option.some.inj H
       simp only [Option.some.injEq, Prod.mk.injEq] at H
       obtain ⟨rfl⟩ := H
       go_wp2
       go_ret
       exact ⟨by first | rfl | (simp; done) | (simp; exact qEmp _) | (simp [*]; done), by repeat (first | exact Drawn0.refl _ | apply Drawn0.step)⟩
      ·replace c7 := Bool.eq_false_iff.mpr c7
       subst c7
       have H1 : (if a0 ≥ 65 then (if a0 ≤ 70 then (some (((a0 - 65) % 256) + 10)) else (some (-1))) else (some (-1))) = some r := by rw [if_neg (show ¬ (false = true) by decide)] at H; exact H
       clear H
       have H := H1
       clear H1
       by_cases c8 : a0 ≥ 65
       ·rw [if_pos c8] at H
        have c8b0 : decide (65 ≤ a0) = true := decide_eq_true c8
        clear c8
        by_cases c9 : a0 ≤ 70
        ·rw [if_pos c9] at H
         have c9b0 : decide (a0 ≤ 70) = true := decide_eq_true c9
         clear c9
         obtain rfl := Option.some.inj H
         simp only [Option.some.injEq, Prod.mk.injEq] at H
         obtain ⟨rfl⟩ := H
         go_wp2
         go_ret
         exact ⟨by first | rfl | (simp; done) | (simp; exact qEmp _) | (simp [*]; done), by repeat (first | exact Drawn0.refl _ | apply Drawn0.step)⟩
        ·rw [if_neg c9] at H
         have c9b0 : decide (a0 ≤ 70) = false := decide_eq_false c9
         clear c9
         obtain rfl := Option.some.inj H
         simp only [Option.some.injEq, Prod.mk.injEq] at H
         obtain ⟨rfl⟩ := H
         go_wp2
         go_ret
         exact ⟨by first | rfl | (simp; done) | (simp; exact qEmp _) | (simp [*]; done), by repeat (first | exact Drawn0.refl _ | apply Drawn0.step)⟩
       ·rw [if_neg c8] at H
        have c8b0 : decide (65 ≤ a0) = false := decide_eq_false c8
        clear c8
        obtain rfl := Option.some.inj H
        simp only [Option.some.injEq, Prod.mk.injEq] at H
        obtain ⟨rfl⟩ := H
        go_wp2
        go_ret
        exact ⟨by first | rfl | (simp; done) | (simp; exact qEmp _) | (simp [*]; done), by repeat (first | exact Drawn0.refl _ | apply Drawn0.step)⟩

end Go.Proofs.YtddjhmelniphgaaGreatDoor.Print
