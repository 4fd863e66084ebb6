/- Contract of graph.Add. -/
import Derived.Test.YtddjhmelniphgaaHLb
import Derived.Test.YtddjhmelniphgaaGRows
import Derived.Test.YtddjhmelniphgaaGMay
import Derived.Lib.Hide
namespace Go.Proofs.Ytddjhmelniphgaa.Print
open Go Go.RowKit Go.Proofs.YtddjhmelniphgaaW.PrintWords Go.Proofs.YtddjhmelniphgaaW.PrintLast
set_option linter.unusedVariables false
set_option linter.unusedSimpArgs false
def addU (l : List Us) (u : Us) : List Us × Int :=
  if mayN l ≠ 0 then ([], 8) else if inN l u.f0 = true then ([], 7) else if formedN u.f1 = false then ([], 2) else if anyP (fun x => !inN l x) u.f1 = true then ([], 5) else if 1024 ≤ l.length then ([], 6) else (addAt l (placeN l u.f0) u, 0)
def addPost (w : World) (P0 P1 : Nat → Prop) (R : List Us × Int) (e : Ending) (w' : World) : Prop :=
  ∃ v, e = .returned (.tuple #[v, .int .i64 R.2]) ∧ Kd.V k40 40 w' w.heap.size (fun k => (P0 k ∨ P1 k) ∨ w.heap.size ≤ k) v R.1 ∧ Below w.heap.size w w'
/-- What is known behind the calls: the box of the argument, and nothing old is turned. -/
def ABox (w W : World) (B : Nat) (u0 : ByteArray) (u1 : Int) (v : Value) : Prop := W.heap[B]? = some (.cells #[.string u0, .int .i64 u1, v] 40 (0, 0)) ∧ Below w.heap.size w W ∧ B = w.heap.size
theorem ABox.below {w W W' : World} {B : Nat} {u0 : ByteArray} {u1 : Int} {v : Value} (h : ABox w W B u0 u1 v) (hb : Below W.heap.size W W') : ABox w W' B u0 u1 v := ⟨blk_below h.1 hb, below_step h.2.1 hb, h.2.2⟩
theorem add_err {w w' : World} {P0 P1 : Nat → Prop} {r : Int} {R : List Us × Int} (h : R = ([], r)) (hb : Below w.heap.size w w') : addPost w P0 P1 R (.returned (.tuple #[.slice none 0 0, .int .i64 r])) w' := by
  subst h
  exact ⟨_, rfl, Kd.V_nil _ _ _ _ _, hb⟩
theorem clone_all (P0 : Nat → Prop) (A0 : Option Addr) (c0 : Nat) (l : List Us) (w : World) (hF : Kd.F k40 w P0 A0 l.length l) (hlen : l.length ≤ 1048576) :
    ∃ inner, Reps (fun x c => Kd.FK k40 w P0 x c) 3 l inner ∧ (∀ u ∈ inner, u.oneCell' = true) ∧ ∀ W, Below w.heap.size w W → Calls Try.prog 40 #[.slice A0 l.length c0] W fun e w' => ∃ v, e = .returned v ∧ w'.ownsRow W.heap.size 40 3 v l.length inner ∧ Below W.heap.size W w' := by
  cases A0 with
  | none =>
    have hl : l = [] := by
      rcases Nat.eq_zero_or_pos l.length with h | h
      · exact List.eq_nil_of_length_eq_zero h
      · obtain ⟨ad, he, _⟩ := (Kd.F_now hF).2.2 h; cases he
    subst hl
    refine ⟨[], Reps.none _ _, (fun u hu => absurd hu (List.not_mem_nil)), fun W _ => (cloneU_nil c0 W).mono ?_⟩
    rintro e w' ⟨rfl, rfl⟩
    exact ⟨_, rfl, World.ownsRow_nil _ _ _ _, Below.refl _ _⟩
  | some ad =>
    obtain ⟨inner, hr, hc, h1⟩ := F_inner hF
    refine ⟨inner, hr, h1, fun W hb => (cloneU_raw ad c0 l.length inner W hr.1 (fun j u hj => ?_) h1 hlen).mono ?_⟩
    · have h2 := hc j u hj
      rw [← h2]
      exact hb.cell (p := ad.add j) (World.block_lt_of_cell? _ _ h2)
    · rintro e w' ⟨v, rfl, _, ho, hb2⟩
      exact ⟨v, rfl, ho, hb2⟩
def InsF (w0 : World) (n : Nat) (inner vs : List Value) (s : Value × Nat) (W : World) : Prop :=
  W.ownsRow w0.heap.size 40 3 s.1 n inner ∧ W.heap[s.2]? = some (.cells vs.toArray 40 (0, 0)) ∧ (∀ p n' c', s.1 = .slice (some p) n' c' → s.2 ≠ p.block) ∧ Below w0.heap.size w0 W
theorem own_at_lt {w : World} {base e sz n : Nat} {v : Value} {cs : List Value} (ho : w.ownsRow base e sz v n cs) {p : Addr} {n' c' : Nat} (h : v = .slice (some p) n' c') : base ≤ p.block ∧ p.block < w.heap.size := by
  rcases ho.2 with ⟨h2, _⟩ | ⟨g, cap, cur, h2, hg, hb, _⟩
  · rw [h2] at h; cases h
  · rw [h2] at h
    injection h with h _ _
    injection h with h
    subst h
    exact ⟨hg, (Array.getElem?_eq_some_iff.1 hb).1⟩
set_option maxRecDepth 100000 in
set_option maxHeartbeats 8000000 in
theorem add_any (P0 P1 : Nat → Prop) (A0 A2 : Option Addr) (c0 c2 : Nat) (l : List Us) (u0 : ByteArray) (u1 : Int) (l2 : List Nd) (w : World) (hF0 : Kd.F k40 w P0 A0 l.length l) (hc0 : l.length ≤ c0) (hF2 : Kd.F k24 w P1 A2 l2.length l2) (hc2 : l2.length ≤ c2)
    (hfit : FitU l) (hf2 : l2.length ≤ 1048576) (R : List Us × Int) (hR : R = addU l ⟨⟨u0, u1⟩, l2⟩) :
    Calls Try.prog 19 #[.slice A0 l.length c0, .agg #[.string u0, .int .i64 u1, .slice A2 l2.length c2]] w (addPost w P0 P1 R) := by
  have hmay := fun (W : World) (hb : Below w.heap.size w W) => may_any A0 c0 l W (Kd.C_below (Kd.F_now hF0) hb) hc0 hfit
  have HS : Aside0 (mayN l = 0 → SortedU l) := Aside0.mk sorted_may
  have hplace := fun (W : World) (hb : Below w.heap.size w W) (h0 : mayN l = 0) (x : Nd) => place_any A0 c0 l x W (Kd.C_below (Kd.F_now hF0) hb) hc0 hfit.len (sorted_may h0)
  have hform := fun (W : World) (hb : Below w.heap.size w W) => formed_any A2 c2 l2 W (Kd.C_below (Kd.F_now hF2) hb) hc2 hf2
  unfold addU at hR
  obtain ⟨m, hm⟩ : ∃ m, m = mayN l := ⟨_, rfl⟩
  obtain ⟨at0, hat⟩ : ∃ at0, at0 = placeN l ⟨u0, u1⟩ := ⟨_, rfl⟩
  obtain ⟨is0, his⟩ : ∃ is0, is0 = inN l ⟨u0, u1⟩ := ⟨_, rfl⟩
  obtain ⟨fo, hfo⟩ : ∃ fo, fo = formedN l2 := ⟨_, rfl⟩
  rw [← hm, ← hfo] at hR
  simp only [← his, ← hat] at hR
  rw [← hm] at hmay
  rw [← hfo] at hform
  have HM := Aside0.mk hm
  have HAT := Aside0.mk hat
  have HIS := Aside0.mk his
  have HF0 := Aside0.mk hF0
  have HF2 := Aside0.mk hF2
  have HC0 := Aside0.mk hc0
  have HFIT := Aside0.mk hfit
  have HFL := Aside0.mk hf2
  have HMAY := Aside0.mk hmay
  have HPL := Aside0.mk hplace
  have HFO := Aside0.mk hform
  have HRE := Aside0.mk hR
  obtain ⟨n, hn⟩ : ∃ n, n = l.length := ⟨_, rfl⟩
  have HN := Aside0.mk hn
  rw [← hn] at HMAY HPL ⊢
  clear hF0 hF2 hc0 hfit hmay hplace hform hR hm hat his hfo hn
  by_cases h1 : m = 0
  · have hm0 : mayN l = 0 := HM.out ▸ h1
    have h1z : (m != 0) = false := by rw [h1]; rfl
    have HPL2 := Aside0.mk (fun W hb x => HPL.out W hb hm0 x)
    have HSO := Aside0.mk (HS.out hm0)
    have hres : R = if is0 = true then ([], 7) else if fo = false then ([], 2) else if anyP (fun x => !inN l x) l2 = true then ([], 5) else if 1024 ≤ l.length then ([], 6) else (addAt l at0 ⟨⟨u0, u1⟩, l2⟩, 0) := by
      rw [HRE.out, if_neg (by simp [h1])]
    have HRE2 := Aside0.mk hres
    clear HRE HPL HS hm0 hres
    go_enter Try.func19, Try.ntmps19
    go_wp2_with (go_at_call 13; refine (HMAY.out _ (below_alloc (Below.refl _ _) _)).mono ?_; rintro e w1 ⟨rfl, hb1⟩; refine Hid.out ?_)
    refine Lib.hid ?_
    have HB := Aside0.mk (show ABox w (w.alloc (.cells #[.string u0, .int .i64 u1, .slice A2 l2.length c2] 40)) w.heap.size u0 u1 (.slice A2 l2.length c2) from ⟨blk_new w _, below_alloc (Below.refl _ _) _, rfl⟩)
    obtain ⟨B, hB⟩ : ∃ B, B = w.heap.size := ⟨_, rfl⟩
    rw [← hB] at HB ⊢
    clear hB
    replace HB := Aside0.mk (HB.out.below hb1)
    clear hb1
    have d0 : w1.cell? ⟨B, 0, none⟩ = some (.string u0) := blk_cell HB.out.1 0
    have d1 : w1.cell? ⟨B, 1, none⟩ = some (.int .i64 u1) := blk_cell HB.out.1 1
    have hpl := HPL2.out w1 HB.out.2.1 ⟨u0, u1⟩
    unfold placePost at hpl
    rw [← HAT.out, ← HIS.out] at hpl
    unfold encN at hpl
    go_wp2_with (go_at_call 38; refine hpl.mono ?_; rintro e w2 ⟨rfl, hb2⟩; refine Hid.out ?_)
    refine Lib.hid ?_
    replace HB := Aside0.mk (HB.out.below hb2)
    clear hb2 d0 d1 hpl w1
    cases is0 with
    | true =>
      go_wp2
      go_ret2
      exact add_err (by rw [HRE2.out]; rfl) HB.out.2.1
    | false =>
      have d2 : w2.cell? ⟨B, 2, none⟩ = some (.slice A2 l2.length c2) := blk_cell HB.out.1 2
      have hfm := HFO.out w2 HB.out.2.1
      go_wp2_with (go_at_call 32; refine hfm.mono ?_; rintro e w3 ⟨rfl, hb3⟩; refine Hid.out ?_)
      refine Lib.hid ?_
      replace HB := Aside0.mk (HB.out.below hb3)
      clear hb3 d2 hfm w2
      cases fo with
      | false =>
        go_wp2
        go_ret2
        exact add_err (by rw [HRE2.out]; rfl) HB.out.2.1
      | true =>
        have HRE3 := Aside0.mk (show R = if anyP (fun x => !inN l x) l2 = true then ([], 5) else if 1024 ≤ l.length then ([], 6) else (addAt l at0 ⟨⟨u0, u1⟩, l2⟩, 0) from HRE2.out)
        clear HRE2 HFO HMAY HIS
        have d2 : w3.cell? ⟨B, 2, none⟩ = some (.slice A2 l2.length c2) := blk_cell HB.out.1 2
        obtain ⟨p, hp⟩ : ∃ p, p = l2.length := ⟨_, rfl⟩
        have HP := Aside0.mk hp
        have hp2 : p ≤ 1048576 := by rw [hp]; exact HFL.out
        rw [← hp] at d2 HB ⊢
        clear hp
        go_wp2
        clear d2
        go_loopg [30] p (fun gg s30 wr => ∃ k : Nat, k ≤ p ∧ p - k ≤ gg ∧ s30 = .int .i64 k ∧ Aside0 (ABox w wr B u0 u1 (.slice A2 p c2)) ∧ Aside0 (∀ j, j < k → inN l (l2.getD j z24) = true))
        case atStart => exact ⟨0, Nat.zero_le _, by omega, rfl, HB, Aside0.mk fun j hj => absurd hj (Nat.not_lt_zero _)⟩
        case round =>
          clear HB
          obtain ⟨k, hk, hgg, rfl, HB, HA⟩ := hrel
          by_cases hlt : k < p
          · have hltz : (k : Int) < (p : Int) := by omega
            obtain ⟨ad, rfl, h0, h1⟩ := at_T24 (Kd.C_below (Kd.F_now HF2.out) HB.out.2.1) (k : Int) (by omega) (by have := HP.out; omega)
            obtain ⟨y0, hy0⟩ : ∃ y0, y0 = (rd_T24 l2 (k : Int)) := ⟨_, rfl⟩
            rw [← hy0] at h0 h1
            have HY := Aside0.mk (show y0 = l2.getD k z24 by rw [hy0]; simp [rd_T24])
            clear hy0
            obtain ⟨ya, yb⟩ := y0
            simp only [Int.toNat_natCast] at h0 h1
            obtain ⟨at1, hat1⟩ : ∃ at1, at1 = placeN l ⟨ya, yb⟩ := ⟨_, rfl⟩
            obtain ⟨is1, his1⟩ : ∃ is1, is1 = inN l ⟨ya, yb⟩ := ⟨_, rfl⟩
            have HIS1 := Aside0.mk his1
            have hpl := fun W hb => HPL2.out W hb ⟨ya, yb⟩
            unfold placePost at hpl
            rw [← hat1, ← his1] at hpl
            unfold encN at hpl
            have HPLN := Aside0.mk hpl
            clear hpl his1 hat1
            go_wp2_with (go_at_call 38; refine (HPLN.out _ (below_alloc HB.out.2.1 _)).mono ?_; rintro e w5 ⟨rfl, hb5⟩; refine Hid.out ?_)
            refine Lib.hid ?_
            have HBX := Aside0.mk ((HB.out.below (below_alloc (Below.refl wr.heap.size wr) (.cells #[.string ya, .int .i64 yb] 24))).below hb5)
            clear hb5 h0 h1
            cases is1 with
            | false =>
              go_wp2
              go_ret2
              refine add_err ?_ HBX.out.2.1
              rw [HRE3.out, if_pos]
              unfold anyP
              rw [List.any_eq_true]
              refine ⟨⟨ya, yb⟩, ?_, by rw [← HIS1.out]; rfl⟩
              rw [HY.out, List.getD_eq_getElem?_getD, List.getElem?_eq_getElem (by have := HP.out; omega)]
              exact List.getElem_mem _
            | true =>
              go_wp2
              go_roundg (p - (k + 1))
              case measure => omega
              case rel => exact ⟨k + 1, by omega, Nat.le_refl _, by go_num, HBX, Aside0.mk fun j hj => by
                rcases Nat.lt_succ_iff_lt_or_eq.1 hj with hj | rfl
                · exact HA.out j hj
                · rw [← HY.out, ← HIS1.out]⟩
          · have hkp : k = p := by omega
            subst hkp
            have hltz : ¬ (k : Int) < (k : Int) := by omega
            have hall : anyP (fun x => !inN l x) l2 = false := by
              unfold anyP
              rw [List.any_eq_false]
              intro x hx
              obtain ⟨j, hj, rfl⟩ := List.getElem_of_mem hx
              have h3 := HA.out j (by have := HP.out; omega)
              rw [List.getD_eq_getElem?_getD, List.getElem?_eq_getElem hj] at h3
              simpa using h3
            have HRE4 := Aside0.mk (show R = if 1024 ≤ n then ([], 6) else (addAt l at0 ⟨⟨u0, u1⟩, l2⟩, 0) by rw [HRE3.out, hall, HN.out]; rfl)
            clear hall HRE3 HA
            by_cases hge : 1024 ≤ n
            · have hgez : (1024 : Int) ≤ (n : Int) := by omega
              go_wp2
              go_ret2
              exact add_err (by rw [HRE4.out, if_pos hge]) HB.out.2.1
            · have hgez : ¬ (1024 : Int) ≤ (n : Int) := by omega
              have hgey : (n : Int) < (1024 : Int) := by omega
              have HRE5 := Aside0.mk (show R = (addAt l at0 ⟨⟨u0, u1⟩, l2⟩, 0) by rw [HRE4.out, if_neg hge])
              obtain ⟨inner, hrp, h1i, hcl⟩ := clone_all P0 A0 c0 l w HF0.out HFIT.out.len
              rw [← HN.out] at hcl
              have HRP := Aside0.mk hrp
              have H1I := Aside0.mk h1i
              have HCLN := Aside0.mk hcl
              have HX := HB
              have HSS := Aside0.mk (fun W (hb : Below wr.heap.size wr W) => show W.cell? ⟨B, 0, none⟩ = some (.string u0) ∧ W.cell? ⟨B, 1, none⟩ = some (.int .i64 u1) ∧ W.cell? ⟨B, 2, none⟩ = some (.slice A2 k c2) from ⟨blk_cell (blk_below HX.out.1 hb) 0, blk_cell (blk_below HX.out.1 hb) 1, blk_cell (blk_below HX.out.1 hb) 2⟩)
              clear HB HRE4 hrp h1i hcl
              have HB := Aside0.mk (Below.refl wr.heap.size wr)
              go_wp2
              refine start_ (n := 8) (S := fun W => W.cell? ⟨B, 0, none⟩ = some (.string u0) ∧ W.cell? ⟨B, 1, none⟩ = some (.int .i64 u1) ∧ W.cell? ⟨B, 2, none⟩ = some (.slice A2 k c2)) (ds := []) (lb 8 0) (by kernel_rfl) rfl rfl (HSS.out _ (by repeat (with_reducible first | exact HB.out | apply below_alloc | apply pw_below_drewN | apply below_drew1))) (fun hHeld => ?_)
              replace HB := Aside0.mk (below_drew1 HB.out)
              generalize wr.drew = wrd at HB hHeld ⊢
              refine pure_ (i := 0) (N := some 46) (v := ?_) (a' := ?_) (lb 8 1) rfl rfl (by kernel_rfl) (fun _ _ _ h => h) (Or.inl ⟨by rfl, ?_⟩) ?_ ?_
              rotate_left
              · intro w'
                go_simp
                with_reducible rfl
              rotate_left
              · simp only [Act.put, zS, zT, zU, zV, zW]
                rfl
              refine pure_ (i := 2) (N := some 48) (v := ?_) (a' := ?_) (lb 8 5) rfl rfl (by kernel_rfl) (fun _ _ _ h => h) (Or.inl ⟨by rfl, ?_⟩) ?_ ?_
              rotate_left
              · intro w'
                go_simp
                with_reducible rfl
              rotate_left
              · simp only [Act.put, zS, zT, zU, zV, zW]
                rfl
              refine take_ (i := 3) (N := some 49) (v := ?_) (a' := ?_) (lb 8 13) rfl rfl (by kernel_rfl) (fun _ _ _ h => h) (Or.inl ⟨by rfl, ?_⟩) hHeld ?_ ?_
              rotate_left
              · intro w' hS_
                (try dsimp only at hS_)
                obtain ⟨s0, s1, s2⟩ := hS_
                go_simp
                with_reducible rfl
              rotate_left
              · simp only [Act.put, zS, zT, zU, zV, zW]
                rfl
              refine join_ 3 (lb 8 31) (fun s : Value × Nat => [(47, s.1), (50, .slice (some ⟨s.2, 0, none⟩) 1 1)]) (InsF wr n inner [.string u0, .int .i64 u1, .slice A2 k c2]) ?cont (fun hC => ?_)
              case cont =>
                rintro ⟨v, gv⟩ W7 ⟨ho, hgv, hne, hb7⟩
                simp only [putAll]
                refine norm_ (a' := ?_) ?_ ?_
                rotate_left
                · simp only [Act.put, zS, zT, zU, zV, zW]
                  rfl
                refine one_ (i := 5) (N := some 51) (lb 8 63) rfl rfl (by kernel_rfl) (by decide) (fun K hK => ?_)
                refine goes_ Try.func39 (by kernel_rfl) rfl #[v, .int .i64 at0, .slice (some ⟨gv, 0, none⟩) 1 1] (by rfl) rfl rfl (by (try simp only [zX, zY, zZ]); first | done | rfl) ?_
                have hat0 : at0 ≤ n := by rw [HAT.out, HN.out]; exact List.countP_le_length
                refine (insertU wr.heap.size at0 n gv v inner [.string u0, .int .i64 u1, .slice A2 k c2] W7 ho hb7.size H1I.out hat0 hgv rfl (by simp [Value.oneCell']) hne (by rw [HN.out]; exact HFIT.out.len)).mono ?_
                rintro e w9 ⟨v9, rfl, ho9, hb9⟩
                refine ⟨_, rfl, ?_⟩
                replace HB := Aside0.mk (hb7.trans hb9)
                refine hK.out _ _ (HSS.out _ (by exact HB.out)) (fun hHeld => ?_)
                clear hK K
                refine norm_ (a' := ?_) ?_ ?_
                rotate_left
                · show Act.put _ (some 51) _ = _
                  simp only [Act.put, zS, zT, zU, zV, zW]
                  rfl
                have HO9 := Aside0.mk ho9
                clear hgv hne ho ho9 hb9
                refine pure_ (i := 6) (N := some 4) (v := ?_) (a' := ?_) (lb 8 127) rfl rfl (by kernel_rfl) (fun _ _ _ h => h) (Or.inl ⟨by rfl, ?_⟩) ?_ ?_
                rotate_left
                · intro w'
                  go_simp
                  with_reducible rfl
                rotate_left
                · simp only [Act.put, zS, zT, zU, zV, zW]
                  rfl
                refine pure_ (i := 7) (N := some 5) (v := ?_) (a' := ?_) (lb 8 255) rfl rfl (by kernel_rfl) (fun _ _ _ h => h) (Or.inl ⟨by rfl, ?_⟩) ?_ ?_
                rotate_left
                · intro w'
                  go_simp
                  with_reducible rfl
                rotate_left
                · simp only [Act.put, zS, zT, zU, zV, zW]
                  rfl
                refine done_ (by kernel_rfl) ?_
                go_wp2
                go_ret2
                have hle : k ≤ c2 := by have := HP.out; omega
                have hu : Kd.FK k40 w P1 (⟨⟨u0, u1⟩, l2⟩ : Us) [.string u0, .int .i64 u1, .slice A2 k c2] := fun W' hW => by
                  have hC := HF2.out W' hW
                  rw [← HP.out] at hC
                  exact ⟨_, _, rfl, ⟨_, _, rfl, rfl, rfl⟩, ⟨A2, c2, by rw [HP.out], by rw [← HP.out]; exact hle, by rw [← HP.out]; exact hC⟩⟩
                have hreps := addAt_reps (R := fun x c => Kd.FK k40 w (fun k => (P0 k ∨ P1 k) ∧ k < w.heap.size) x c ∧ ∀ k, ((P0 k ∨ P1 k) ∧ k < w.heap.size) → k < w.heap.size) (u := ⟨⟨u0, u1⟩, l2⟩) (vs := [.string u0, .int .i64 u1, .slice A2 k c2]) (HRP.out.imp_ fun x c h => ⟨Kd.FK_mono (Kd.FK_bound h) (fun k hk => ⟨.inl hk.1, hk.2⟩), fun k hk => hk.2⟩) ⟨Kd.FK_mono (Kd.FK_bound hu) (fun k hk => ⟨.inr hk.1, hk.2⟩), fun k hk => hk.2⟩ rfl (show at0 ≤ l.length by rw [HAT.out]; exact List.countP_le_length)
                have hbt : Below w.heap.size w w9 := below_step HX.out.2.1 HB.out
                rw [HRE5.out]
                refine ⟨v9, rfl, Kd.V_mono (own_V (base := w.heap.size) (e := 40) ?_ hreps hbt rfl) (fun k hk => hk.imp (fun h => h.1) id), hbt⟩
                rw [addAt_len (show at0 ≤ l.length by rw [HAT.out]; exact List.countP_le_length), ← HN.out]
                exact HO9.out.mono HX.out.2.1.size
              refine two_ (i := 1) (j := 4) (Ni := some 47) (Nj := some 50) (lb 8 15) (lb 8 29) rfl rfl rfl rfl (by kernel_rfl) (by decide) (by decide) (fun K hK => ?_) (fun K hK => ?_)
              · refine goes_ Try.func40 (by kernel_rfl) rfl #[.slice A0 n c0] (by rfl) rfl rfl (by (try simp only [zX, zY, zZ]); first | done | rfl) ?_
                refine (HCLN.out _ (below_step HX.out.2.1 HB.out)).mono ?_
                rintro e w6 ⟨v, rfl, ho, hb⟩
                refine ⟨_, rfl, ?_⟩
                have hbs := HB.out.size
                replace HB := Aside0.mk (below_step HB.out hb)
                refine hK.out _ _ (HSS.out _ (by exact HB.out)) (fun hHeld => ?_)
                clear hK K
                refine norm_ (a' := ?_) ?_ ?_
                rotate_left
                · show Act.put _ (some 47) _ = _
                  simp only [Act.put, zS, zT, zU, zV, zW]
                  rfl
                refine one_ (i := 4) (N := some 50) (lb 8 31) rfl rfl (by kernel_rfl) (by decide) (fun K hK => ?_)
                refine value_ (w1 := w6.alloc (.cells #[.string u0, .int .i64 u1, .slice A2 k c2] 40)) (v := .slice (some ⟨w6.heap.size, 0, none⟩) 1 1) (by rfl) rfl (by unfold execOp; go_simp) ?_
                replace HB := Aside0.mk (below_alloc HB.out (.cells #[.string u0, .int .i64 u1, .slice A2 k c2] 40))
                refine hK.out _ _ (HSS.out _ (by exact HB.out)) (fun hHeld => ?_)
                clear hK K
                refine norm_ (a' := _) ?_ (hC (v, w6.heap.size) _ ⟨(World.ownsRow.mono ho hbs).alloc _, blk_new _ _, ?_, HB.out⟩)
                · simp only [Act.put, zS, zT, zU, zV, zW]
                  rfl
                · intro p n' c' hv
                  have := (own_at_lt ho hv).2
                  show w6.heap.size ≠ p.block
                  omega
              · refine value_ (w1 := wrd.alloc (.cells #[.string u0, .int .i64 u1, .slice A2 k c2] 40)) (v := .slice (some ⟨wrd.heap.size, 0, none⟩) 1 1) (by rfl) rfl (by unfold execOp; go_simp) ?_
                have hbs := HB.out.size
                have hgv := blk_new wrd (.cells #[.string u0, .int .i64 u1, .slice A2 k c2] 40)
                replace HB := Aside0.mk (below_alloc HB.out (.cells #[.string u0, .int .i64 u1, .slice A2 k c2] 40))
                refine hK.out _ _ (HSS.out _ (by exact HB.out)) (fun hHeld => ?_)
                clear hK K
                refine norm_ (a' := ?_) ?_ ?_
                rotate_left
                · show Act.put _ (some 50) _ = _
                  simp only [Act.put, zS, zT, zU, zV, zW]
                  rfl
                refine one_ (i := 1) (N := some 47) (lb 8 31) rfl rfl (by kernel_rfl) (by decide) (fun K hK => ?_)
                refine goes_ Try.func40 (by kernel_rfl) rfl #[.slice A0 n c0] (by rfl) rfl rfl (by (try simp only [zX, zY, zZ]); first | done | rfl) ?_
                refine (HCLN.out _ (below_step HX.out.2.1 HB.out)).mono ?_
                rintro e w6 ⟨v, rfl, ho, hb⟩
                refine ⟨_, rfl, ?_⟩
                replace HB := Aside0.mk (below_step HB.out hb)
                refine hK.out _ _ (HSS.out _ (by exact HB.out)) (fun hHeld => ?_)
                clear hK K
                have hsz : (wrd.alloc (.cells #[.string u0, .int .i64 u1, .slice A2 k c2] 40)).heap.size = wrd.heap.size + 1 := Array.size_push _
                refine norm_ (a' := _) ?_ (hC (v, wrd.heap.size) _ ⟨World.ownsRow.mono ho (by rw [hsz]; omega), blk_below hgv hb, ?_, HB.out⟩)
                · simp only [Act.put, zS, zT, zU, zV, zW]
                  rfl
                · intro p n' c' hv
                  have := (own_at_lt ho hv).1
                  show wrd.heap.size ≠ p.block
                  omega
  · have h1z : (m != 0) = true := by rw [bne_iff_ne]; exact h1
    go_enter Try.func19, Try.ntmps19
    go_wp2_with (go_at_call 13; refine (HMAY.out _ (below_alloc (Below.refl _ _) _)).mono ?_; rintro e w1 ⟨rfl, hb1⟩)
    go_ret2
    exact add_err (by rw [HRE.out, if_pos h1]) (below_step (below_alloc (Below.refl _ _) _) hb1)
end Go.Proofs.Ytddjhmelniphgaa.Print
