/- Contract of graph.formed: whether a row's refs may be, by themselves. -/
import Derived.Test.YtddjhmelniphgaaHShelf
import Derived.Test.YtddjhmelniphgaaGSorted
import Derived.Test.YtddjhmelniphgaaGClone
import Derived.Shelf.SlSortCmp.NoneTotal
namespace Go.Proofs.Ytddjhmelniphgaa.Print
open Go Go.RowKit Go.Shelf Go.Lib Go.Proofs Go.Proofs.YtddjhmelniphgaaW.PrintWords Go.Proofs.YtddjhmelniphgaaW.PrintLast
open Go.Sort hiding Below
set_option linter.unusedVariables false
set_option linter.unusedSimpArgs false
theorem cmpLaysN (blk off size : Nat) (w : World) : CmpLays Try.prog 30 #[] encK 2 ordN blk off size w := fun m os dk hs x y => order_any x y _
theorem ltN : ltOf ordN = lessN := rfl
/-- A row of nodes' cells. -/
theorem flatN {W : World} {ad : Addr} {l : List Nd} (h : Kd.C k24 W (some ad) l.length l) : ∃ cs : List Value, cs.length = l.length * 2 ∧ (∀ j u, cs[j]? = some u → W.cell? (ad.add j) = some u) ∧ (∀ u ∈ cs, u.oneCell' = true) ∧ ∀ j x, l[j]? = some x → cs[j * 2]? = some (.string x.f0) ∧ cs[j * 2 + 1]? = some (.int .i64 x.f1) := by
  obtain ⟨cs, hr, hc⟩ := ReadsRow.inner_ h
  have hlen : cs.length = l.length * 2 := hr.1
  have hat : ∀ j x, l[j]? = some x → cs[j * 2]? = some (.string x.f0) ∧ cs[j * 2 + 1]? = some (.int .i64 x.f1) := fun j x hj => by
    have h1 : (cs.drop (j * 2)).take 2 = [.string x.f0, .int .i64 x.f1] := k24_open (hr.2 j x hj)
    have h2 := congrArg (fun z => z[0]?) h1
    have h3 := congrArg (fun z => z[1]?) h1
    simp only [List.getElem?_take, List.getElem?_drop] at h2 h3
    simp at h2 h3
    exact ⟨h2, h3⟩
  refine ⟨cs, hlen, hc, fun u hu => ?_, hat⟩
  obtain ⟨i, hi⟩ := List.mem_iff_getElem?.1 hu
  have hlt := (List.getElem?_eq_some_iff.1 hi).1
  obtain ⟨h1, h2⟩ := hat (i / 2) _ (List.getElem?_eq_getElem (by omega))
  rcases Nat.mod_two_eq_zero_or_one i with e | e
  · have e1 : i / 2 * 2 = i := by omega
    rw [e1, hi] at h1
    injection h1 with h1
    rw [h1]; rfl
  · have e1 : i / 2 * 2 + 1 = i := by omega
    rw [e1, hi] at h2
    injection h2 with h2
    rw [h2]; rfl
theorem compact_small (A : Option Addr) (n c : Nat) (hn : n < 2) (w : World) : Calls Try.prog 47 #[.slice A n c] w fun e w' => e = .returned (.slice A n c) ∧ w = w' := by
  have h1 : (n : Int) < 2 := by omega
  go_enter Try.func47, Try.ntmps47
  go_wp2
  go_ret
  exact ⟨rfl, rfl⟩

/-- A block that holds a list of nodes, whole. -/
theorem holds_of_block {W : World} {g : Nat} {t : TypeId} {cur : Array Value} {l : List Nd} {cs : List Value} (hb : W.heap[g]? = some (.cells cur t (0, 0))) (htk : cur.toList.take (l.length * 2) = cs)
    (hat : ∀ j x, l[j]? = some x → cs[j * 2]? = some (.string x.f0) ∧ cs[j * 2 + 1]? = some (.int .i64 x.f1)) (hsz : l.length * 2 ≤ cur.size) : HoldsK encK 2 W g 0 l.toArray := by
  intro j hj
  have hj2 : j < l.length * 2 := by simpa using hj
  have hfl : (flatK encK 2 l.toArray)[j]! = (encK l.toArray[j / 2]!)[j % 2]! := get_flatK encK 2 l.toArray j (by simpa using hj2)
  have hdiv : j / 2 < l.length := by omega
  have hx : l.toArray[j / 2]! = l[j / 2] := by rw [getElem!_pos _ _ (by simpa using hdiv)]; simp
  obtain ⟨h1, h2⟩ := hat (j / 2) _ (List.getElem?_eq_getElem hdiv)
  have hcell : W.cell? ⟨g, 0 + j, none⟩ = cs[j]? := by
    rw [Nat.zero_add]
    have : W.cell? ⟨g, j, none⟩ = cur[j]? := by simp [World.cell?, hb]
    rw [this, ← htk, List.getElem?_take, if_pos hj2, Array.getElem?_toList]
  refine ⟨?_, by simp [World.frozen?, hb]⟩
  rw [hcell, hfl, hx]
  rcases Nat.mod_two_eq_zero_or_one j with e | e
  · have e1 : j / 2 * 2 = j := by omega
    rw [e1] at h1
    rw [h1, e]; rfl
  · have e1 : j / 2 * 2 + 1 = j := by omega
    rw [e1] at h2
    rw [h2, e]; rfl
theorem below_sortWorld (w : World) (g m : Nat) (d : Array Nd) (os : Array Obj) (hg : g < w.heap.size) : Below g w (sortWorldK encK 2 w g 0 m d os) := by
  unfold sortWorldK
  have h1 : Below g w (Go.Sort.ahead w m) := ⟨rfl, rfl, rfl, Nat.le_refl _, fun _ _ => rfl⟩
  have h2 : Below g (Go.Sort.ahead w m) (putRowK encK 2 (Go.Sort.ahead w m) g 0 d) := by
    refine ⟨rfl, rfl, rfl, by rw [size_putRowK]; exact Nat.le_refl _, fun k hk => ?_⟩
    unfold putRowK Go.Sort.putRow Go.Sort.mapBlock
    simp only [Array.getElem?_modify]
    rw [if_neg (by omega)]
  refine h1.trans (h2.trans ⟨rfl, rfl, rfl, by unfold Go.Sort.grow; simp, fun k hk => ?_⟩)
  show ((putRowK encK 2 (Go.Sort.ahead w m) g 0 d).heap ++ os)[k]? = _
  rw [Array.getElem?_append_left (by rw [size_putRowK]; show k < w.heap.size; omega)]
def formedPost (l : List Nd) (w : World) (e : Ending) (w' : World) : Prop := e = .returned (.bool (formedN l)) ∧ Below w.heap.size w w'

theorem formed_case (l : List Nd) (b : Bool) (h : formedN l = b) : formedN l = b := h
set_option maxRecDepth 100000 in
set_option maxHeartbeats 1000000 in
theorem formed_nil (c : Nat) (w : World) : Calls Try.prog 32 #[.slice none 0 c] w (formedPost [] w) := by
  have h1 := fun W => cloneN_nil c W
  have h2 : ∀ W, Calls Try.prog 46 #[.slice none 0 0, .func (.func 30) #[] #[]] W fun e w' => e = .returned (.tuple #[]) ∧ w' = W := fun W => AnyF.slices_SortFunc_none (P := Try.prog) Try.sortNode none 0 _ W
  have h3 := fun W => compact_small none 0 0 (by omega) W
  go_enter Try.func32, Try.ntmps32
  go_wp2_with (first | (go_at_call 45; refine (h1 _).mono ?_; rintro e w' ⟨rfl, rfl⟩) | (go_at_call 46; refine (h2 _).mono ?_; rintro e w' ⟨rfl, rfl⟩) | (go_at_call 47; refine (h3 _).mono ?_; rintro e w' ⟨rfl, rfl⟩))
  go_ret
  exact ⟨rfl, Below.refl _ _⟩

set_option maxRecDepth 100000 in
set_option maxHeartbeats 1000000 in
theorem formed_some (ad : Addr) (c : Nat) (l : List Nd) (w : World) (hr : Kd.C k24 w (some ad) l.length l) (hc : l.length ≤ c) (hbig : l.length ≤ 1048576) :
    Calls Try.prog 32 #[.slice (some ad) l.length c] w (formedPost l w) := by
  obtain ⟨cs, hcl, hcell, hone, hat⟩ := flatN hr
  have h1 := cloneN_raw ad c l.length cs w hcl hcell hone hbig
  obtain ⟨n, hn⟩ : ∃ n, n = l.length := ⟨_, rfl⟩
  have h2 : ∀ (W : World) (g cap : Nat) (cur : Array Value), W.heap[g]? = some (.cells cur 24 (0, 0)) → n ≤ cap → cur.size = cap * 2 → cur.toList.take (n * 2) = cs →
      Calls Try.prog 46 #[.slice (some ⟨g, 0, none⟩) n cap, .func (.func 30) #[] #[]] W fun e w' =>
        e = .returned (.tuple #[]) ∧ Below g W w' ∧ g < w'.heap.size ∧ ∃ d : Array Nd, d.size = n ∧ RowN w' g n (fun j => d[j]!) ∧ (1 ≤ n → (kept (fun j => d[j]!) n = n ↔ l.Nodup)) := by
    intro W g cap cur hb hcap hcs htk
    have hg : g < W.heap.size := (Array.getElem?_eq_some_iff.1 hb).1
    rw [hn] at htk hcap ⊢
    have hH := holds_of_block hb htk hat (by omega)
    have hs := AnyQ.slices_SortFunc (P := Try.prog) Try.sortNode 2 Try.isAgg24 Try.sizeOf24 encK (fun _ => rfl) (fun x v hv => by simp [encK] at hv; rcases hv with rfl | rfl <;> rfl) ordN swoN 30 #[] g 0 cap l.toArray W
      (enters_of Try.func30 (by kernel_rfl) rfl) (cmpLaysN g 0 _ W) hH hg (by simp; omega)
    rw [List.size_toArray] at hs
    change Calls Try.prog 46 _ _ _ at hs
    refine hs.mono ?_
    rintro e w' ⟨rfl, d', m, os, hp, hso, rfl⟩
    have hd : d'.size = l.length := by have := hp.1; simpa using this
    have hR := holdsK_sortWorldK_c encK 2 W g 0 l.toArray d' m os hH hg (by simpa using hd)
    refine ⟨rfl, below_sortWorld W g m d' os hg, Nat.lt_of_lt_of_le hg (size_sortWorldK_c encK 2 W g 0 m d' os), d', hd, fun j hj => ?_, fun h1 => ?_⟩
    · have c0 := hR.cell (i := j) (c := 0) (by omega) (by omega)
      have c1 := hR.cell (i := j) (c := 1) (by omega) (by omega)
      simp only [Nat.zero_add, Nat.add_zero] at c0 c1
      exact ⟨c0.1, c1.1, c0.2, c1.2⟩
    · exact kept_nodup (by simpa using hp) (by have := hso; rw [ltN] at this; exact this) h1
  have h3 : ∀ (W : World) (g cap : Nat) (d : Nat → Nd), RowN W g n d → g < W.heap.size → n ≤ cap → ∃ m, (1 ≤ n → m = kept d n) ∧ (n = 0 → m = 0) ∧
      Calls Try.prog 47 #[.slice (some ⟨g, 0, none⟩) n cap] W fun e w' => e = .returned (.slice (some ⟨g, 0, none⟩) m cap) ∧ Below g W w' := by
    intro W g cap d hR hg hcap
    by_cases h2n : 2 ≤ n
    · exact ⟨kept d n, fun _ => rfl, fun h => by omega, compact_any g n cap d W h2n (by omega) hcap hR hg⟩
    · refine ⟨n, fun h => ?_, fun h => h, (compact_small _ n cap (by omega) W).mono ?_⟩
      · have : n = 1 := by omega
        rw [this]; rfl
      · rintro e w' ⟨rfl, rfl⟩; exact ⟨rfl, Below.refl _ _⟩
  have HN := Aside0.mk hn
  rw [← hn] at h1 hc hbig ⊢
  have H2 := Aside0.mk h2
  have H3 := Aside0.mk h3
  clear hr hcl hcell hone hat h2 h3 hn
  by_cases h16 : n ≤ 16
  · have h16z : (n : Int) ≤ 16 := by omega
    obtain ⟨b, hb⟩ : ∃ b, b = formedN l := ⟨_, rfl⟩
    have HB := Aside0.mk hb
    unfold formedPost
    rw [← hb]
    clear hb
    go_enter Try.func32, Try.ntmps32
    go_wp2_with (go_at_call 45; refine h1.mono ?_; rintro e w1 ⟨v, rfl, hv, ho, hb1⟩)
    rcases ho.2 with ⟨rfl, _⟩ | ⟨g, cap, cur, rfl, hbase, hblk, hcap, _, hcs, htk⟩
    · exact absurd rfl hv
    · have hc2 := H2.out w1 g cap cur hblk hcap hcs htk
      have HB1 := Aside0.mk hb1
      clear hv ho hblk hcs htk hb1 h1
      go_wp2_with (go_at_call 46; refine hc2.mono ?_; rintro e w2 ⟨rfl, hb2, hg2, d, hd, hR, hK⟩)
      obtain ⟨m, hm1, hm0, hc3⟩ := H3.out w2 g cap _ hR hg2 hcap
      have HB2 := Aside0.mk (HB1.out.trans (hb2.mono hbase))
      have HK := Aside0.mk hK
      have HM1 := Aside0.mk hm1
      have HM0 := Aside0.mk hm0
      clear hb2 hR hK hm1 hm0 hc2
      have hbm : b = decide (m = n) := by
        rw [HB.out]
        unfold formedN
        rw [← HN.out, decide_eq_true h16, Bool.true_and]
        rw [Bool.eq_iff_iff, decide_eq_true_iff, decide_eq_true_iff]
        by_cases h1 : 1 ≤ n
        · rw [HM1.out h1]; exact (HK.out h1).symm
        · have h0 : n = 0 := by omega
          rw [HM0.out h0, h0]
          have : l = [] := List.eq_nil_of_length_eq_zero (by rw [← HN.out]; exact h0)
          rw [this]
          exact ⟨fun _ => rfl, fun _ => List.nodup_nil⟩
      have hmn : ((m : Int) == (n : Int)) = b := by
        rw [hbm, Bool.eq_iff_iff, beq_iff_eq, decide_eq_true_iff]
        omega
      clear hbm
      go_wp2_with (go_at_call 47; refine hc3.mono ?_; rintro e w3 ⟨rfl, hb3⟩)
      go_ret
      exact ⟨rfl, HB2.out.trans (hb3.mono hbase)⟩
  · have h16z : ¬ (n : Int) ≤ 16 := by omega
    have hb : formedN l = false := by
      unfold formedN
      rw [← HN.out, decide_eq_false h16, Bool.false_and]
    unfold formedPost
    rw [hb]
    clear hb
    go_enter Try.func32, Try.ntmps32
    go_wp2_with (go_at_call 45; refine h1.mono ?_; rintro e w1 ⟨v, rfl, hv, ho, hb1⟩)
    rcases ho.2 with ⟨rfl, _⟩ | ⟨g, cap, cur, rfl, hbase, hblk, hcap, _, hcs, htk⟩
    · exact absurd rfl hv
    · have hc2 := H2.out w1 g cap cur hblk hcap hcs htk
      have HB1 := Aside0.mk hb1
      clear hv ho hblk hcs htk hb1 h1
      go_wp2_with (go_at_call 46; refine hc2.mono ?_; rintro e w2 ⟨rfl, hb2, hg2, d, hd, hR, hK⟩)
      have HB2 := Aside0.mk (HB1.out.trans (hb2.mono hbase))
      clear hb2 hR hK hc2
      go_wp2
      go_ret
      exact ⟨rfl, HB2.out⟩
theorem formed_any (A : Option Addr) (c : Nat) (l : List Nd) (w : World) (hr : Kd.C k24 w A l.length l) (hc : l.length ≤ c) (hbig : l.length ≤ 1048576) :
    Calls Try.prog 32 #[.slice A l.length c] w fun e w' => e = .returned (.bool (formedN l)) ∧ Below w.heap.size w w' := by
  cases A with
  | some ad => exact formed_some ad c l w hr hc hbig
  | none =>
    have h0 : l = [] := by
      rcases Nat.eq_zero_or_pos l.length with h | h
      · exact List.eq_nil_of_length_eq_zero h
      · obtain ⟨ad, h2, _⟩ := hr.2.2 h; cases h2
    subst h0
    exact formed_nil c w
end Go.Proofs.Ytddjhmelniphgaa.Print
