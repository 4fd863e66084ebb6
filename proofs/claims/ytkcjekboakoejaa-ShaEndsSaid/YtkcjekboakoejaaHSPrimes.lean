/- Contract of sha.primes: the first primes. -/
import Derived.Test.YtkcjekboakoejaaHSRot
import Derived.Test.YtkcjekboakoejaaHSq
import Derived.Laws.AppendOwn
import Derived.WalkMore
import Derived.RangeFuncNested
namespace Go.Proofs.Ytkcjekboakoejaa.Print
open Go Go.RowKit Go.Proofs.YtkcjekboakoejaaW.PrintWords
set_option linter.unusedVariables false
set_option linter.unusedSimpArgs false

/-- n is tried. -/
def stepP (n : Nat) (l : List Nat) : List Nat := if l.any (fun p => n % p == 0) = true then l else l ++ [n]
/-- What is found up to m + 1. -/
def collect : Nat → List Nat
  | 0 => []
  | m + 1 => stepP (m + 2) (collect m)
theorem collect_len : ∀ m, (collect m).length ≤ m
  | 0 => Nat.le_refl _
  | m + 1 => by
    have := collect_len m
    simp only [collect, stepP]
    split
    · omega
    · simp; omega
theorem collect_pos : ∀ m, ∀ p ∈ collect m, 2 ≤ p ∧ p ≤ m + 1
  | 0, p, h => by cases h
  | m + 1, p, h => by
    simp only [collect, stepP] at h
    split at h
    · have := collect_pos m p h; omega
    · rcases List.mem_append.1 h with h | h
      · have := collect_pos m p h; omega
      · simp at h; omega
theorem infoU64 : (Try.prog.info? 78).map (fun i => (i.zero, i.size, i.bytes)) = some (some (.int .u64 0), 1, 8) := by kernel_rfl
/-- The row's slice. -/
theorem row_cases {w : World} {base : Nat} {e : TypeId} {v : Value} {l : List Nat} (h : w.ownsRow base e 1 v l.length (l.map (fun x : Nat => Value.int .u64 x))) :
    (v = .slice none 0 0 ∧ l = []) ∨ ∃ g cap, v = .slice (some ⟨g, 0, none⟩) l.length cap ∧ base ≤ g ∧ l.length ≤ cap ∧ ∀ j, j < l.length → w.cell? ⟨g, j, none⟩ = some (.int .u64 ((l.getD j 0 : Nat) : Int)) := by
  have h0 := h
  rcases h.2 with ⟨hv, hn⟩ | ⟨g, cap, cur, hv, hb, hg, hnc, _, _, ht⟩
  · exact .inl ⟨hv, List.eq_nil_of_length_eq_zero hn⟩
  · refine .inr ⟨g, cap, hv, hb, hnc, fun j hj => ?_⟩
    have := h0.cells (g := g) (by rw [hv]; rfl) j (.int .u64 ((l.getD j 0 : Nat) : Int)) (by simp [List.getD_eq_getElem?_getD, hj])
    have ha : (⟨g, 0, none⟩ : Addr).add j = ⟨g, j, none⟩ := by unfold Addr.add; split <;> simp_all
    rw [ha] at this
    exact this
theorem mod_no {m p : Nat} (h : ((m + 2) % p == 0) = false) : ((((m : Int) + 2) % (p : Int)) == 0) = false := by
  have h1 : ¬ (m + 2) % p = 0 := by simpa using h
  simp only [beq_eq_false_iff_ne]
  intro h2
  have h3 : (((m + 2 : Nat) : Int) % (p : Int)) = 0 := h2
  exact h1 (by exact_mod_cast h3)
theorem mod_yes {m p : Nat} (h : ((m + 2) % p == 0) = true) : ((((m : Int) + 2) % (p : Int)) == 0) = true := by
  have h1 : (m + 2) % p = 0 := by simpa using h
  rw [beq_iff_eq]
  have h3 : (((m + 2 : Nat) : Int) % (p : Int)) = 0 := by exact_mod_cast h1
  exact h3
set_option maxRecDepth 1000000 in
set_option maxHeartbeats 4000000 in
theorem primes_any (k M : Nat) (hM : M ≤ 1000) (hk : (collect M).length = k) (hlt : ∀ m, m < M → (collect m).length < k) (w : World) :
    Calls Try.prog 60 #[.int .i64 k] w fun e w' => ∃ v, e = .returned v ∧ w'.ownsRow w.heap.size 78 1 v k ((collect M).map (fun x : Nat => Value.int .u64 x)) ∧ Below w.heap.size w w' := by
  obtain ⟨ti, hi, hz0, hz1, hz2⟩ := info_parts infoU64
  have HK := Aside0.mk hk
  have HL := Aside0.mk hlt
  clear hk hlt
  go_enter Try.func60, Try.ntmps60
  go_wp2
  go_step3
  go_wp2
  go_step3
  go_wp2
  go_loopw [2, 3] (fun v n wr => ∃ m : Nat, m ≤ M ∧ n = .int .u64 ((m : Int) + 2) ∧ Aside0 (wr.ownsRow w.heap.size 78 1 v (collect m).length ((collect m).map (fun x : Nat => Value.int .u64 x)) ∧ Below w.heap.size w wr)) (fun _ n _ => M + 2 - (intOf n).toNat)
  case atStart => exact ⟨0, Nat.zero_le _, rfl, Aside0.mk ⟨World.ownsRow_nil _ _ _ _, Below.refl _ _⟩⟩
  case round =>
    obtain ⟨m, hm, rfl, HR⟩ := hrel
    by_cases hmM : m < M
    · have h1 := HL.out m hmM
      have h2 := collect_len m
      have h3 := collect_pos m
      have hrow := row_cases HR.out.1
      by_cases hd : (collect m).any (fun p => (m + 2) % p == 0) = true
      · have hst : collect (m + 1) = collect m := by simp only [collect, stepP]; rw [if_pos hd]
        have hnil : ¬ collect m = [] := fun e => by rw [e] at hd; simp at hd
        rcases hrow with ⟨_, e⟩ | ⟨g, cap, rfl, hg, hcap, hc⟩
        · exact absurd e hnil
        obtain ⟨d, hdl⟩ : ∃ d, d = (collect m).findIdx (fun p => (m + 2) % p == 0) := ⟨_, rfl⟩
        have hex : ∃ x ∈ collect m, ((m + 2) % x == 0) = true := by simpa using hd
        have hlt : d < (collect m).length := by rw [hdl]; exact List.findIdx_lt_length_of_exists hex
        have hat : ((m + 2) % (collect m).getD d 0 == 0) = true := by
          have := List.findIdx_getElem (xs := collect m) (p := fun p => (m + 2) % p == 0) (w := by rw [← hdl]; exact hlt)
          simp only [← hdl] at this
          rw [List.getD_eq_getElem?_getD, List.getElem?_eq_getElem hlt]
          exact this
        have hno : ∀ j, j < d → ((m + 2) % (collect m).getD j 0 == 0) = false := fun j hj => by
          have := List.not_of_lt_findIdx (xs := collect m) (p := fun p => (m + 2) % p == 0) (i := j) (by rw [← hdl]; exact hj)
          rw [List.getD_eq_getElem?_getD, List.getElem?_eq_getElem (by omega)]
          simpa using this
        have hp : ∀ j, j < (collect m).length → 2 ≤ (collect m).getD j 0 ∧ (collect m).getD j 0 ≤ m + 1 := fun j hj => by
          rw [List.getD_eq_getElem?_getD, List.getElem?_eq_getElem hj]
          exact h3 _ (List.getElem_mem hj)
        have HST := Aside0.mk hst
        clear hd hst hnil hdl hex h3
        generalize hln : collect m = l at *
        have HLN := Aside0.mk hln
        clear hln
        generalize hlen : l.length = L at *
        have HLEN := Aside0.mk hlen
        clear hlen
        have i0 : (L : Int) < (k : Int) := by omega
        go_wp2
        go_loop [14] (fun i => ∃ j : Nat, j ≤ d ∧ i = .int .i64 j) (fun i => L - (intOf i).toNat)
        case atStart => exact ⟨0, Nat.zero_le _, rfl⟩
        case round =>
          obtain ⟨j, hj, rfl⟩ := hrel
          have hcj := hc j (by omega)
          have hpj := hp j (by omega)
          by_cases hjd : j < d
          · have hn := hno j hjd
            generalize l.getD j 0 = p at *
            have hz : ((((m : Int) + 2) % (p : Int)) == 0) = false := mod_no hn
            have j0 : (0 : Int) ≤ (j : Int) := by omega
            have j1 : (j : Int) < (L : Int) := by omega
            have p1 : (1 : Int) ≤ (p : Int) := by omega
            clear hc hp hno hat hn
            go_wp2
            go_round
            case rel => exact ⟨j + 1, by omega, by go_num⟩
            case measure => simp [intOf]; omega
          · obtain rfl : j = d := by omega
            generalize l.getD j 0 = p at *
            have hz : ((((m : Int) + 2) % (p : Int)) == 0) = true := mod_yes hat
            have j0 : (0 : Int) ≤ (j : Int) := by omega
            have j1 : (j : Int) < (L : Int) := by omega
            have p1 : (1 : Int) ≤ (p : Int) := by omega
            clear hc hp hno hat
            go_wp2
            go_roundw
            case rel => exact ⟨m + 1, by omega, by go_num, Aside0.mk (by rw [HST.out, HLEN.out]; exact HR.out)⟩
            case measure => simp [intOf]; omega
      · have hst : collect (m + 1) = collect m ++ [m + 2] := by simp only [collect, stepP]; rw [if_neg hd]
        have hno : ∀ j, j < (collect m).length → ((m + 2) % (collect m).getD j 0 == 0) = false := fun j hj => by
          rw [List.getD_eq_getElem?_getD, List.getElem?_eq_getElem hj]
          simp only [Option.getD_some]
          cases hb : ((m + 2) % (collect m)[j] == 0) with
          | false => rfl
          | true => exact absurd (List.any_eq_true.2 ⟨_, List.getElem_mem hj, hb⟩) hd
        have hp : ∀ j, j < (collect m).length → 2 ≤ (collect m).getD j 0 ∧ (collect m).getD j 0 ≤ m + 1 := fun j hj => by
          rw [List.getD_eq_getElem?_getD, List.getElem?_eq_getElem hj]
          exact h3 _ (List.getElem_mem hj)
        have HST := Aside0.mk hst
        clear hd hst h3
        generalize hln : collect m = l at *
        have HLN := Aside0.mk hln
        clear hln
        generalize hlen : l.length = L at *
        have HLEN := Aside0.mk hlen
        clear hlen
        have i0 : (L : Int) < (k : Int) := by omega
        have hown := HR.out.1
        rcases hrow with ⟨rfl, e⟩ | ⟨g, cap, rfl, hg, hcap, hc⟩
        · obtain rfl : L = 0 := by have := HLEN.out; rw [e] at this; simpa using this.symm
          subst e
          go_wp2
          go_loop [14] (fun i => ∃ j : Nat, j ≤ 0 ∧ i = .int .i64 j) (fun i => 0 - (intOf i).toNat)
          case atStart => exact ⟨0, Nat.zero_le _, rfl⟩
          case round =>
            obtain ⟨j, hj, rfl⟩ := hrel
            obtain rfl : j = 0 := by omega
            rw [show ((0 : Nat) : Int) = 0 from rfl]
            go_wp2_with (at_builtin; refine wpList_append_own _ rfl _ _ 95 rfl w.heap.size 78 ti (.int .u64 0) 1 8 Try.underlying95 hi hz0 hz1 hz2 rfl (by decide) _ _ _ rfl (hown.alloc _) ⟨wr.heap.size, 0, none⟩ 1 1 [.int .u64 ((m : Int) + 2)] rfl rfl ?c1 ?c2 ?c3 ?c4 ?c5 ?_)
            case c2 => simp [Value.oneCell']
            case c3 => unfold maxLen; omega
            case c5 => have := HR.out.2.size; simp; omega
            intro v' w1 hown1 hgrow _
            have HO := Aside0.mk hown1
            have HG := Aside0.mk hgrow
            clear hown1 hgrow hown
            go_wp2
            go_roundw
            case rel =>
              refine ⟨m + 1, by omega, by go_num, Aside0.mk ⟨?_, (HR.out.2.alloc (HR.out.2.size) _).grown HG.out (by have := HR.out.2.size; simp; omega) (fun k' e => by simp [Value.ownBlock] at e)⟩⟩
              rw [HST.out, List.length_append, HLEN.out, List.map_append]
              exact HO.out
            case measure => simp [intOf]; omega
        · go_wp2
          go_loop [14] (fun i => ∃ j : Nat, j ≤ L ∧ i = .int .i64 j) (fun i => L - (intOf i).toNat)
          case atStart => exact ⟨0, Nat.zero_le _, rfl⟩
          case round =>
            obtain ⟨j, hj, rfl⟩ := hrel
            by_cases hjd : j < L
            · have hn := hno j hjd
              have hcj := hc j hjd
              have hpj := hp j hjd
              generalize l.getD j 0 = p at *
              have hz : ((((m : Int) + 2) % (p : Int)) == 0) = false := mod_no hn
              have j0 : (0 : Int) ≤ (j : Int) := by omega
              have j1 : (j : Int) < (L : Int) := by omega
              have p1 : (1 : Int) ≤ (p : Int) := by omega
              clear hc hp hno hn
              go_wp2
              go_round
              case rel => exact ⟨j + 1, by omega, by go_num⟩
              case measure => simp [intOf]; omega
            · obtain rfl : j = L := by omega
              clear hc hp hno
              go_wp2_with (at_builtin; refine wpList_append_own _ rfl _ _ 95 rfl w.heap.size 78 ti (.int .u64 0) 1 8 Try.underlying95 hi hz0 hz1 hz2 rfl (by decide) _ _ _ rfl (hown.alloc _) ⟨wr.heap.size, 0, none⟩ 1 1 [.int .u64 ((m : Int) + 2)] rfl rfl ?d1 ?d2 ?d3 ?d4 ?d5 ?_)
              case d2 => simp [Value.oneCell']
              case d3 => unfold maxLen; omega
              case d4 => omega
              case d5 => have := HR.out.2.size; simp; omega
              intro v' w1 hown1 hgrow _
              have HO := Aside0.mk hown1
              have HG := Aside0.mk hgrow
              clear hown1 hgrow hown
              go_wp2
              go_roundw
              case rel =>
                refine ⟨m + 1, by omega, by go_num, Aside0.mk ⟨?_, (HR.out.2.alloc (HR.out.2.size) _).grown HG.out (by have := HR.out.2.size; simp; omega) (fun k' e => by simp [Value.ownBlock] at e; omega)⟩⟩
                rw [HST.out, List.length_append, HLEN.out, List.map_append]
                exact HO.out
              case measure => simp [intOf]; omega
    · obtain rfl : m = M := by omega
      have hown := HR.out.1
      have hB := HR.out.2
      rw [HK.out] at hown
      have HO := Aside0.mk hown
      have HB := Aside0.mk hB
      have hkm : (collect m).length = k := HK.out
      have HKM := Aside0.mk hkm
      clear hkm hB HL HK
      have hrow : ∃ g cap, u2 = .slice g k cap := by
        rcases hown.2 with ⟨hv, hn⟩ | ⟨g, cap, cur, hv, _⟩
        · exact ⟨none, 0, by rw [hv, hn]⟩
        · exact ⟨some ⟨g, 0, none⟩, cap, hv⟩
      obtain ⟨g, cap, rfl⟩ := hrow
      clear hown
      go_wp2
      rw [Exit.noGoto_ret]
      go_ret
      exact ⟨_, rfl, HO.out, HB.out⟩
end Go.Proofs.Ytkcjekboakoejaa.Print
