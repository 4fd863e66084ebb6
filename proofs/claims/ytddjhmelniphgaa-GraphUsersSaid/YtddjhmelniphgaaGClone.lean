/- Contracts of slices.Clone at nodes and at rows: cell by cell. -/
import Derived.Test.YtddjhmelniphgaaGMap
import Derived.WalkSpells
namespace Go.Proofs.Ytddjhmelniphgaa.Print
open Go Go.RowKit Go.Proofs.YtddjhmelniphgaaW.PrintWords Go.Proofs.YtddjhmelniphgaaW.PrintLast
set_option linter.unusedVariables false
set_option linter.unusedSimpArgs false

theorem cloneN_nil (c : Nat) (w : World) : Calls Try.prog 45 #[.slice none 0 c] w fun e w' => e = .returned (.slice none 0 0) ∧ w = w' := by
  have q22 : ∀ (w : World), (binOp .eql 25 (.slice none 0 c) (.slice none 0 0)).run Try.prog w = .ok (.bool true) w := fun w => Lib.run_eql_slice_nil w _ _ none _ _ _ _ Try.underlying25
  go_enter Try.func45, Try.ntmps45
  go_wp2
  go_ret
  exact ⟨rfl, rfl⟩
set_option maxHeartbeats 1000000 in
set_option maxRecDepth 100000 in
theorem cloneN_raw (ad : Addr) (c n : Nat) (cs : List Value) (w : World) (hl : cs.length = n * 2) (hcell : ∀ j u, cs[j]? = some u → w.cell? (ad.add j) = some u) (h1 : ∀ u ∈ cs, u.oneCell' = true) (hn : n ≤ 1048576) :
    Calls Try.prog 45 #[.slice (some ad) n c] w fun e w' => ∃ v, e = .returned v ∧ v.ownBlock ≠ none ∧ w'.ownsRow w.heap.size 24 2 v n cs ∧ Below w.heap.size w w' := by
  have q22 : ∀ (w : World), (binOp .eql 25 (.slice (some ad) n c) (.slice none 0 0)).run Try.prog w = .ok (.bool false) w := fun w => Lib.run_eql_slice_nil w _ _ (some ad) _ _ _ _ Try.underlying25
  obtain ⟨i0, hi, hz0, hz1, hz2⟩ := info_parts info24
  have HC := Aside0.mk hcell
  have H1 := Aside0.mk h1
  have HL := Aside0.mk hl
  clear hcell h1 hl
  go_enter Try.func45, Try.ntmps45
  go_wp2_with (at_builtin; refine wpList_append_own _ rfl _ _ 25 rfl w.heap.size 24 i0 (.agg #[.string ⟨#[]⟩, .int .i64 0]) 2 24 Try.underlying25 hi hz0 hz1 hz2 rfl (by decide) _ 0 [] rfl (World.ownsRow_made w #[] 0 (Nat.le_refl _) (by unfold maxLen; omega) rfl) ad n c cs rfl HL.out ?c1 H1.out ?c3 ?c4 ?c5 ?_; (case c1 => exact fun j u hj => by have hb := (Below.refl w.heap.size w).alloc (Nat.le_refl _) (.cells #[] 24); rw [hb.cell (p := ad.add j) (World.block_lt_of_cell? _ _ (HC.out j u hj))]; exact HC.out j u hj); (case c3 => unfold maxLen; omega); (case c4 => omega); (case c5 => simp); intro v1 w1 ho hg hnil)
  have HO := Aside0.mk ho
  have HB := Aside0.mk (((Below.refl w.heap.size w).alloc (Nat.le_refl _) (.cells #[] 24)).grown hg (by simp) (fun k hk => by have hk2 : w.heap.size = k := Option.some.inj hk; omega))
  have HV := Aside0.mk (show v1.ownBlock ≠ none from by
    rcases ho.2 with ⟨h, _⟩ | ⟨g, cap, cur, h, _⟩
    · have h2 := (hnil.1 h).1; injection h2 with h3; cases h3
    · rw [h]; simp [Value.ownBlock])
  clear ho hg hnil
  go_wp2
  go_ret
  exact ⟨v1, rfl, HV.out, by simpa using HO.out, HB.out⟩

theorem cloneU_nil (c : Nat) (w : World) : Calls Try.prog 40 #[.slice none 0 c] w fun e w' => e = .returned (.slice none 0 0) ∧ w = w' := by
  have q22 : ∀ (w : World), (binOp .eql 22 (.slice none 0 c) (.slice none 0 0)).run Try.prog w = .ok (.bool true) w := fun w => Lib.run_eql_slice_nil w _ _ none _ _ _ _ Try.underlying22
  go_enter Try.func40, Try.ntmps40
  go_wp2
  go_ret
  exact ⟨rfl, rfl⟩
set_option maxHeartbeats 1000000 in
set_option maxRecDepth 100000 in
theorem cloneU_raw (ad : Addr) (c n : Nat) (cs : List Value) (w : World) (hl : cs.length = n * 3) (hcell : ∀ j u, cs[j]? = some u → w.cell? (ad.add j) = some u) (h1 : ∀ u ∈ cs, u.oneCell' = true) (hn : n ≤ 1048576) :
    Calls Try.prog 40 #[.slice (some ad) n c] w fun e w' => ∃ v, e = .returned v ∧ v.ownBlock ≠ none ∧ w'.ownsRow w.heap.size 40 3 v n cs ∧ Below w.heap.size w w' := by
  have q22 : ∀ (w : World), (binOp .eql 22 (.slice (some ad) n c) (.slice none 0 0)).run Try.prog w = .ok (.bool false) w := fun w => Lib.run_eql_slice_nil w _ _ (some ad) _ _ _ _ Try.underlying22
  obtain ⟨i0, hi, hz0, hz1, hz2⟩ := info_parts info40
  have HC := Aside0.mk hcell
  have H1 := Aside0.mk h1
  have HL := Aside0.mk hl
  clear hcell h1 hl
  go_enter Try.func40, Try.ntmps40
  go_wp2_with (at_builtin; refine wpList_append_own _ rfl _ _ 22 rfl w.heap.size 40 i0 (.agg #[.string ⟨#[]⟩, .int .i64 0, .slice none 0 0]) 3 48 Try.underlying22 hi hz0 hz1 hz2 rfl (by decide) _ 0 [] rfl (World.ownsRow_made w #[] 0 (Nat.le_refl _) (by unfold maxLen; omega) rfl) ad n c cs rfl HL.out ?c1 H1.out ?c3 ?c4 ?c5 ?_; (case c1 => exact fun j u hj => by have hb := (Below.refl w.heap.size w).alloc (Nat.le_refl _) (.cells #[] 40); rw [hb.cell (p := ad.add j) (World.block_lt_of_cell? _ _ (HC.out j u hj))]; exact HC.out j u hj); (case c3 => unfold maxLen; omega); (case c4 => omega); (case c5 => simp); intro v1 w1 ho hg hnil)
  have HO := Aside0.mk ho
  have HB := Aside0.mk (((Below.refl w.heap.size w).alloc (Nat.le_refl _) (.cells #[] 40)).grown hg (by simp) (fun k hk => by have hk2 : w.heap.size = k := Option.some.inj hk; omega))
  have HV := Aside0.mk (show v1.ownBlock ≠ none from by
    rcases ho.2 with ⟨h, _⟩ | ⟨g, cap, cur, h, _⟩
    · have h2 := (hnil.1 h).1; injection h2 with h3; cases h3
    · rw [h]; simp [Value.ownBlock])
  clear ho hg hnil
  go_wp2
  go_ret
  exact ⟨v1, rfl, HV.out, by simpa using HO.out, HB.out⟩
end Go.Proofs.Ytddjhmelniphgaa.Print
