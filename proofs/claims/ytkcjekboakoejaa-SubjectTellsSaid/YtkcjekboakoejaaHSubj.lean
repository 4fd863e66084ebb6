/- The functions of package subject as plain Lean functions, and that the Go functions come to just these: in the form that the printed texts take. -/
import Derived.Test.YtkcjekboakoejaaHFind
import Derived.Test.YtkcjekboakoejaaHSoft
import Derived.Test.YtkcjekboakoejaaHHard
import Derived.Test.YtkcjekboakoejaaHAdd
namespace Go.Proofs.Ytkcjekboakoejaa.Print
open Go.RowKit Go.Shelf Go.Proofs.YtkcjekboakoejaaW.PrintWords Go.Proofs.YtkcjekboakoejaaW.PrintLast Go.Proofs.YtkcjekboakoejaaW.PrintMore
set_option linter.unusedVariables false
set_option linter.unusedSimpArgs false

/-- What a row of versions is read from lies in its block. -/
theorem f_of_c {w : World} {A : Option Addr} {n : Nat} {xs : List V30} (h : Kd.C k30 w A n xs) {ok : Nat → Prop} (hok : ∀ ad, A = some ad → 0 < n → ok ad.block) : Kd.F k30 w ok A n xs := fun W' hW =>
  ⟨h.1, h.2.1, fun hp => by
    obtain ⟨ad, rfl, hc⟩ := h.2.2 hp
    have hlt := Kd.C_lt h hp (by decide)
    have hb := hW ad.block (hok ad rfl hp) hlt
    refine ⟨ad, rfl, fun j p hj => ?_⟩
    obtain ⟨c, h1, h2, h3⟩ := hc j p hj
    refine ⟨c, h1, h2, fun i u hu => ?_⟩
    have h4 := h3 i u hu
    have h5 : (ad.add (j * k30.sz + i)).block = ad.block := add_block _ _
    generalize ad.add (j * k30.sz + i) = a at h4 h5
    rw [← h5] at hb
    simpa [World.cell?, hb] using h4⟩
theorem ok_of_f {w : World} {ad : Addr} {n : Nat} {xs : List V30} {ok : Nat → Prop} (h : Kd.F k30 w ok (some ad) n xs) (hn : 0 < n) : ok ad.block := by
  by_cases hok : ok ad.block
  · exact hok
  · exfalso
    obtain ⟨W', h2, h3⟩ := Kd.emptied w ad.block
    have h4 := h W' (fun k hk _ => h2 k (fun e => hok (e ▸ hk)))
    obtain ⟨ad', e, hc⟩ := h4.2.2 hn
    cases e
    have hl : xs.length = n := h4.1
    obtain ⟨c, h5, h6, h7⟩ := hc 0 _ (List.getElem?_eq_getElem (show 0 < xs.length by omega))
    have h8 := h7 0 _ (List.getElem?_eq_getElem (show 0 < c.length by rw [h5]; decide))
    rw [h3 _ (add_block _ _)] at h8
    cases h8

def subject_Name.f (a0 : ByteArray) : Option (Bool) := some (nameB a0)
theorem subject_Name.calls (a0 : ByteArray) (r : Bool) (w : World) (h : subject_Name.f a0 = some r) :
    Calls Try.prog 27 #[.string a0] w fun e w' => e = .returned (.bool r) ∧ Below w.heap.size w w' := by
  obtain rfl := Option.some.inj h
  exact name18_any a0 w

theorem subject_Find.calls (a0_0 : ByteArray) (a0_1 : Int) (A0_2 : Option Addr) (c0_2 : Nat) (l0_2 : List V30) (a1 : Int) (r1 : Int) (r2 : Int) (r3 : Bool) (r4 : Bool) (w : World) (hr0_2 : Kd.C k30 w A0_2 l0_2.length l0_2) (hc0_2 : l0_2.length ≤ c0_2) (h : subject_Find.f a0_0 a0_1 l0_2 a1 = some (r1, r2, r3, r4)) :
    Calls Try.prog 21 #[.agg #[.string a0_0, .int .i64 a0_1, .slice A0_2 l0_2.length c0_2], .int .i64 a1] w fun e w' => e = .returned (.tuple #[.agg #[.int .i64 r1, .int .u32 r2, .bool r3], .bool r4]) ∧ Below w.heap.size w w' := by
  unfold subject_Find.f at h
  split at h
  · rename_i hl
    simp only [Option.some.injEq, Prod.mk.injEq] at h
    obtain ⟨rfl, rfl, rfl, rfl⟩ := h
    exact find_any a0_0 a0_1 A0_2 c0_2 l0_2 a1 w hr0_2 hc0_2 hl
  · cases h
theorem subject_Has.calls (a0_0 : ByteArray) (a0_1 : Int) (A0_2 : Option Addr) (c0_2 : Nat) (l0_2 : List V30) (a1 : Int) (r1 : Int) (r2 : Int) (r3 : Bool) (r4 : Bool) (w : World) (hr0_2 : Kd.C k30 w A0_2 l0_2.length l0_2) (hc0_2 : l0_2.length ≤ c0_2) (h : subject_Has.f a0_0 a0_1 l0_2 a1 = some (r1, r2, r3, r4)) :
    Calls Try.prog 23 #[.agg #[.string a0_0, .int .i64 a0_1, .slice A0_2 l0_2.length c0_2], .int .u32 a1] w fun e w' => e = .returned (.tuple #[.agg #[.int .i64 r1, .int .u32 r2, .bool r3], .bool r4]) ∧ Below w.heap.size w w' := by
  unfold subject_Has.f at h
  split at h
  · rename_i hl
    simp only [Option.some.injEq, Prod.mk.injEq] at h
    obtain ⟨rfl, rfl, rfl, rfl⟩ := h
    exact has_any a0_0 a0_1 A0_2 c0_2 l0_2 a1 w hr0_2 hc0_2 hl
  · cases h

/-- What the functions are asked of a row: not too long, ids of their kind. -/
def fitB (l : List V30) : Bool := decide (l.length ≤ 1048576) && idsOk l

def subject_May.f (a0_0 : ByteArray) (a0_1 : Int) (l0_2 : List V30) : Option (Int) := if fitB l0_2 = true then some (mayE (mayB a0_0 a0_1 l0_2)) else none
theorem subject_May.calls (a0_0 : ByteArray) (a0_1 : Int) (A0_2 : Option Addr) (c0_2 : Nat) (l0_2 : List V30) (r : Int) (w : World) (hr0_2 : Kd.C k30 w A0_2 l0_2.length l0_2) (hc0_2 : l0_2.length ≤ c0_2) (h : subject_May.f a0_0 a0_1 l0_2 = some r) :
    Calls Try.prog 28 #[.agg #[.string a0_0, .int .i64 a0_1, .slice A0_2 l0_2.length c0_2]] w fun e w' => e = .returned (.int .i64 r) ∧ Below w.heap.size w w' := by
  unfold subject_May.f at h
  split at h
  · rename_i hl
    obtain rfl := Option.some.inj h
    simp only [fitB, Bool.and_eq_true, decide_eq_true_eq] at hl
    exact may18_any a0_0 a0_1 A0_2 c0_2 l0_2 w hr0_2 hc0_2 hl.1 hl.2
  · cases h

def subject_Soft.f (a0_0 : ByteArray) (a0_1 : Int) (l0_2 : List V30) (a1 : Int) : Option (ByteArray × Int × (List V30) × Int) :=
  if fitB l0_2 = true then some (softP (placeP (mayB a0_0 a0_1 l0_2) l0_2 a1 false) a0_0 a0_1 l0_2) else none
theorem subject_Soft.calls (a0_0 : ByteArray) (a0_1 : Int) (A0_2 : Option Addr) (c0_2 : Nat) (l0_2 : List V30) (a1 : Int) (r1 : ByteArray) (r2 : Int) (r3 : List V30) (r4 : Int) (w : World) (hr0_2 : Kd.C k30 w A0_2 l0_2.length l0_2) (hc0_2 : l0_2.length ≤ c0_2) (h : subject_Soft.f a0_0 a0_1 l0_2 a1 = some (r1, r2, r3, r4)) :
    Calls Try.prog 14 #[.agg #[.string a0_0, .int .i64 a0_1, .slice A0_2 l0_2.length c0_2], .int .i64 a1] w fun e w' => ∃ v2_ : Value, e = .returned (.tuple #[.agg #[.string r1, .int .i64 r2, v2_], .int .i64 r4]) ∧ Kd.R k30 30 w' w.heap.size (fun _ => True) v2_ r3 ∧ Below w.heap.size w w' := by
  unfold subject_Soft.f at h
  split at h
  · rename_i hl
    simp only [fitB, Bool.and_eq_true, decide_eq_true_eq] at hl
    exact soft_any a0_0 a0_1 A0_2 c0_2 l0_2 a1 w hr0_2 hc0_2 hl.1 hl.2 (r1, r2, r3, r4) (Option.some.inj h)
  · cases h

def subject_Hard.f (a0_0 : ByteArray) (a0_1 : Int) (l0_2 : List V30) (a1 : Int) : Option (ByteArray × Int × (List V30) × Int) :=
  if fitB l0_2 = true then some (hardP (placeP (mayB a0_0 a0_1 l0_2) l0_2 a1 true) a0_0 a0_1 l0_2) else none
theorem subject_Hard.calls (a0_0 : ByteArray) (a0_1 : Int) (P0_2_ : Nat → Prop) (A0_2 : Option Addr) (c0_2 : Nat) (l0_2 : List V30) (a1 : Int) (r1 : ByteArray) (r2 : Int) (r3 : List V30) (r4 : Int) (w : World) (hs0_2 : Kd.V k30 30 w w.heap.size (fun k_ => P0_2_ k_) (.slice A0_2 l0_2.length c0_2) l0_2) (h : subject_Hard.f a0_0 a0_1 l0_2 a1 = some (r1, r2, r3, r4)) :
    Calls Try.prog 16 #[.agg #[.string a0_0, .int .i64 a0_1, .slice A0_2 l0_2.length c0_2], .int .i64 a1] w fun e w' => ∃ v2_ : Value, e = .returned (.tuple #[.agg #[.string r1, .int .i64 r2, v2_], .int .i64 r4]) ∧ Kd.V k30 30 w' w.heap.size (fun k_ => (P0_2_ k_ ∨ w.heap.size ≤ k_)) v2_ r3 ∧ Below w.heap.size w w' := by
  unfold subject_Hard.f at h
  split at h
  · rename_i hl
    simp only [fitB, Bool.and_eq_true, decide_eq_true_eq] at hl
    obtain ⟨A', c', he, hcc, hF⟩ := hs0_2
    injection he with he1 _ he3
    subst he1; subst he3
    refine (hard_any a0_0 a0_1 A0_2 c0_2 l0_2 a1 w (Kd.F_now hF) hcc hl.1 hl.2 (r1, r2, r3, r4) (Option.some.inj h)).mono ?_
    rintro e w' ⟨A2, c2, rfl, hC, hc2, hb, hok⟩
    refine ⟨_, rfl, ⟨A2, c2, rfl, hc2, f_of_c hC (fun x hx hp => ?_)⟩, hb⟩
    rcases hok x hx hp with h1 | h1
    · by_cases hl0 : 0 < l0_2.length
      · subst h1
        exact .inl (ok_of_f hF hl0)
      · have hl1 : l0_2 = [] := List.eq_nil_of_length_eq_zero (by omega)
        subst hl1
        exfalso
        have h2 := Option.some.inj h
        have h3 : r3 = [] := by
          have h4 := congrArg (fun z => z.2.2.1) h2
          simp only [hardP] at h4
          split at h4 <;> simpa using h4.symm
        simp only [h3] at hp
        exact absurd hp (by simp)
    · exact .inr h1
  · cases h

def subject_Add.f (a0_0 : ByteArray) (a0_1 : Int) (l0_2 : List V30) (a1 : Int) : Option (ByteArray × Int × (List V30) × Int × Int × Bool × Int) :=
  if fitB l0_2 = true then some (let r := addP (mayB a0_0 a0_1 l0_2) (firstP (fun x => !x.f2 && (x.f1 == a1)) l0_2) a0_0 a0_1 l0_2 a1; (r.1, r.2.1, r.2.2.1, r.2.2.2.1.f0, r.2.2.2.1.f1, r.2.2.2.1.f2, r.2.2.2.2)) else none
theorem subject_Add.calls (a0_0 : ByteArray) (a0_1 : Int) (P0_2_ : Nat → Prop) (A0_2 : Option Addr) (c0_2 : Nat) (l0_2 : List V30) (a1 : Int) (r1 : ByteArray) (r2 : Int) (r3 : List V30) (r4 : Int) (r5 : Int) (r6 : Bool) (r7 : Int) (w : World) (hs0_2 : Kd.V k30 30 w w.heap.size (fun k_ => P0_2_ k_) (.slice A0_2 l0_2.length c0_2) l0_2) (h : subject_Add.f a0_0 a0_1 l0_2 a1 = some (r1, r2, r3, r4, r5, r6, r7)) :
    Calls Try.prog 12 #[.agg #[.string a0_0, .int .i64 a0_1, .slice A0_2 l0_2.length c0_2], .int .u32 a1] w fun e w' => ∃ v2_ : Value, e = .returned (.tuple #[.agg #[.string r1, .int .i64 r2, v2_], .agg #[.int .i64 r4, .int .u32 r5, .bool r6], .int .i64 r7]) ∧ Kd.V k30 30 w' w.heap.size (fun k_ => (P0_2_ k_ ∨ w.heap.size ≤ k_)) v2_ r3 ∧ Below w.heap.size w w' := by
  unfold subject_Add.f at h
  split at h
  · rename_i hl
    simp only [fitB, Bool.and_eq_true, decide_eq_true_eq] at hl
    obtain ⟨A', c', he, hcc, hF⟩ := hs0_2
    injection he with he1 _ he3
    subst he1; subst he3
    refine (add_any a0_0 a0_1 A0_2 c0_2 l0_2 a1 w (Kd.F_now hF) hcc hl.1 hl.2 _ rfl).mono ?_
    rintro e w' ⟨A2, c2, rfl, hC, hc2, hb, hok⟩
    simp only [Option.some.injEq, Prod.mk.injEq] at h
    obtain ⟨rfl, rfl, rfl, rfl, rfl, rfl, rfl⟩ := h
    exact ⟨_, rfl, ⟨A2, c2, rfl, hc2, f_of_c hC (fun x hx hp => .inr (hok x hx hp))⟩, hb⟩
  · cases h
end Go.Proofs.Ytkcjekboakoejaa.Print
