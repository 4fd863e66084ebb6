/- The plain law of HttpWrites: which requests and responses may be, what their bytes are, which header is got. -/
import Derived.Test.YtddjhmelniphgaaGreatDoorQTAsk
import Derived.Test.YtddjhmelniphgaaGreatDoorQTLarge
import Derived.Test.YtddjhmelniphgaaGreatDoorHAlive29
import Derived.Test.YtddjhmelniphgaaGreatDoorOpnT
import Derived.Test.YtddjhmelniphgaaGreatDoorPrint6
namespace Go.Proofs.YtddjhmelniphgaaGreatDoor.Print
open Go.RowKit Go.Proofs.YtddjhmelniphgaaGreatDoorW.PrintWords Go.Proofs.YtddjhmelniphgaaGreatDoorW.PrintLast
set_option linter.unusedVariables false
set_option linter.unusedSimpArgs false
theorem writes_pure (r : S25) (hr : G25 r) (t : S32) (ht : G32 t) (name : ByteArray) (hn : name.size ≤ 140737488351232) : ∃ k, codicillaw29_HttpWrites.f k r.f0 r.f1 r.f2 r.f3 t.f0 t.f1 t.f2 name = some true := by
  refine Ev.rounds (g := fun k => codicillaw29_HttpWrites.f k r.f0 r.f1 r.f2 r.f3 t.f0 t.f1 t.f2 name) ?_
  obtain ⟨b0, b1, _, _⟩ := hr
  unfold codicillaw29_HttpWrites.f
  have hyes : Ev (fun k => codicillaw29_HttpWrites.j0 k name true r.f0 r.f1 r.f2 r.f3 t.f0 t.f1 t.f2) true :=
    Ev.step (f := fun k => (codicillaw29_alive.f k).bind fun t384 => (some t384)) (fun k => by simp only [codicillaw29_HttpWrites.j0]; rw [if_pos trivial]) (Ev.bind alive29_ev (Ev.now _))
  refine Ev.bind (rlarge_ev r.f2 r.f3) ?_
  cases hl1 : largeB r.f2 r.f3 with
  | true => simp only [if_true]; exact hyes
  | false =>
    simp only [Bool.false_eq_true, if_false]
    refine Ev.bind (rlarge_ev t.f1 t.f2) ?_
    cases hl2 : largeB t.f1 t.f2 with
    | true => simp only [if_true]; exact hyes
    | false =>
      simp only [Bool.false_eq_true, if_false]
      rw [w64 (n := (r.f0.size : Int) + (r.f1.size : Int)) (by omega)]
      by_cases h4 : (r.f0.size : Int) + (r.f1.size : Int) > 4096
      · simp only [if_pos h4]; exact hyes
      · simp only [if_neg h4]
        by_cases h5 : (name.size : Int) > 1024
        · rw [decide_eq_true h5]; exact hyes
        · rw [decide_eq_false h5]
          have f1 := fits_of hl1
          have f2 := fits_of hl2
          obtain ⟨g1, g2⟩ := rget_ev r.f2 f1.1 name
          have a1 := ask_is r.f0 r.f1 r.f2 r.f3 (by omega) (by omega) f1
          have a2 := rask_ev r.f0 r.f1 r.f2 r.f3 (by omega) (by omega) f1
          have s1 := say_is t.f0 t.f1 t.f2 f2
          have s2 := rsay_ev t.f0 t.f1 t.f2 f2
          refine Ev.step (f := fun k => (http_Ask.f r.f0 r.f1 r.f2 r.f3).bind fun bt385 => ((codicilref29_Ask.f k r.f0 r.f1 r.f2 r.f3).bind fun bt387 => ((http_Write.f t.f0 t.f1 t.f2).bind fun bt389 => ((codicilref29_Write.f k t.f0 t.f1 t.f2).bind fun bt391 => ((http_Get.f k r.f2 name).bind fun bt393 => ((codicilref29_Get.f k r.f2 name).bind fun bt395 => (if bt385.1.toList = bt387.1.toList then (if bt385.2 = bt387.2 then (if bt389.1.toList = bt391.1.toList then (if bt389.2 = bt391.2 then (if bt393.1.toList = bt395.1.toList then (if (bt393.2 == bt395.2) = true then ((codicillaw29_alive.f k).bind fun t397 => (some t397)) else (some false)) else (some false)) else (some false)) else (some false)) else (some false)) else (some false)))))))) (fun k => ?_) ?_
          · simp only [codicillaw29_HttpWrites.j0]
            rw [if_neg (by decide)]
          · simp only [a1, s1, Option.bind_some]
            refine Ev.bind a2 (Ev.bind s2 (Ev.bind g2 (Ev.bind g1 ?_)))
            simp only [if_true, beq_self_eq_true]
            exact Ev.bind alive29_ev (Ev.now _)
end Go.Proofs.YtddjhmelniphgaaGreatDoor.Print
