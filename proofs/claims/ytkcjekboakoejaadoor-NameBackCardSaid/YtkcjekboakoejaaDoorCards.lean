/-
  DERIVED. GIVEN WITH THE SEED: THE CARDS: each row of YtkcjekboakoejaaDoorRows.lean that lists a variable, with what it lists TIED to the program's text (the seventh form; the later family's looks); each row that meets fmt, with fmt's text TOLD by the authors' own Lean function (tested against real Go, not proved from fmt's source: count such statements apart). THE CARD IS WHAT COUNTS. Prove the row's statement (the work); the ties are given (YtkcjekboakoejaaDoorTie.lean); close each card by the builder's one call (the guide's Derived/Test/ToyasCard.lean, 'card_holds'). Laid BY PROGRAM, IN A SANDBOX (cutbox-door.mjs). By AI agents, Wed Nov 11 2026. No macro, syntax, notation, axiom, sorry.
-/
import Derived.Test.YtkcjekboakoejaaDoorRows
import GoSem.ClaimSeven
namespace Go.Proofs.YtkcjekboakoejaaDoor
namespace Rows

/-- THE TIED CARD OF 'codicillaw11.NameTells'. -/
def nameTellsCard : Claim7 := { stood := { row := nameTellsRow, standIns := [], harness := (true, "e426d01e5d26a1ed9b77b2578de34f675859357575c35596eefdc7e737f16577"), looks := true }, kinds := [], alts := [], laidByText := true, laidKinds := [.data, .pinned], laidTests := true, laidLooks := .later }
def NameTellsCardSaid : Prop := Claim7.holds Tryd.pinned (.plain (OpenSpec.ofChange nameTellsSpec)) nameTellsCard

/-- THE TIED CARD OF 'codicillaw11.NameBack'. -/
def nameBackCard : Claim7 := { stood := { row := nameBackRow, standIns := [], harness := (true, "e426d01e5d26a1ed9b77b2578de34f675859357575c35596eefdc7e737f16577"), looks := true }, kinds := [], alts := [], laidByText := true, laidKinds := [.data, .pinned], laidTests := true, laidLooks := .later }
def NameBackCardSaid : Prop := Claim7.holds Tryd.pinned (.plain (OpenSpec.ofChange nameBackSpec)) nameBackCard

/-- THE TIED CARD OF 'codicillaw01.RunesReads'. -/
def runesReadsCard : Claim7 := { stood := { row := runesReadsRow, standIns := [], harness := (true, "e426d01e5d26a1ed9b77b2578de34f675859357575c35596eefdc7e737f16577"), looks := true }, kinds := [], alts := [], laidByText := true, laidKinds := [.data, .data, .data, .sentinel, .sentinel], laidTests := true, laidLooks := .later }
def RunesReadsCardSaid : Prop := Claim7.holds Tryd.pinned (.plain (OpenSpec.ofChange runesReadsSpec)) runesReadsCard

/-- THE TIED CARD OF 'codicillaw01.RunesJoins'. -/
def runesJoinsCard : Claim7 := { stood := { row := runesJoinsRow, standIns := [], harness := (true, "e426d01e5d26a1ed9b77b2578de34f675859357575c35596eefdc7e737f16577"), looks := true }, kinds := [], alts := [], laidByText := true, laidKinds := [.data, .data, .data, .sentinel, .sentinel], laidTests := true, laidLooks := .later }
def RunesJoinsCardSaid : Prop := Claim7.holds Tryd.pinned (.plain (OpenSpec.ofChange runesJoinsSpec)) runesJoinsCard

/-- THE TIED CARD OF 'codicillaw01.RunesWrites'. -/
def runesWritesCard : Claim7 := { stood := { row := runesWritesRow, standIns := [], harness := (true, "e426d01e5d26a1ed9b77b2578de34f675859357575c35596eefdc7e737f16577"), looks := true }, kinds := [], alts := [], laidByText := true, laidKinds := [.data, .data, .data, .sentinel, .sentinel], laidTests := true, laidLooks := .later }
def RunesWritesCardSaid : Prop := Claim7.holds Tryd.pinned (.plain (OpenSpec.ofChange runesWritesSpec)) runesWritesCard

/-- THE TIED CARD OF 'codicillaw01.RunesBack'. -/
def runesBackCard : Claim7 := { stood := { row := runesBackRow, standIns := [], harness := (true, "e426d01e5d26a1ed9b77b2578de34f675859357575c35596eefdc7e737f16577"), looks := true }, kinds := [], alts := [], laidByText := true, laidKinds := [.data, .data, .data, .sentinel, .sentinel], laidTests := true, laidLooks := .later }
def RunesBackCardSaid : Prop := Claim7.holds Tryd.pinned (.plain (OpenSpec.ofChange runesBackSpec)) runesBackCard

/-- THE SECOND FORM's CARD OF 'codicillaw11.NameTells'. -/
def nameTellsUptoCard : Claim7 := { stood := { row := nameTellsUptoRow, standIns := [], harness := (true, "e426d01e5d26a1ed9b77b2578de34f675859357575c35596eefdc7e737f16577"), looks := true }, kinds := [], alts := [], laidByText := true, laidKinds := [.data, .pinned], laidTests := true, laidLooks := .later }
def NameTellsUptoCardSaid : Prop := Claim7.holds Tryd.pinned (.plain (OpenSpec.upto nameTellsSpec)) nameTellsUptoCard

/-- THE SECOND FORM's CARD OF 'codicillaw11.NameBack'. -/
def nameBackUptoCard : Claim7 := { stood := { row := nameBackUptoRow, standIns := [], harness := (true, "e426d01e5d26a1ed9b77b2578de34f675859357575c35596eefdc7e737f16577"), looks := true }, kinds := [], alts := [], laidByText := true, laidKinds := [.data, .pinned], laidTests := true, laidLooks := .later }
def NameBackUptoCardSaid : Prop := Claim7.holds Tryd.pinned (.plain (OpenSpec.upto nameBackSpec)) nameBackUptoCard

/-- THE SECOND FORM's CARD OF 'codicillaw01.RunesReads'. -/
def runesReadsUptoCard : Claim7 := { stood := { row := runesReadsUptoRow, standIns := [], harness := (true, "e426d01e5d26a1ed9b77b2578de34f675859357575c35596eefdc7e737f16577"), looks := true }, kinds := [], alts := [], laidByText := true, laidKinds := [.data, .data, .data, .sentinel, .sentinel], laidTests := true, laidLooks := .later }
def RunesReadsUptoCardSaid : Prop := Claim7.holds Tryd.pinned (.plain (OpenSpec.upto runesReadsSpec)) runesReadsUptoCard

/-- THE SECOND FORM's CARD OF 'codicillaw01.RunesJoins'. -/
def runesJoinsUptoCard : Claim7 := { stood := { row := runesJoinsUptoRow, standIns := [], harness := (true, "e426d01e5d26a1ed9b77b2578de34f675859357575c35596eefdc7e737f16577"), looks := true }, kinds := [], alts := [], laidByText := true, laidKinds := [.data, .data, .data, .sentinel, .sentinel], laidTests := true, laidLooks := .later }
def RunesJoinsUptoCardSaid : Prop := Claim7.holds Tryd.pinned (.plain (OpenSpec.upto runesJoinsSpec)) runesJoinsUptoCard

/-- THE SECOND FORM's CARD OF 'codicillaw01.RunesWrites'. -/
def runesWritesUptoCard : Claim7 := { stood := { row := runesWritesUptoRow, standIns := [], harness := (true, "e426d01e5d26a1ed9b77b2578de34f675859357575c35596eefdc7e737f16577"), looks := true }, kinds := [], alts := [], laidByText := true, laidKinds := [.data, .data, .data, .sentinel, .sentinel], laidTests := true, laidLooks := .later }
def RunesWritesUptoCardSaid : Prop := Claim7.holds Tryd.pinned (.plain (OpenSpec.upto runesWritesSpec)) runesWritesUptoCard

/-- THE SECOND FORM's CARD OF 'codicillaw01.RunesBack'. -/
def runesBackUptoCard : Claim7 := { stood := { row := runesBackUptoRow, standIns := [], harness := (true, "e426d01e5d26a1ed9b77b2578de34f675859357575c35596eefdc7e737f16577"), looks := true }, kinds := [], alts := [], laidByText := true, laidKinds := [.data, .data, .data, .sentinel, .sentinel], laidTests := true, laidLooks := .later }
def RunesBackUptoCardSaid : Prop := Claim7.holds Tryd.pinned (.plain (OpenSpec.upto runesBackSpec)) runesBackUptoCard
end Rows
end Go.Proofs.YtkcjekboakoejaaDoor
