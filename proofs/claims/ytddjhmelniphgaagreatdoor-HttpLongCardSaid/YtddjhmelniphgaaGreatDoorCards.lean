/-
  DERIVED. GIVEN WITH THE SEED: THE CARDS: each row of YtddjhmelniphgaaGreatDoorRows.lean that lists a variable, with what it lists TIED to the program's text (the seventh form; the later family's looks); each row that meets fmt, with fmt's text TOLD by the authors' own Lean function (tested against real Go, not proved from fmt's source: count such statements apart). THE CARD IS WHAT COUNTS. Prove the row's statement (the work); the ties are given (YtddjhmelniphgaaGreatDoorTie.lean); close each card by the builder's one call (the guide's Derived/Test/ToyasCard.lean, 'card_holds'). Laid BY PROGRAM, IN A SANDBOX (cutbox-door.mjs). By AI agents, Wed Nov 11 2026. No macro, syntax, notation, axiom, sorry.
-/
import Derived.Test.YtddjhmelniphgaaGreatDoorRows
import GoSem.ClaimSeven
namespace Go.Proofs.YtddjhmelniphgaaGreatDoor
namespace Rows

/-- THE TIED CARD OF 'codicillaw29.HttpReads'. -/
def httpReadsCard : Claim7 := { stood := { row := httpReadsRow, standIns := [], harness := (true, "26d9df2f5d9a3c5cd5943a2abad125b3ef301be648e6ccb68881028e85232aa9"), looks := true }, kinds := [], alts := [], laidByText := true, laidKinds := [.data, .data, .data, .data, .sentinel, .sentinel, .pinned, .pinned], laidTests := true, laidLooks := .later }
def HttpReadsCardSaid : Prop := Claim7.holds Tryz.pinned (.plain (OpenSpec.ofChange httpReadsSpec)) httpReadsCard

/-- THE TIED CARD OF 'codicillaw29.HttpPaths'. -/
def httpPathsCard : Claim7 := { stood := { row := httpPathsRow, standIns := [], harness := (true, "26d9df2f5d9a3c5cd5943a2abad125b3ef301be648e6ccb68881028e85232aa9"), looks := true }, kinds := [], alts := [], laidByText := true, laidKinds := [.data, .data, .data, .data, .sentinel, .sentinel, .pinned, .pinned], laidTests := true, laidLooks := .later }
def HttpPathsCardSaid : Prop := Claim7.holds Tryz.pinned (.plain (OpenSpec.ofChange httpPathsSpec)) httpPathsCard

/-- THE TIED CARD OF 'codicillaw29.HttpWrites'. -/
def httpWritesCard : Claim7 := { stood := { row := httpWritesRow, standIns := [], harness := (true, "26d9df2f5d9a3c5cd5943a2abad125b3ef301be648e6ccb68881028e85232aa9"), looks := true }, kinds := [], alts := [], laidByText := true, laidKinds := [.data, .data, .data, .data, .sentinel, .sentinel, .pinned, .pinned], laidTests := true, laidLooks := .later }
def HttpWritesCardSaid : Prop := Claim7.holds Tryz.pinned (.plain (OpenSpec.ofChange httpWritesSpec)) httpWritesCard

/-- THE TIED CARD OF 'codicillaw29.HttpLong'. -/
def httpLongCard : Claim7 := { stood := { row := httpLongRow, standIns := [], harness := (true, "26d9df2f5d9a3c5cd5943a2abad125b3ef301be648e6ccb68881028e85232aa9"), looks := true }, kinds := [], alts := [], laidByText := true, laidKinds := [.data, .data, .data, .data, .sentinel, .sentinel, .pinned, .pinned], laidTests := true, laidLooks := .later }
def HttpLongCardSaid : Prop := Claim7.holds Tryz.pinned (.plain (OpenSpec.ofChange httpLongSpec)) httpLongCard

/-- THE TIED CARD OF 'codicillaw29.HttpBack'. -/
def httpBackCard : Claim7 := { stood := { row := httpBackRow, standIns := [], harness := (true, "26d9df2f5d9a3c5cd5943a2abad125b3ef301be648e6ccb68881028e85232aa9"), looks := true }, kinds := [], alts := [], laidByText := true, laidKinds := [.data, .data, .data, .data, .sentinel, .sentinel, .pinned, .pinned], laidTests := true, laidLooks := .later }
def HttpBackCardSaid : Prop := Claim7.holds Tryz.pinned (.plain (OpenSpec.ofChange httpBackSpec)) httpBackCard

/-- THE TIED CARD OF 'codicillaw29.HttpPipes'. -/
def httpPipesCard : Claim7 := { stood := { row := httpPipesRow, standIns := [], harness := (true, "26d9df2f5d9a3c5cd5943a2abad125b3ef301be648e6ccb68881028e85232aa9"), looks := true }, kinds := [], alts := [], laidByText := true, laidKinds := [.data, .data, .data, .data, .sentinel, .sentinel, .pinned, .pinned], laidTests := true, laidLooks := .later }
def HttpPipesCardSaid : Prop := Claim7.holds Tryz.pinned (.plain (OpenSpec.ofChange httpPipesSpec)) httpPipesCard

/-- THE SECOND FORM's CARD OF 'codicillaw29.HttpReads'. -/
def httpReadsUptoCard : Claim7 := { stood := { row := httpReadsUptoRow, standIns := [], harness := (true, "26d9df2f5d9a3c5cd5943a2abad125b3ef301be648e6ccb68881028e85232aa9"), looks := true }, kinds := [], alts := [], laidByText := true, laidKinds := [.data, .data, .data, .data, .sentinel, .sentinel, .pinned, .pinned], laidTests := true, laidLooks := .later }
def HttpReadsUptoCardSaid : Prop := Claim7.holds Tryz.pinned (.plain (OpenSpec.upto httpReadsSpec)) httpReadsUptoCard

/-- THE SECOND FORM's CARD OF 'codicillaw29.HttpPaths'. -/
def httpPathsUptoCard : Claim7 := { stood := { row := httpPathsUptoRow, standIns := [], harness := (true, "26d9df2f5d9a3c5cd5943a2abad125b3ef301be648e6ccb68881028e85232aa9"), looks := true }, kinds := [], alts := [], laidByText := true, laidKinds := [.data, .data, .data, .data, .sentinel, .sentinel, .pinned, .pinned], laidTests := true, laidLooks := .later }
def HttpPathsUptoCardSaid : Prop := Claim7.holds Tryz.pinned (.plain (OpenSpec.upto httpPathsSpec)) httpPathsUptoCard

/-- THE SECOND FORM's CARD OF 'codicillaw29.HttpWrites'. -/
def httpWritesUptoCard : Claim7 := { stood := { row := httpWritesUptoRow, standIns := [], harness := (true, "26d9df2f5d9a3c5cd5943a2abad125b3ef301be648e6ccb68881028e85232aa9"), looks := true }, kinds := [], alts := [], laidByText := true, laidKinds := [.data, .data, .data, .data, .sentinel, .sentinel, .pinned, .pinned], laidTests := true, laidLooks := .later }
def HttpWritesUptoCardSaid : Prop := Claim7.holds Tryz.pinned (.plain (OpenSpec.upto httpWritesSpec)) httpWritesUptoCard

/-- THE SECOND FORM's CARD OF 'codicillaw29.HttpLong'. -/
def httpLongUptoCard : Claim7 := { stood := { row := httpLongUptoRow, standIns := [], harness := (true, "26d9df2f5d9a3c5cd5943a2abad125b3ef301be648e6ccb68881028e85232aa9"), looks := true }, kinds := [], alts := [], laidByText := true, laidKinds := [.data, .data, .data, .data, .sentinel, .sentinel, .pinned, .pinned], laidTests := true, laidLooks := .later }
def HttpLongUptoCardSaid : Prop := Claim7.holds Tryz.pinned (.plain (OpenSpec.upto httpLongSpec)) httpLongUptoCard

/-- THE SECOND FORM's CARD OF 'codicillaw29.HttpBack'. -/
def httpBackUptoCard : Claim7 := { stood := { row := httpBackUptoRow, standIns := [], harness := (true, "26d9df2f5d9a3c5cd5943a2abad125b3ef301be648e6ccb68881028e85232aa9"), looks := true }, kinds := [], alts := [], laidByText := true, laidKinds := [.data, .data, .data, .data, .sentinel, .sentinel, .pinned, .pinned], laidTests := true, laidLooks := .later }
def HttpBackUptoCardSaid : Prop := Claim7.holds Tryz.pinned (.plain (OpenSpec.upto httpBackSpec)) httpBackUptoCard

/-- THE SECOND FORM's CARD OF 'codicillaw29.HttpPipes'. -/
def httpPipesUptoCard : Claim7 := { stood := { row := httpPipesUptoRow, standIns := [], harness := (true, "26d9df2f5d9a3c5cd5943a2abad125b3ef301be648e6ccb68881028e85232aa9"), looks := true }, kinds := [], alts := [], laidByText := true, laidKinds := [.data, .data, .data, .data, .sentinel, .sentinel, .pinned, .pinned], laidTests := true, laidLooks := .later }
def HttpPipesUptoCardSaid : Prop := Claim7.holds Tryz.pinned (.plain (OpenSpec.upto httpPipesSpec)) httpPipesUptoCard
end Rows
end Go.Proofs.YtddjhmelniphgaaGreatDoor
