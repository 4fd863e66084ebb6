/-
  No cell of these rows narrows 'for every input' (looked for: loops, veiled, ifaces, maps, wideKeys, modest, calm, conditions, laid).
  DERIVED. THE GIVEN ROWS OF THIS SEAT. 4 by the template 'for every input the law returns true; each argument reads behind the call as it read before'; 0 by the template 'total and deterministic' (their statements: YtddjhmelniphgaaTotals.lean).
  GIVEN WITH THE SEED: the statements are not yours to turn. If you find one false, say at which input.
  Laid BY PROGRAM, IN A SANDBOX (cutbox-rows.mjs): the forced cells as the released guide's own fill.sh prints them over the translation 162c018b191e4723… (all of the seat's roots in one cut). By AI agents, Wed Nov 11 2026. No macro, syntax, notation, axiom, sorry.
-/
import Derived.Test.YtddjhmelniphgaaChecked
import GoSem.Claim
import GoSem.ClaimJoined
import GoSem.ClaimMapViews
import Derived.JoinedTies
import Derived.KernelRfl
namespace Go.Proofs.Ytddjhmelniphgaa
/- THE CELL 'sum', in the pinned program and in every row, IS THE sha256 OF THE DUMP (.gsa) THAT YtddjhmelniphgaaProg.lean LOADS. Nothing in Lean hashes anything: it is a label: what it is worth is what the hold of that sum in a sandbox is worth. -/
noncomputable def Try.pinned : Pinned := { name := "ytddjhmelniphgaa", sum := "162c018b191e4723f1301069a6c8e3b7660fa10ddff4af8595ab1e281a3d8395", checked := Try.checked }
namespace Rows
def none {H : Type} : Left H := { results := [], args := [] }

/-- 'codicillaw19.GraphTells': WHATEVER THE INPUT: true; the input reads as it did. -/
def graphTellsSpec : ChangeSpec := { name := "graphTells", fn := fun _ => fun
  | [d1, d2, d3] => { results := [.lit (.bool true)], args := [d1, d2, d3] }
  | _ => none }
def graphTellsRow : OpenClaim := { program := "ytddjhmelniphgaa", sum := "162c018b191e4723f1301069a6c8e3b7660fa10ddff4af8595ab1e281a3d8395", func := "codicil/codicillaw19.GraphTells", spec := "graphTells", inPlace := ["slices.overlaps[codicil/api.Uses]"], unfollowed := true, recurses := true, plainKeys := false, apart := false }
def GraphTellsSaid : Prop := graphTellsRow.holds Try.pinned (OpenSpec.ofChange graphTellsSpec)

/-- ITS FALSE NEIGHBOUR: 'it returns false'. Refute it at one input. -/
def graphTellsWrong : ChangeSpec := { name := "graphTells", fn := fun _ => fun
  | [d1, d2, d3] => { results := [.lit (.bool false)], args := [d1, d2, d3] }
  | _ => none }
def GraphTellsWrongFalsely : Prop := graphTellsRow.holds Try.pinned (OpenSpec.ofChange graphTellsWrong)

/-- 'codicillaw19.GraphTurns': WHATEVER THE INPUT: true; the input reads as it did. -/
def graphTurnsSpec : ChangeSpec := { name := "graphTurns", fn := fun _ => fun
  | [d1, d2, d3] => { results := [.lit (.bool true)], args := [d1, d2, d3] }
  | _ => none }
def graphTurnsRow : OpenClaim := { program := "ytddjhmelniphgaa", sum := "162c018b191e4723f1301069a6c8e3b7660fa10ddff4af8595ab1e281a3d8395", func := "codicil/codicillaw19.GraphTurns", spec := "graphTurns", inPlace := ["slices.overlaps[codicil/api.Uses]"], unfollowed := true, recurses := true, plainKeys := false, apart := false }
def GraphTurnsSaid : Prop := graphTurnsRow.holds Try.pinned (OpenSpec.ofChange graphTurnsSpec)

/-- ITS FALSE NEIGHBOUR: 'it returns false'. Refute it at one input. -/
def graphTurnsWrong : ChangeSpec := { name := "graphTurns", fn := fun _ => fun
  | [d1, d2, d3] => { results := [.lit (.bool false)], args := [d1, d2, d3] }
  | _ => none }
def GraphTurnsWrongFalsely : Prop := graphTurnsRow.holds Try.pinned (OpenSpec.ofChange graphTurnsWrong)

/-- 'codicillaw19.GraphKeeps': WHATEVER THE INPUT: true; the input reads as it did. -/
def graphKeepsSpec : ChangeSpec := { name := "graphKeeps", fn := fun _ => fun
  | [d] => { results := [.lit (.bool true)], args := [d] }
  | _ => none }
def graphKeepsRow : OpenClaim := { program := "ytddjhmelniphgaa", sum := "162c018b191e4723f1301069a6c8e3b7660fa10ddff4af8595ab1e281a3d8395", func := "codicil/codicillaw19.GraphKeeps", spec := "graphKeeps", inPlace := ["slices.overlaps[codicil/api.Uses]"], unfollowed := true, recurses := true, plainKeys := false, apart := false }
def GraphKeepsSaid : Prop := graphKeepsRow.holds Try.pinned (OpenSpec.ofChange graphKeepsSpec)

/-- ITS FALSE NEIGHBOUR: 'it returns false'. Refute it at one input. -/
def graphKeepsWrong : ChangeSpec := { name := "graphKeeps", fn := fun _ => fun
  | [d] => { results := [.lit (.bool false)], args := [d] }
  | _ => none }
def GraphKeepsWrongFalsely : Prop := graphKeepsRow.holds Try.pinned (OpenSpec.ofChange graphKeepsWrong)

/-- 'codicillaw19.GraphUsers': WHATEVER THE INPUT: true; the input reads as it did. -/
def graphUsersSpec : ChangeSpec := { name := "graphUsers", fn := fun _ => fun
  | [d1, d2] => { results := [.lit (.bool true)], args := [d1, d2] }
  | _ => none }
def graphUsersRow : OpenClaim := { program := "ytddjhmelniphgaa", sum := "162c018b191e4723f1301069a6c8e3b7660fa10ddff4af8595ab1e281a3d8395", func := "codicil/codicillaw19.GraphUsers", spec := "graphUsers", inPlace := ["slices.overlaps[codicil/api.Uses]"], unfollowed := true, recurses := true, plainKeys := false, apart := false }
def GraphUsersSaid : Prop := graphUsersRow.holds Try.pinned (OpenSpec.ofChange graphUsersSpec)

/-- ITS FALSE NEIGHBOUR: 'it returns false'. Refute it at one input. -/
def graphUsersWrong : ChangeSpec := { name := "graphUsers", fn := fun _ => fun
  | [d1, d2] => { results := [.lit (.bool false)], args := [d1, d2] }
  | _ => none }
def GraphUsersWrongFalsely : Prop := graphUsersRow.holds Try.pinned (OpenSpec.ofChange graphUsersWrong)

/- THE SECOND FORM. 'bulk': how many values and letters a reading holds, each counted each time it is reached (what is shared counts as often as it is met; a slice's spare places count too). A statement '..UptoSaid' is the law's where the arguments, and the package variables that the reading takes, are together of bulk at most 1048576: NARROWER than '..Said'. Prove '..Said' where nothing that the law and all that it calls make is longer than what came in: it says more and counts as full. Else prove '..UptoSaid'. A law counts once. -/
mutual
def uptoBulk {H : Type} : DataW H → Nat
  | .lit (.string bytes) => bytes.length + 1
  | .lit _ => 1
  | .nil => 1
  | .ptr d => uptoBulk d + 1
  | .slice elems spare => uptoBulkAll elems + uptoBulkAll spare + 1
  | .agg parts => uptoBulkAll parts + 1
  | .iface _ d => uptoBulk d + 1
  | .map entries => uptoBulkEntries entries + 1
  | .held _ => 1
def uptoBulkAll {H : Type} : List (DataW H) → Nat
  | [] => 0
  | d :: r => uptoBulk d + uptoBulkAll r
def uptoBulkEntries {H : Type} : List (Lit × DataW H) → Nat
  | [] => 0
  | x :: r => uptoBulkEntry x + uptoBulkEntries r
def uptoBulkEntry {H : Type} : Lit × DataW H → Nat
  | (.string bytes, d) => bytes.length + uptoBulk d + 1
  | (_, d) => uptoBulk d + 1
 end
def uptoSmall : (H : Type) → List (DataW H) → Bool := fun _ ds => decide (uptoBulkAll ds ≤ 1048576)
def OpenSpec.upto (s : _root_.Go.ChangeSpec) : _root_.Go.OpenSpec := { _root_.Go.OpenSpec.ofChange s with cond := some uptoSmall }

/-- 'codicillaw19.GraphTells', WHERE WHAT IT READS IS OF BULK AT MOST 1048576: true; the input reads as it did. -/
def graphTellsUptoRow : OpenClaim := { program := "ytddjhmelniphgaa", sum := "162c018b191e4723f1301069a6c8e3b7660fa10ddff4af8595ab1e281a3d8395", func := "codicil/codicillaw19.GraphTells", spec := "graphTells", inPlace := ["slices.overlaps[codicil/api.Uses]"], unfollowed := true, recurses := true, plainKeys := false, apart := false, narrowed := true }
def GraphTellsUptoSaid : Prop := graphTellsUptoRow.holds Try.pinned (OpenSpec.upto graphTellsSpec)

/-- 'codicillaw19.GraphTurns', WHERE WHAT IT READS IS OF BULK AT MOST 1048576: true; the input reads as it did. -/
def graphTurnsUptoRow : OpenClaim := { program := "ytddjhmelniphgaa", sum := "162c018b191e4723f1301069a6c8e3b7660fa10ddff4af8595ab1e281a3d8395", func := "codicil/codicillaw19.GraphTurns", spec := "graphTurns", inPlace := ["slices.overlaps[codicil/api.Uses]"], unfollowed := true, recurses := true, plainKeys := false, apart := false, narrowed := true }
def GraphTurnsUptoSaid : Prop := graphTurnsUptoRow.holds Try.pinned (OpenSpec.upto graphTurnsSpec)

/-- 'codicillaw19.GraphKeeps', WHERE WHAT IT READS IS OF BULK AT MOST 1048576: true; the input reads as it did. -/
def graphKeepsUptoRow : OpenClaim := { program := "ytddjhmelniphgaa", sum := "162c018b191e4723f1301069a6c8e3b7660fa10ddff4af8595ab1e281a3d8395", func := "codicil/codicillaw19.GraphKeeps", spec := "graphKeeps", inPlace := ["slices.overlaps[codicil/api.Uses]"], unfollowed := true, recurses := true, plainKeys := false, apart := false, narrowed := true }
def GraphKeepsUptoSaid : Prop := graphKeepsUptoRow.holds Try.pinned (OpenSpec.upto graphKeepsSpec)

/-- 'codicillaw19.GraphUsers', WHERE WHAT IT READS IS OF BULK AT MOST 1048576: true; the input reads as it did. -/
def graphUsersUptoRow : OpenClaim := { program := "ytddjhmelniphgaa", sum := "162c018b191e4723f1301069a6c8e3b7660fa10ddff4af8595ab1e281a3d8395", func := "codicil/codicillaw19.GraphUsers", spec := "graphUsers", inPlace := ["slices.overlaps[codicil/api.Uses]"], unfollowed := true, recurses := true, plainKeys := false, apart := false, narrowed := true }
def GraphUsersUptoSaid : Prop := graphUsersUptoRow.holds Try.pinned (OpenSpec.upto graphUsersSpec)

end Rows
end Go.Proofs.Ytddjhmelniphgaa
