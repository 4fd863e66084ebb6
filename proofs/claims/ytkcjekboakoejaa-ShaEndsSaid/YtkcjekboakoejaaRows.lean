/-
  No cell of these rows narrows 'for every input' (looked for: loops, veiled, ifaces, maps, wideKeys, modest, calm, conditions, laid).
  DERIVED. THE GIVEN ROWS OF THIS SEAT. 6 by the template 'for every input the law returns true; each argument reads behind the call as it read before'; 0 by the template 'total and deterministic' (their statements: YtkcjekboakoejaaTotals.lean).
  GIVEN WITH THE SEED: the statements are not yours to turn. If you find one false, say at which input.
  Laid BY PROGRAM, IN A SANDBOX (cutbox-rows.mjs): the forced cells as the released guide's own fill.sh prints them over the translation fdeb1f523f5770e5… (all of the seat's roots in one cut). By AI agents, Wed Nov 11 2026. No macro, syntax, notation, axiom, sorry.
-/
import Derived.Test.YtkcjekboakoejaaChecked
import GoSem.Claim
import GoSem.ClaimJoined
import GoSem.ClaimMapViews
import Derived.JoinedTies
import Derived.KernelRfl
namespace Go.Proofs.Ytkcjekboakoejaa
/- THE CELL 'sum', in the pinned program and in every row, IS THE sha256 OF THE DUMP (.gsa) THAT YtkcjekboakoejaaProg.lean LOADS. Nothing in Lean hashes anything: it is a label: what it is worth is what the hold of that sum in a sandbox is worth. -/
noncomputable def Try.pinned : Pinned := { name := "ytkcjekboakoejaa", sum := "fdeb1f523f5770e5981be895c11353190aaa12f97142d45e4d744c3c7f712758", checked := Try.checked }
namespace Rows
def none {H : Type} : Left H := { results := [], args := [] }

/-- 'codicillaw18.SubjectTurns': WHATEVER THE INPUT: true; the input reads as it did. -/
def subjectTurnsSpec : ChangeSpec := { name := "subjectTurns", fn := fun _ => fun
  | [d1, d2, d3] => { results := [.lit (.bool true)], args := [d1, d2, d3] }
  | _ => none }
def subjectTurnsRow : OpenClaim := { program := "ytkcjekboakoejaa", sum := "fdeb1f523f5770e5981be895c11353190aaa12f97142d45e4d744c3c7f712758", func := "codicil/codicillaw18.SubjectTurns", spec := "subjectTurns", unfollowed := true, recurses := true, apart := false }
def SubjectTurnsSaid : Prop := subjectTurnsRow.holds Try.pinned (OpenSpec.ofChange subjectTurnsSpec)

/-- ITS FALSE NEIGHBOUR: 'it returns false'. Refute it at one input. -/
def subjectTurnsWrong : ChangeSpec := { name := "subjectTurns", fn := fun _ => fun
  | [d1, d2, d3] => { results := [.lit (.bool false)], args := [d1, d2, d3] }
  | _ => none }
def SubjectTurnsWrongFalsely : Prop := subjectTurnsRow.holds Try.pinned (OpenSpec.ofChange subjectTurnsWrong)

/-- 'codicillaw18.SubjectTells': WHATEVER THE INPUT: true; the input reads as it did. -/
def subjectTellsSpec : ChangeSpec := { name := "subjectTells", fn := fun _ => fun
  | [d1, d2, d3, d4] => { results := [.lit (.bool true)], args := [d1, d2, d3, d4] }
  | _ => none }
def subjectTellsRow : OpenClaim := { program := "ytkcjekboakoejaa", sum := "fdeb1f523f5770e5981be895c11353190aaa12f97142d45e4d744c3c7f712758", func := "codicil/codicillaw18.SubjectTells", spec := "subjectTells", unfollowed := true, recurses := true, apart := false }
def SubjectTellsSaid : Prop := subjectTellsRow.holds Try.pinned (OpenSpec.ofChange subjectTellsSpec)

/-- ITS FALSE NEIGHBOUR: 'it returns false'. Refute it at one input. -/
def subjectTellsWrong : ChangeSpec := { name := "subjectTells", fn := fun _ => fun
  | [d1, d2, d3, d4] => { results := [.lit (.bool false)], args := [d1, d2, d3, d4] }
  | _ => none }
def SubjectTellsWrongFalsely : Prop := subjectTellsRow.holds Try.pinned (OpenSpec.ofChange subjectTellsWrong)

/-- 'codicillaw18.SubjectNumbers': WHATEVER THE INPUT: true; the input reads as it did. -/
def subjectNumbersSpec : ChangeSpec := { name := "subjectNumbers", fn := fun _ => fun
  | [d] => { results := [.lit (.bool true)], args := [d] }
  | _ => none }
def subjectNumbersRow : OpenClaim := { program := "ytkcjekboakoejaa", sum := "fdeb1f523f5770e5981be895c11353190aaa12f97142d45e4d744c3c7f712758", func := "codicil/codicillaw18.SubjectNumbers", spec := "subjectNumbers", unfollowed := true, recurses := true, apart := false }
def SubjectNumbersSaid : Prop := subjectNumbersRow.holds Try.pinned (OpenSpec.ofChange subjectNumbersSpec)

/-- ITS FALSE NEIGHBOUR: 'it returns false'. Refute it at one input. -/
def subjectNumbersWrong : ChangeSpec := { name := "subjectNumbers", fn := fun _ => fun
  | [d] => { results := [.lit (.bool false)], args := [d] }
  | _ => none }
def SubjectNumbersWrongFalsely : Prop := subjectNumbersRow.holds Try.pinned (OpenSpec.ofChange subjectNumbersWrong)

/-- 'codicillaw03.ShaSums': WHATEVER THE INPUT: true; the input reads as it did. -/
def shaSumsSpec : ChangeSpec := { name := "shaSums", fn := fun _ => fun
  | [d] => { results := [.lit (.bool true)], args := [d] }
  | _ => none }
def shaSumsRow : OpenClaim := { program := "ytkcjekboakoejaa", sum := "fdeb1f523f5770e5981be895c11353190aaa12f97142d45e4d744c3c7f712758", func := "codicil/codicillaw03.ShaSums", spec := "shaSums", inPlace := ["internal/bytealg.IndexByteString", "math/bits.Add64", "internal/abi.NoEscape", "internal/bytealg.MakeNoZero"], unfollowed := true, recurses := true, apart := false }
def ShaSumsSaid : Prop := shaSumsRow.holds Try.pinned (OpenSpec.ofChange shaSumsSpec)

/-- ITS FALSE NEIGHBOUR: 'it returns false'. Refute it at one input. -/
def shaSumsWrong : ChangeSpec := { name := "shaSums", fn := fun _ => fun
  | [d] => { results := [.lit (.bool false)], args := [d] }
  | _ => none }
def ShaSumsWrongFalsely : Prop := shaSumsRow.holds Try.pinned (OpenSpec.ofChange shaSumsWrong)

/-- 'codicillaw03.ShaEnds': WHATEVER THE INPUT: true; the input reads as it did. -/
def shaEndsSpec : ChangeSpec := { name := "shaEnds", fn := fun _ => fun
  | [d1, d2] => { results := [.lit (.bool true)], args := [d1, d2] }
  | _ => none }
def shaEndsRow : OpenClaim := { program := "ytkcjekboakoejaa", sum := "fdeb1f523f5770e5981be895c11353190aaa12f97142d45e4d744c3c7f712758", func := "codicil/codicillaw03.ShaEnds", spec := "shaEnds", inPlace := ["math/bits.Add64", "internal/abi.NoEscape", "internal/bytealg.MakeNoZero", "internal/bytealg.IndexByteString"], unfollowed := true, recurses := true, apart := false }
def ShaEndsSaid : Prop := shaEndsRow.holds Try.pinned (OpenSpec.ofChange shaEndsSpec)

/-- ITS FALSE NEIGHBOUR: 'it returns false'. Refute it at one input. -/
def shaEndsWrong : ChangeSpec := { name := "shaEnds", fn := fun _ => fun
  | [d1, d2] => { results := [.lit (.bool false)], args := [d1, d2] }
  | _ => none }
def ShaEndsWrongFalsely : Prop := shaEndsRow.holds Try.pinned (OpenSpec.ofChange shaEndsWrong)

/-- 'codicillaw03.ShaHex': WHATEVER THE INPUT: true; the input reads as it did. -/
def shaHexSpec : ChangeSpec := { name := "shaHex", fn := fun _ => fun
  | [d1, d2] => { results := [.lit (.bool true)], args := [d1, d2] }
  | _ => none }
def shaHexRow : OpenClaim := { program := "ytkcjekboakoejaa", sum := "fdeb1f523f5770e5981be895c11353190aaa12f97142d45e4d744c3c7f712758", func := "codicil/codicillaw03.ShaHex", spec := "shaHex", inPlace := ["internal/bytealg.IndexByteString", "math/bits.Add64", "internal/abi.NoEscape", "internal/bytealg.MakeNoZero"], unfollowed := true, recurses := true, apart := false }
def ShaHexSaid : Prop := shaHexRow.holds Try.pinned (OpenSpec.ofChange shaHexSpec)

/-- ITS FALSE NEIGHBOUR: 'it returns false'. Refute it at one input. -/
def shaHexWrong : ChangeSpec := { name := "shaHex", fn := fun _ => fun
  | [d1, d2] => { results := [.lit (.bool false)], args := [d1, d2] }
  | _ => none }
def ShaHexWrongFalsely : Prop := shaHexRow.holds Try.pinned (OpenSpec.ofChange shaHexWrong)

/- THE SECOND FORM. 'bulk': how many values and letters a reading holds, each counted each time it is reached (what is shared counts as often as it is met; a slice's spare places count too). A statement '..UptoSaid' is the law's where the arguments, and the package variables that the reading takes, are together of bulk at most 1048576: NARROWER than '..Said'. Prove '..Said' where nothing that the law and all that it calls make is longer than what came in: it says more and counts as full. Else prove '..UptoSaid'. A law counts once. -/
mutual
def uptoBulk {H : Type} : DataW H → Nat
  | .lit (.string bytes) => bytes.length + 1
  | .lit _ => 1
  | .nil => 1
  | .ptr d => uptoBulk d + 1
  | .slice elems spare => uptoBulkAll elems + uptoBulkAll spare + 1
  | .agg parts => uptoBulkAll parts + 1
  | .iface _ d => uptoBulk d + 1
  | .map entries => uptoBulkEntries entries + 1
  | .held _ => 1
def uptoBulkAll {H : Type} : List (DataW H) → Nat
  | [] => 0
  | d :: r => uptoBulk d + uptoBulkAll r
def uptoBulkEntries {H : Type} : List (Lit × DataW H) → Nat
  | [] => 0
  | x :: r => uptoBulkEntry x + uptoBulkEntries r
def uptoBulkEntry {H : Type} : Lit × DataW H → Nat
  | (.string bytes, d) => bytes.length + uptoBulk d + 1
  | (_, d) => uptoBulk d + 1
 end
def uptoSmall : (H : Type) → List (DataW H) → Bool := fun _ ds => decide (uptoBulkAll ds ≤ 1048576)
def OpenSpec.upto (s : _root_.Go.ChangeSpec) : _root_.Go.OpenSpec := { _root_.Go.OpenSpec.ofChange s with cond := some uptoSmall }

/-- 'codicillaw18.SubjectTurns', WHERE WHAT IT READS IS OF BULK AT MOST 1048576: true; the input reads as it did. -/
def subjectTurnsUptoRow : OpenClaim := { program := "ytkcjekboakoejaa", sum := "fdeb1f523f5770e5981be895c11353190aaa12f97142d45e4d744c3c7f712758", func := "codicil/codicillaw18.SubjectTurns", spec := "subjectTurns", unfollowed := true, recurses := true, apart := false, narrowed := true }
def SubjectTurnsUptoSaid : Prop := subjectTurnsUptoRow.holds Try.pinned (OpenSpec.upto subjectTurnsSpec)

/-- 'codicillaw18.SubjectTells', WHERE WHAT IT READS IS OF BULK AT MOST 1048576: true; the input reads as it did. -/
def subjectTellsUptoRow : OpenClaim := { program := "ytkcjekboakoejaa", sum := "fdeb1f523f5770e5981be895c11353190aaa12f97142d45e4d744c3c7f712758", func := "codicil/codicillaw18.SubjectTells", spec := "subjectTells", unfollowed := true, recurses := true, apart := false, narrowed := true }
def SubjectTellsUptoSaid : Prop := subjectTellsUptoRow.holds Try.pinned (OpenSpec.upto subjectTellsSpec)

/-- 'codicillaw18.SubjectNumbers', WHERE WHAT IT READS IS OF BULK AT MOST 1048576: true; the input reads as it did. -/
def subjectNumbersUptoRow : OpenClaim := { program := "ytkcjekboakoejaa", sum := "fdeb1f523f5770e5981be895c11353190aaa12f97142d45e4d744c3c7f712758", func := "codicil/codicillaw18.SubjectNumbers", spec := "subjectNumbers", unfollowed := true, recurses := true, apart := false, narrowed := true }
def SubjectNumbersUptoSaid : Prop := subjectNumbersUptoRow.holds Try.pinned (OpenSpec.upto subjectNumbersSpec)

/-- 'codicillaw03.ShaSums', WHERE WHAT IT READS IS OF BULK AT MOST 1048576: true; the input reads as it did. -/
def shaSumsUptoRow : OpenClaim := { program := "ytkcjekboakoejaa", sum := "fdeb1f523f5770e5981be895c11353190aaa12f97142d45e4d744c3c7f712758", func := "codicil/codicillaw03.ShaSums", spec := "shaSums", inPlace := ["internal/bytealg.IndexByteString", "math/bits.Add64", "internal/abi.NoEscape", "internal/bytealg.MakeNoZero"], unfollowed := true, recurses := true, apart := false, narrowed := true }
def ShaSumsUptoSaid : Prop := shaSumsUptoRow.holds Try.pinned (OpenSpec.upto shaSumsSpec)

/-- 'codicillaw03.ShaEnds', WHERE WHAT IT READS IS OF BULK AT MOST 1048576: true; the input reads as it did. -/
def shaEndsUptoRow : OpenClaim := { program := "ytkcjekboakoejaa", sum := "fdeb1f523f5770e5981be895c11353190aaa12f97142d45e4d744c3c7f712758", func := "codicil/codicillaw03.ShaEnds", spec := "shaEnds", inPlace := ["math/bits.Add64", "internal/abi.NoEscape", "internal/bytealg.MakeNoZero", "internal/bytealg.IndexByteString"], unfollowed := true, recurses := true, apart := false, narrowed := true }
def ShaEndsUptoSaid : Prop := shaEndsUptoRow.holds Try.pinned (OpenSpec.upto shaEndsSpec)

/-- 'codicillaw03.ShaHex', WHERE WHAT IT READS IS OF BULK AT MOST 1048576: true; the input reads as it did. -/
def shaHexUptoRow : OpenClaim := { program := "ytkcjekboakoejaa", sum := "fdeb1f523f5770e5981be895c11353190aaa12f97142d45e4d744c3c7f712758", func := "codicil/codicillaw03.ShaHex", spec := "shaHex", inPlace := ["internal/bytealg.IndexByteString", "math/bits.Add64", "internal/abi.NoEscape", "internal/bytealg.MakeNoZero"], unfollowed := true, recurses := true, apart := false, narrowed := true }
def ShaHexUptoSaid : Prop := shaHexUptoRow.holds Try.pinned (OpenSpec.upto shaHexSpec)

end Rows
end Go.Proofs.Ytkcjekboakoejaa
