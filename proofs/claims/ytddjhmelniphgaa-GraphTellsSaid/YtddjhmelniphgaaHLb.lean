/- Rows of booleans told by a number: short in the printed walks of regions that draw. -/
import Derived.Test.YtddjhmelniphgaaWAll
namespace Go.Proofs.Ytddjhmelniphgaa.Print
def lb (n m : Nat) : Array Bool := ((List.range n).map fun i => m.testBit i).toArray
end Go.Proofs.Ytddjhmelniphgaa.Print
