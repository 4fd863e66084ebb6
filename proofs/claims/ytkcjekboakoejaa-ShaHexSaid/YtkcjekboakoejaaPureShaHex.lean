/- The digits of bytes, and the bytes of digits: the program's are the reference's, and each is the other one's (any two texts). -/
import Derived.Test.YtkcjekboakoejaaQHex
namespace Go.Proofs.Ytkcjekboakoejaa.Pure
open Go.RowKit Go.Proofs.Ytkcjekboakoejaa.Print
theorem ShaHex : codicillaw03_ShaHex.Pure := shaHex_pure
end Go.Proofs.Ytkcjekboakoejaa.Pure
