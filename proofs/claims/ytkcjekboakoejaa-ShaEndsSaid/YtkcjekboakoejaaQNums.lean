/- Plain law: the reference's tables are the program's. -/
import Derived.Test.YtkcjekboakoejaaQBlock
import Derived.Test.YtkcjekboakoejaaPrint1
namespace Go.Proofs.Ytkcjekboakoejaa.Print
open Go Go.RowKit Go.Proofs.YtkcjekboakoejaaW.PrintWords Go.Proofs.YtkcjekboakoejaaW.PrintLast
set_option maxRecDepth 1000000 in
theorem nums2 : codicilref03_Numbers.f 400 8 2 = some st0.ints := by decide +kernel
set_option maxRecDepth 1000000 in
theorem nums3 : codicilref03_Numbers.f 400 64 3 = some (natI ksN) := by decide +kernel
end Go.Proofs.Ytkcjekboakoejaa.Print
