/- What is known of the values that a law is asked with, and how they are read: each struct type. -/
import Derived.Test.YtkcjekboakoejaaOpn
namespace Go.Proofs.Ytkcjekboakoejaa.Print
open Go.RowKit Go.Proofs.YtkcjekboakoejaaW.PrintWords Go.Proofs.YtkcjekboakoejaaW.PrintLast Go.ChangeShapes Go.WideShapes
set_option linter.unusedVariables false
end Go.Proofs.Ytkcjekboakoejaa.Print
