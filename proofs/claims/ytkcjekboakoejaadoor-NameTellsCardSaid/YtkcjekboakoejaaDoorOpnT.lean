/- What is known of the values that a law is asked with, and how they are read: each struct type. -/
import Derived.Test.YtkcjekboakoejaaDoorOpn
namespace Go.Proofs.YtkcjekboakoejaaDoor.Print
open Go.RowKit Go.Proofs.YtkcjekboakoejaaDoorW.PrintWords Go.Proofs.YtkcjekboakoejaaDoorW.PrintLast Go.ChangeShapes Go.WideShapes
set_option linter.unusedVariables false
end Go.Proofs.YtkcjekboakoejaaDoor.Print
