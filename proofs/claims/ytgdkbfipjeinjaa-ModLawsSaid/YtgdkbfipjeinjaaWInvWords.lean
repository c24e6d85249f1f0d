-- a text of this claim
import Derived.Test.YtgdkbfipjeinjaaWInv
import Derived.Test.YtgdkbfipjeinjaaWFootNe
namespace Go.Proofs.YtgdkbfipjeinjaaW.PrintWords
open Go.RowKit
end Go.Proofs.YtgdkbfipjeinjaaW.PrintWords
namespace Go.Proofs.YtgdkbfipjeinjaaW.PrintLast
section
variable {ops : Array Oper} {a : Act} {o og : Oper} {g : Nat} {t : Tmp} {u : Bool}
end
end Go.Proofs.YtgdkbfipjeinjaaW.PrintLast
