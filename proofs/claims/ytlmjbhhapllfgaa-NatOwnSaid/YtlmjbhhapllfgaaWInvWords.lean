-- a text of this claim
import Derived.Test.YtlmjbhhapllfgaaWInv
import Derived.Test.YtlmjbhhapllfgaaWFootNe
namespace Go.Proofs.YtlmjbhhapllfgaaW.PrintWords
open Go.RowKit
end Go.Proofs.YtlmjbhhapllfgaaW.PrintWords
namespace Go.Proofs.YtlmjbhhapllfgaaW.PrintLast
section
variable {ops : Array Oper} {a : Act} {o og : Oper} {g : Nat} {t : Tmp} {u : Bool}
end
end Go.Proofs.YtlmjbhhapllfgaaW.PrintLast
