-- a text of this claim
import Derived.Test.YtenchfkljmodkaaDoorWInv
import Derived.Test.YtenchfkljmodkaaDoorWFootNe
namespace Go.Proofs.YtenchfkljmodkaaDoorW.PrintWords
open Go.RowKit
end Go.Proofs.YtenchfkljmodkaaDoorW.PrintWords
namespace Go.Proofs.YtenchfkljmodkaaDoorW.PrintLast
section
variable {ops : Array Oper} {a : Act} {o og : Oper} {g : Nat} {t : Tmp} {u : Bool}
end
end Go.Proofs.YtenchfkljmodkaaDoorW.PrintLast
