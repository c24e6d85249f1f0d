/- What every table of the program shares. Conditions: none. -/
import Derived.Test.YthmdefgepnkgiaaEGb
import Derived.Test.YthmdefgepnkgiaaHint
import Derived.Test.YthmdefgepnkgiaaProg
import Derived.KernelRfl
namespace Go.Proofs.Ythmdefgepnkgiaa.Eng
open Go
set_option maxRecDepth 100000
theorem mixed : Go.Proofs.Try.prog.follows .mixedOrders = true := by kernel_rfl
theorem named : (Go.Proofs.Try.prog.funcs.toList.all fun fn => !(fn.name == "runtime.NumGoroutine")) = true := by kernel_rfl
def noIter (_ : FuncId) (_ : List (List DV)) : Option (List (List (Bool × List DV))) := none
theorem noIter_ok (f : FuncId) (rows : List (List DV)) (xs : List (List (Bool × List DV))) (h : noIter f rows = some xs) : IterOK Go.Proofs.Try.prog f rows xs := by cases h
def noMu (_ : FuncId) (_ : Nat) : Bool := false
def noPrep (_ : FuncId) (_ : Nat) : List Prep := []
end Go.Proofs.Ythmdefgepnkgiaa.Eng
