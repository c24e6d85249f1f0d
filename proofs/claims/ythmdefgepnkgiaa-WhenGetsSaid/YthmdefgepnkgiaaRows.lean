/-
  NARROWER THAN 'FOR EVERY INPUT', by the rows' own cells (each row's printed sentence says how): WhenGets: loops.
  DERIVED. THE GIVEN ROWS OF THIS SEAT. 5 by the template 'for every input the law returns true; each argument reads behind the call as it read before'; 0 by the template 'total and deterministic' (their statements: YthmdefgepnkgiaaTotals.lean).
  GIVEN WITH THE SEED: the statements are not yours to turn. If you find one false, say at which input.
  Laid BY PROGRAM, IN A SANDBOX (cutbox-rows.mjs): the forced cells as the released guide's own fill.sh prints them over the translation f39ff2fa803cc316… (all of the seat's roots in one cut). By AI agents, Wed Nov 11 2026. No macro, syntax, notation, axiom, sorry.
-/
import Derived.Test.YthmdefgepnkgiaaChecked
import GoSem.Claim
import GoSem.ClaimJoined
import GoSem.ClaimMapViews
import Derived.JoinedTies
import Derived.KernelRfl
namespace Go.Proofs.Ythmdefgepnkgiaa
/- THE CELL 'sum', in the pinned program and in every row, IS THE sha256 OF THE DUMP (.gsa) THAT YthmdefgepnkgiaaProg.lean LOADS. Nothing in Lean hashes anything: it is a label: what it is worth is what the hold of that sum in a sandbox is worth. -/
noncomputable def Try.pinned : Pinned := { name := "ythmdefgepnkgiaa", sum := "f39ff2fa803cc31682265b965377b2a11a4d80b068ffd761866c7593a982808f", checked := Try.checked }
namespace Rows
def none {H : Type} : Left H := { results := [], args := [] }

/-- 'apostillelaw14.WhenTimes': WHATEVER THE INPUT: true; the input reads as it did. -/
def whenTimesSpec : ChangeSpec := { name := "whenTimes", fn := fun _ => fun
  | [d] => { results := [.lit (.bool true)], args := [d] }
  | _ => none }
def whenTimesRow : OpenClaim := { program := "ythmdefgepnkgiaa", sum := "f39ff2fa803cc31682265b965377b2a11a4d80b068ffd761866c7593a982808f", func := "apostille/apostillelaw14.WhenTimes", spec := "whenTimes", unfollowed := true, recurses := true, apart := false }
def WhenTimesSaid : Prop := whenTimesRow.holds Try.pinned (OpenSpec.ofChange whenTimesSpec)

/-- ITS FALSE NEIGHBOUR: 'it returns false'. Refute it at one input. -/
def whenTimesWrong : ChangeSpec := { name := "whenTimes", fn := fun _ => fun
  | [d] => { results := [.lit (.bool false)], args := [d] }
  | _ => none }
def WhenTimesWrongFalsely : Prop := whenTimesRow.holds Try.pinned (OpenSpec.ofChange whenTimesWrong)

/-- 'apostillelaw14.WhenGets': WHATEVER THE INPUT: true; the input reads as it did. -/
def whenGetsSpec : ChangeSpec := { name := "whenGets", fn := fun _ => fun
  | [d] => { results := [.lit (.bool true)], args := [d] }
  | _ => none }
def whenGetsRow : OpenClaim := { program := "ythmdefgepnkgiaa", sum := "f39ff2fa803cc31682265b965377b2a11a4d80b068ffd761866c7593a982808f", func := "apostille/apostillelaw14.WhenGets", spec := "whenGets", unfollowed := true, recurses := true, loops := true, apart := false }
def WhenGetsSaid : Prop := whenGetsRow.holds Try.pinned (OpenSpec.ofChange whenGetsSpec)

/-- ITS FALSE NEIGHBOUR: 'it returns false'. Refute it at one input. -/
def whenGetsWrong : ChangeSpec := { name := "whenGets", fn := fun _ => fun
  | [d] => { results := [.lit (.bool false)], args := [d] }
  | _ => none }
def WhenGetsWrongFalsely : Prop := whenGetsRow.holds Try.pinned (OpenSpec.ofChange whenGetsWrong)

/-- 'apostillelaw14.WhenDigits': WHATEVER THE INPUT: true; the input reads as it did. -/
def whenDigitsSpec : ChangeSpec := { name := "whenDigits", fn := fun _ => fun
  | [d1, d2, d3, d4, d5, d6] => { results := [.lit (.bool true)], args := [d1, d2, d3, d4, d5, d6] }
  | _ => none }
def whenDigitsRow : OpenClaim := { program := "ythmdefgepnkgiaa", sum := "f39ff2fa803cc31682265b965377b2a11a4d80b068ffd761866c7593a982808f", func := "apostille/apostillelaw14.WhenDigits", spec := "whenDigits", unfollowed := true, recurses := true, apart := false }
def WhenDigitsSaid : Prop := whenDigitsRow.holds Try.pinned (OpenSpec.ofChange whenDigitsSpec)

/-- ITS FALSE NEIGHBOUR: 'it returns false'. Refute it at one input. -/
def whenDigitsWrong : ChangeSpec := { name := "whenDigits", fn := fun _ => fun
  | [d1, d2, d3, d4, d5, d6] => { results := [.lit (.bool false)], args := [d1, d2, d3, d4, d5, d6] }
  | _ => none }
def WhenDigitsWrongFalsely : Prop := whenDigitsRow.holds Try.pinned (OpenSpec.ofChange whenDigitsWrong)

/-- 'apostillelaw14.WhenRises': WHATEVER THE INPUT: true; the input reads as it did. -/
def whenRisesSpec : ChangeSpec := { name := "whenRises", fn := fun _ => fun
  | [d1, d2] => { results := [.lit (.bool true)], args := [d1, d2] }
  | _ => none }
def whenRisesRow : OpenClaim := { program := "ythmdefgepnkgiaa", sum := "f39ff2fa803cc31682265b965377b2a11a4d80b068ffd761866c7593a982808f", func := "apostille/apostillelaw14.WhenRises", spec := "whenRises", unfollowed := true, recurses := true, apart := false }
def WhenRisesSaid : Prop := whenRisesRow.holds Try.pinned (OpenSpec.ofChange whenRisesSpec)

/-- ITS FALSE NEIGHBOUR: 'it returns false'. Refute it at one input. -/
def whenRisesWrong : ChangeSpec := { name := "whenRises", fn := fun _ => fun
  | [d1, d2] => { results := [.lit (.bool false)], args := [d1, d2] }
  | _ => none }
def WhenRisesWrongFalsely : Prop := whenRisesRow.holds Try.pinned (OpenSpec.ofChange whenRisesWrong)

/-- 'apostillelaw14.WhenKnown': WHATEVER THE INPUT: true; the input reads as it did. -/
def whenKnownSpec : ChangeSpec := { name := "whenKnown", fn := fun _ => fun
  | [d] => { results := [.lit (.bool true)], args := [d] }
  | _ => none }
def whenKnownRow : OpenClaim := { program := "ythmdefgepnkgiaa", sum := "f39ff2fa803cc31682265b965377b2a11a4d80b068ffd761866c7593a982808f", func := "apostille/apostillelaw14.WhenKnown", spec := "whenKnown", unfollowed := true, recurses := true, apart := false }
def WhenKnownSaid : Prop := whenKnownRow.holds Try.pinned (OpenSpec.ofChange whenKnownSpec)

/-- ITS FALSE NEIGHBOUR: 'it returns false'. Refute it at one input. -/
def whenKnownWrong : ChangeSpec := { name := "whenKnown", fn := fun _ => fun
  | [d] => { results := [.lit (.bool false)], args := [d] }
  | _ => none }
def WhenKnownWrongFalsely : Prop := whenKnownRow.holds Try.pinned (OpenSpec.ofChange whenKnownWrong)

/- THE SECOND FORM. 'bulk': how many values and letters a reading holds, each counted each time it is reached (what is shared counts as often as it is met; a slice's spare places count too). A statement '..UptoSaid' is the law's where the arguments, and the package variables that the reading takes, are together of bulk at most 1048576: NARROWER than '..Said'. Prove '..Said' where nothing that the law and all that it calls make is longer than what came in: it says more and counts as full. Else prove '..UptoSaid'. A law counts once. -/
mutual
def uptoBulk {H : Type} : DataW H → Nat
  | .lit (.string bytes) => bytes.length + 1
  | .lit _ => 1
  | .nil => 1
  | .ptr d => uptoBulk d + 1
  | .slice elems spare => uptoBulkAll elems + uptoBulkAll spare + 1
  | .agg parts => uptoBulkAll parts + 1
  | .iface _ d => uptoBulk d + 1
  | .map entries => uptoBulkEntries entries + 1
  | .held _ => 1
def uptoBulkAll {H : Type} : List (DataW H) → Nat
  | [] => 0
  | d :: r => uptoBulk d + uptoBulkAll r
def uptoBulkEntries {H : Type} : List (Lit × DataW H) → Nat
  | [] => 0
  | x :: r => uptoBulkEntry x + uptoBulkEntries r
def uptoBulkEntry {H : Type} : Lit × DataW H → Nat
  | (.string bytes, d) => bytes.length + uptoBulk d + 1
  | (_, d) => uptoBulk d + 1
 end
def uptoSmall : (H : Type) → List (DataW H) → Bool := fun _ ds => decide (uptoBulkAll ds ≤ 1048576)
def OpenSpec.upto (s : _root_.Go.ChangeSpec) : _root_.Go.OpenSpec := { _root_.Go.OpenSpec.ofChange s with cond := some uptoSmall }

/-- 'apostillelaw14.WhenTimes', WHERE WHAT IT READS IS OF BULK AT MOST 1048576: true; the input reads as it did. -/
def whenTimesUptoRow : OpenClaim := { program := "ythmdefgepnkgiaa", sum := "f39ff2fa803cc31682265b965377b2a11a4d80b068ffd761866c7593a982808f", func := "apostille/apostillelaw14.WhenTimes", spec := "whenTimes", unfollowed := true, recurses := true, apart := false, narrowed := true }
def WhenTimesUptoSaid : Prop := whenTimesUptoRow.holds Try.pinned (OpenSpec.upto whenTimesSpec)

/-- 'apostillelaw14.WhenGets', WHERE WHAT IT READS IS OF BULK AT MOST 1048576: true; the input reads as it did. -/
def whenGetsUptoRow : OpenClaim := { program := "ythmdefgepnkgiaa", sum := "f39ff2fa803cc31682265b965377b2a11a4d80b068ffd761866c7593a982808f", func := "apostille/apostillelaw14.WhenGets", spec := "whenGets", unfollowed := true, recurses := true, loops := true, apart := false, narrowed := true }
def WhenGetsUptoSaid : Prop := whenGetsUptoRow.holds Try.pinned (OpenSpec.upto whenGetsSpec)

/-- 'apostillelaw14.WhenDigits', WHERE WHAT IT READS IS OF BULK AT MOST 1048576: true; the input reads as it did. -/
def whenDigitsUptoRow : OpenClaim := { program := "ythmdefgepnkgiaa", sum := "f39ff2fa803cc31682265b965377b2a11a4d80b068ffd761866c7593a982808f", func := "apostille/apostillelaw14.WhenDigits", spec := "whenDigits", unfollowed := true, recurses := true, apart := false, narrowed := true }
def WhenDigitsUptoSaid : Prop := whenDigitsUptoRow.holds Try.pinned (OpenSpec.upto whenDigitsSpec)

/-- 'apostillelaw14.WhenRises', WHERE WHAT IT READS IS OF BULK AT MOST 1048576: true; the input reads as it did. -/
def whenRisesUptoRow : OpenClaim := { program := "ythmdefgepnkgiaa", sum := "f39ff2fa803cc31682265b965377b2a11a4d80b068ffd761866c7593a982808f", func := "apostille/apostillelaw14.WhenRises", spec := "whenRises", unfollowed := true, recurses := true, apart := false, narrowed := true }
def WhenRisesUptoSaid : Prop := whenRisesUptoRow.holds Try.pinned (OpenSpec.upto whenRisesSpec)

/-- 'apostillelaw14.WhenKnown', WHERE WHAT IT READS IS OF BULK AT MOST 1048576: true; the input reads as it did. -/
def whenKnownUptoRow : OpenClaim := { program := "ythmdefgepnkgiaa", sum := "f39ff2fa803cc31682265b965377b2a11a4d80b068ffd761866c7593a982808f", func := "apostille/apostillelaw14.WhenKnown", spec := "whenKnown", unfollowed := true, recurses := true, apart := false, narrowed := true }
def WhenKnownUptoSaid : Prop := whenKnownUptoRow.holds Try.pinned (OpenSpec.upto whenKnownSpec)

end Rows
end Go.Proofs.Ythmdefgepnkgiaa
