/-
  No cell of these rows narrows 'for every input' (looked for: loops, veiled, ifaces, maps, wideKeys, modest, calm, conditions, laid).
  DERIVED. THE GIVEN ROWS OF THIS SEAT. 5 by the template 'for every input the law returns true; each argument reads behind the call as it read before'; 0 by the template 'total and deterministic' (their statements: YtgdkbfipjeinjaaTotals.lean).
  GIVEN WITH THE SEED: the statements are not yours to turn. If you find one false, say at which input.
  Laid BY PROGRAM, IN A SANDBOX (cutbox-rows.mjs): the forced cells as the released guide's own fill.sh prints them over the translation ce252c5a2aa743aa… (all of the seat's roots in one cut). By AI agents, Wed Nov 11 2026. No macro, syntax, notation, axiom, sorry.
-/
import Derived.Test.YtgdkbfipjeinjaaChecked
import GoSem.Claim
import GoSem.ClaimJoined
import GoSem.ClaimMapViews
import Derived.JoinedTies
import Derived.KernelRfl
namespace Go.Proofs.Ytgdkbfipjeinjaa
/- THE CELL 'sum', in the pinned program and in every row, IS THE sha256 OF THE DUMP (.gsa) THAT YtgdkbfipjeinjaaProg.lean LOADS. Nothing in Lean hashes anything: it is a label: what it is worth is what the hold of that sum in a sandbox is worth. -/
noncomputable def Try.pinned : Pinned := { name := "ytgdkbfipjeinjaa", sum := "ce252c5a2aa743aaf317b915245ff85bb1cf152e0cb0d10b1b0e6587bdddb3c6", checked := Try.checked }
namespace Rows
def none {H : Type} : Left H := { results := [], args := [] }

/-- 'apostillelaw8.ModPowers': WHATEVER THE INPUT: true; the input reads as it did. -/
def modPowersSpec : ChangeSpec := { name := "modPowers", fn := fun _ => fun
  | [d1, d2, d3] => { results := [.lit (.bool true)], args := [d1, d2, d3] }
  | _ => none }
def modPowersRow : OpenClaim := { program := "ytgdkbfipjeinjaa", sum := "ce252c5a2aa743aaf317b915245ff85bb1cf152e0cb0d10b1b0e6587bdddb3c6", func := "apostille/apostillelaw8.ModPowers", spec := "modPowers", named := ["math/bits.overflowError"], apart := false }
def ModPowersSaid : Prop := modPowersRow.holds Try.pinned (OpenSpec.ofChange modPowersSpec)

/-- ITS FALSE NEIGHBOUR: 'it returns false'. Refute it at one input. -/
def modPowersWrong : ChangeSpec := { name := "modPowers", fn := fun _ => fun
  | [d1, d2, d3] => { results := [.lit (.bool false)], args := [d1, d2, d3] }
  | _ => none }
def ModPowersWrongFalsely : Prop := modPowersRow.holds Try.pinned (OpenSpec.ofChange modPowersWrong)

/-- 'apostillelaw8.ModInverse': WHATEVER THE INPUT: true; the input reads as it did. -/
def modInverseSpec : ChangeSpec := { name := "modInverse", fn := fun _ => fun
  | [d1, d2] => { results := [.lit (.bool true)], args := [d1, d2] }
  | _ => none }
def modInverseRow : OpenClaim := { program := "ytgdkbfipjeinjaa", sum := "ce252c5a2aa743aaf317b915245ff85bb1cf152e0cb0d10b1b0e6587bdddb3c6", func := "apostille/apostillelaw8.ModInverse", spec := "modInverse", named := ["math/bits.overflowError"], apart := false }
def ModInverseSaid : Prop := modInverseRow.holds Try.pinned (OpenSpec.ofChange modInverseSpec)

/-- ITS FALSE NEIGHBOUR: 'it returns false'. Refute it at one input. -/
def modInverseWrong : ChangeSpec := { name := "modInverse", fn := fun _ => fun
  | [d1, d2] => { results := [.lit (.bool false)], args := [d1, d2] }
  | _ => none }
def ModInverseWrongFalsely : Prop := modInverseRow.holds Try.pinned (OpenSpec.ofChange modInverseWrong)

/-- 'apostillelaw8.ModTells': WHATEVER THE INPUT: true; the input reads as it did. -/
def modTellsSpec : ChangeSpec := { name := "modTells", fn := fun _ => fun
  | [d1, d2, d3] => { results := [.lit (.bool true)], args := [d1, d2, d3] }
  | _ => none }
def modTellsRow : OpenClaim := { program := "ytgdkbfipjeinjaa", sum := "ce252c5a2aa743aaf317b915245ff85bb1cf152e0cb0d10b1b0e6587bdddb3c6", func := "apostille/apostillelaw8.ModTells", spec := "modTells", named := ["math/bits.overflowError"], apart := false }
def ModTellsSaid : Prop := modTellsRow.holds Try.pinned (OpenSpec.ofChange modTellsSpec)

/-- ITS FALSE NEIGHBOUR: 'it returns false'. Refute it at one input. -/
def modTellsWrong : ChangeSpec := { name := "modTells", fn := fun _ => fun
  | [d1, d2, d3] => { results := [.lit (.bool false)], args := [d1, d2, d3] }
  | _ => none }
def ModTellsWrongFalsely : Prop := modTellsRow.holds Try.pinned (OpenSpec.ofChange modTellsWrong)

/-- 'apostillelaw8.ModLaws': WHATEVER THE INPUT: true; the input reads as it did. -/
def modLawsSpec : ChangeSpec := { name := "modLaws", fn := fun _ => fun
  | [d1, d2, d3, d4] => { results := [.lit (.bool true)], args := [d1, d2, d3, d4] }
  | _ => none }
def modLawsRow : OpenClaim := { program := "ytgdkbfipjeinjaa", sum := "ce252c5a2aa743aaf317b915245ff85bb1cf152e0cb0d10b1b0e6587bdddb3c6", func := "apostille/apostillelaw8.ModLaws", spec := "modLaws", named := ["math/bits.overflowError"], apart := false }
def ModLawsSaid : Prop := modLawsRow.holds Try.pinned (OpenSpec.ofChange modLawsSpec)

/-- ITS FALSE NEIGHBOUR: 'it returns false'. Refute it at one input. -/
def modLawsWrong : ChangeSpec := { name := "modLaws", fn := fun _ => fun
  | [d1, d2, d3, d4] => { results := [.lit (.bool false)], args := [d1, d2, d3, d4] }
  | _ => none }
def ModLawsWrongFalsely : Prop := modLawsRow.holds Try.pinned (OpenSpec.ofChange modLawsWrong)

/-- 'apostillelaw8.ModKnown': WHATEVER THE INPUT: true; the input reads as it did. -/
def modKnownSpec : ChangeSpec := { name := "modKnown", fn := fun _ => fun
  | [d] => { results := [.lit (.bool true)], args := [d] }
  | _ => none }
def modKnownRow : OpenClaim := { program := "ytgdkbfipjeinjaa", sum := "ce252c5a2aa743aaf317b915245ff85bb1cf152e0cb0d10b1b0e6587bdddb3c6", func := "apostille/apostillelaw8.ModKnown", spec := "modKnown", named := ["math/bits.overflowError"], apart := false }
def ModKnownSaid : Prop := modKnownRow.holds Try.pinned (OpenSpec.ofChange modKnownSpec)

/-- ITS FALSE NEIGHBOUR: 'it returns false'. Refute it at one input. -/
def modKnownWrong : ChangeSpec := { name := "modKnown", fn := fun _ => fun
  | [d] => { results := [.lit (.bool false)], args := [d] }
  | _ => none }
def ModKnownWrongFalsely : Prop := modKnownRow.holds Try.pinned (OpenSpec.ofChange modKnownWrong)

/- THE SECOND FORM. 'bulk': how many values and letters a reading holds, each counted each time it is reached (what is shared counts as often as it is met; a slice's spare places count too). A statement '..UptoSaid' is the law's where the arguments, and the package variables that the reading takes, are together of bulk at most 1048576: NARROWER than '..Said'. Prove '..Said' where nothing that the law and all that it calls make is longer than what came in: it says more and counts as full. Else prove '..UptoSaid'. A law counts once. -/
mutual
def uptoBulk {H : Type} : DataW H → Nat
  | .lit (.string bytes) => bytes.length + 1
  | .lit _ => 1
  | .nil => 1
  | .ptr d => uptoBulk d + 1
  | .slice elems spare => uptoBulkAll elems + uptoBulkAll spare + 1
  | .agg parts => uptoBulkAll parts + 1
  | .iface _ d => uptoBulk d + 1
  | .map entries => uptoBulkEntries entries + 1
  | .held _ => 1
def uptoBulkAll {H : Type} : List (DataW H) → Nat
  | [] => 0
  | d :: r => uptoBulk d + uptoBulkAll r
def uptoBulkEntries {H : Type} : List (Lit × DataW H) → Nat
  | [] => 0
  | x :: r => uptoBulkEntry x + uptoBulkEntries r
def uptoBulkEntry {H : Type} : Lit × DataW H → Nat
  | (.string bytes, d) => bytes.length + uptoBulk d + 1
  | (_, d) => uptoBulk d + 1
 end
def uptoSmall : (H : Type) → List (DataW H) → Bool := fun _ ds => decide (uptoBulkAll ds ≤ 1048576)
def OpenSpec.upto (s : _root_.Go.ChangeSpec) : _root_.Go.OpenSpec := { _root_.Go.OpenSpec.ofChange s with cond := some uptoSmall }

/-- 'apostillelaw8.ModPowers', WHERE WHAT IT READS IS OF BULK AT MOST 1048576: true; the input reads as it did. -/
def modPowersUptoRow : OpenClaim := { program := "ytgdkbfipjeinjaa", sum := "ce252c5a2aa743aaf317b915245ff85bb1cf152e0cb0d10b1b0e6587bdddb3c6", func := "apostille/apostillelaw8.ModPowers", spec := "modPowers", named := ["math/bits.overflowError"], apart := false, narrowed := true }
def ModPowersUptoSaid : Prop := modPowersUptoRow.holds Try.pinned (OpenSpec.upto modPowersSpec)

/-- 'apostillelaw8.ModInverse', WHERE WHAT IT READS IS OF BULK AT MOST 1048576: true; the input reads as it did. -/
def modInverseUptoRow : OpenClaim := { program := "ytgdkbfipjeinjaa", sum := "ce252c5a2aa743aaf317b915245ff85bb1cf152e0cb0d10b1b0e6587bdddb3c6", func := "apostille/apostillelaw8.ModInverse", spec := "modInverse", named := ["math/bits.overflowError"], apart := false, narrowed := true }
def ModInverseUptoSaid : Prop := modInverseUptoRow.holds Try.pinned (OpenSpec.upto modInverseSpec)

/-- 'apostillelaw8.ModTells', WHERE WHAT IT READS IS OF BULK AT MOST 1048576: true; the input reads as it did. -/
def modTellsUptoRow : OpenClaim := { program := "ytgdkbfipjeinjaa", sum := "ce252c5a2aa743aaf317b915245ff85bb1cf152e0cb0d10b1b0e6587bdddb3c6", func := "apostille/apostillelaw8.ModTells", spec := "modTells", named := ["math/bits.overflowError"], apart := false, narrowed := true }
def ModTellsUptoSaid : Prop := modTellsUptoRow.holds Try.pinned (OpenSpec.upto modTellsSpec)

/-- 'apostillelaw8.ModLaws', WHERE WHAT IT READS IS OF BULK AT MOST 1048576: true; the input reads as it did. -/
def modLawsUptoRow : OpenClaim := { program := "ytgdkbfipjeinjaa", sum := "ce252c5a2aa743aaf317b915245ff85bb1cf152e0cb0d10b1b0e6587bdddb3c6", func := "apostille/apostillelaw8.ModLaws", spec := "modLaws", named := ["math/bits.overflowError"], apart := false, narrowed := true }
def ModLawsUptoSaid : Prop := modLawsUptoRow.holds Try.pinned (OpenSpec.upto modLawsSpec)

/-- 'apostillelaw8.ModKnown', WHERE WHAT IT READS IS OF BULK AT MOST 1048576: true; the input reads as it did. -/
def modKnownUptoRow : OpenClaim := { program := "ytgdkbfipjeinjaa", sum := "ce252c5a2aa743aaf317b915245ff85bb1cf152e0cb0d10b1b0e6587bdddb3c6", func := "apostille/apostillelaw8.ModKnown", spec := "modKnown", named := ["math/bits.overflowError"], apart := false, narrowed := true }
def ModKnownUptoSaid : Prop := modKnownUptoRow.holds Try.pinned (OpenSpec.upto modKnownSpec)

end Rows
end Go.Proofs.Ytgdkbfipjeinjaa
