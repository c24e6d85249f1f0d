/-
  NARROWER THAN 'FOR EVERY INPUT', by the rows' own cells (each row's printed sentence says how): TlvTurned: loops · TlvBytes: loops.
  DERIVED. THE GIVEN ROWS OF THIS SEAT. 5 by the template 'for every input the law returns true; each argument reads behind the call as it read before'; 0 by the template 'total and deterministic' (their statements: YtkcfgmmdlkejfaaTotals.lean).
  GIVEN WITH THE SEED: the statements are not yours to turn. If you find one false, say at which input.
  Laid BY PROGRAM, IN A SANDBOX (cutbox-rows.mjs): the forced cells as the released guide's own fill.sh prints them over the translation 49441432ed6c7ad3… (all of the seat's roots in one cut). By AI agents, Wed Nov 11 2026. No macro, syntax, notation, axiom, sorry.
-/
import Derived.Test.YtkcfgmmdlkejfaaChecked
import GoSem.Claim
import GoSem.ClaimJoined
import GoSem.ClaimMapViews
import Derived.JoinedTies
import Derived.KernelRfl
namespace Go.Proofs.Ytkcfgmmdlkejfaa
/- THE CELL 'sum', in the pinned program and in every row, IS THE sha256 OF THE DUMP (.gsa) THAT YtkcfgmmdlkejfaaProg.lean LOADS. Nothing in Lean hashes anything: it is a label: what it is worth is what the hold of that sum in a sandbox is worth. -/
noncomputable def Try.pinned : Pinned := { name := "ytkcfgmmdlkejfaa", sum := "49441432ed6c7ad38def48bf64b8a848480a59d56b2ad40f96606eead9945ab0", checked := Try.checked }
namespace Rows
def none {H : Type} : Left H := { results := [], args := [] }

/-- 'apostillelaw12.TlvReads': WHATEVER THE INPUT: true; the input reads as it did. -/
def tlvReadsSpec : ChangeSpec := { name := "tlvReads", fn := fun _ => fun
  | [d] => { results := [.lit (.bool true)], args := [d] }
  | _ => none }
def tlvReadsRow : OpenClaim := { program := "ytkcfgmmdlkejfaa", sum := "49441432ed6c7ad38def48bf64b8a848480a59d56b2ad40f96606eead9945ab0", func := "apostille/apostillelaw12.TlvReads", spec := "tlvReads", unfollowed := true, recurses := true, apart := false }
def TlvReadsSaid : Prop := tlvReadsRow.holds Try.pinned (OpenSpec.ofChange tlvReadsSpec)

/-- ITS FALSE NEIGHBOUR: 'it returns false'. Refute it at one input. -/
def tlvReadsWrong : ChangeSpec := { name := "tlvReads", fn := fun _ => fun
  | [d] => { results := [.lit (.bool false)], args := [d] }
  | _ => none }
def TlvReadsWrongFalsely : Prop := tlvReadsRow.holds Try.pinned (OpenSpec.ofChange tlvReadsWrong)

/-- 'apostillelaw12.TlvTurned': WHATEVER THE INPUT: true; the input reads as it did. -/
def tlvTurnedSpec : ChangeSpec := { name := "tlvTurned", fn := fun _ => fun
  | [d1, d2, d3, d4] => { results := [.lit (.bool true)], args := [d1, d2, d3, d4] }
  | _ => none }
def tlvTurnedRow : OpenClaim := { program := "ytkcfgmmdlkejfaa", sum := "49441432ed6c7ad38def48bf64b8a848480a59d56b2ad40f96606eead9945ab0", func := "apostille/apostillelaw12.TlvTurned", spec := "tlvTurned", unfollowed := true, recurses := true, loops := true, apart := false }
def TlvTurnedSaid : Prop := tlvTurnedRow.holds Try.pinned (OpenSpec.ofChange tlvTurnedSpec)

/-- ITS FALSE NEIGHBOUR: 'it returns false'. Refute it at one input. -/
def tlvTurnedWrong : ChangeSpec := { name := "tlvTurned", fn := fun _ => fun
  | [d1, d2, d3, d4] => { results := [.lit (.bool false)], args := [d1, d2, d3, d4] }
  | _ => none }
def TlvTurnedWrongFalsely : Prop := tlvTurnedRow.holds Try.pinned (OpenSpec.ofChange tlvTurnedWrong)

/-- 'apostillelaw12.TlvDeep': WHATEVER THE INPUT: true; the input reads as it did. -/
def tlvDeepSpec : ChangeSpec := { name := "tlvDeep", fn := fun _ => fun
  | [d1, d2] => { results := [.lit (.bool true)], args := [d1, d2] }
  | _ => none }
def tlvDeepRow : OpenClaim := { program := "ytkcfgmmdlkejfaa", sum := "49441432ed6c7ad38def48bf64b8a848480a59d56b2ad40f96606eead9945ab0", func := "apostille/apostillelaw12.TlvDeep", spec := "tlvDeep", unfollowed := true, recurses := true, apart := false }
def TlvDeepSaid : Prop := tlvDeepRow.holds Try.pinned (OpenSpec.ofChange tlvDeepSpec)

/-- ITS FALSE NEIGHBOUR: 'it returns false'. Refute it at one input. -/
def tlvDeepWrong : ChangeSpec := { name := "tlvDeep", fn := fun _ => fun
  | [d1, d2] => { results := [.lit (.bool false)], args := [d1, d2] }
  | _ => none }
def TlvDeepWrongFalsely : Prop := tlvDeepRow.holds Try.pinned (OpenSpec.ofChange tlvDeepWrong)

/-- 'apostillelaw12.TlvOdd': WHATEVER THE INPUT: true; the input reads as it did. -/
def tlvOddSpec : ChangeSpec := { name := "tlvOdd", fn := fun _ => fun
  | [d] => { results := [.lit (.bool true)], args := [d] }
  | _ => none }
def tlvOddRow : OpenClaim := { program := "ytkcfgmmdlkejfaa", sum := "49441432ed6c7ad38def48bf64b8a848480a59d56b2ad40f96606eead9945ab0", func := "apostille/apostillelaw12.TlvOdd", spec := "tlvOdd", unfollowed := true, recurses := true, apart := false }
def TlvOddSaid : Prop := tlvOddRow.holds Try.pinned (OpenSpec.ofChange tlvOddSpec)

/-- ITS FALSE NEIGHBOUR: 'it returns false'. Refute it at one input. -/
def tlvOddWrong : ChangeSpec := { name := "tlvOdd", fn := fun _ => fun
  | [d] => { results := [.lit (.bool false)], args := [d] }
  | _ => none }
def TlvOddWrongFalsely : Prop := tlvOddRow.holds Try.pinned (OpenSpec.ofChange tlvOddWrong)

/-- 'apostillelaw12.TlvBytes': WHATEVER THE INPUT: true; the input reads as it did. -/
def tlvBytesSpec : ChangeSpec := { name := "tlvBytes", fn := fun _ => fun
  | [d] => { results := [.lit (.bool true)], args := [d] }
  | _ => none }
def tlvBytesRow : OpenClaim := { program := "ytkcfgmmdlkejfaa", sum := "49441432ed6c7ad38def48bf64b8a848480a59d56b2ad40f96606eead9945ab0", func := "apostille/apostillelaw12.TlvBytes", spec := "tlvBytes", unfollowed := true, recurses := true, loops := true, apart := false }
def TlvBytesSaid : Prop := tlvBytesRow.holds Try.pinned (OpenSpec.ofChange tlvBytesSpec)

/-- ITS FALSE NEIGHBOUR: 'it returns false'. Refute it at one input. -/
def tlvBytesWrong : ChangeSpec := { name := "tlvBytes", fn := fun _ => fun
  | [d] => { results := [.lit (.bool false)], args := [d] }
  | _ => none }
def TlvBytesWrongFalsely : Prop := tlvBytesRow.holds Try.pinned (OpenSpec.ofChange tlvBytesWrong)

/- THE SECOND FORM. 'bulk': how many values and letters a reading holds, each counted each time it is reached (what is shared counts as often as it is met; a slice's spare places count too). A statement '..UptoSaid' is the law's where the arguments, and the package variables that the reading takes, are together of bulk at most 1048576: NARROWER than '..Said'. Prove '..Said' where nothing that the law and all that it calls make is longer than what came in: it says more and counts as full. Else prove '..UptoSaid'. A law counts once. -/
mutual
def uptoBulk {H : Type} : DataW H → Nat
  | .lit (.string bytes) => bytes.length + 1
  | .lit _ => 1
  | .nil => 1
  | .ptr d => uptoBulk d + 1
  | .slice elems spare => uptoBulkAll elems + uptoBulkAll spare + 1
  | .agg parts => uptoBulkAll parts + 1
  | .iface _ d => uptoBulk d + 1
  | .map entries => uptoBulkEntries entries + 1
  | .held _ => 1
def uptoBulkAll {H : Type} : List (DataW H) → Nat
  | [] => 0
  | d :: r => uptoBulk d + uptoBulkAll r
def uptoBulkEntries {H : Type} : List (Lit × DataW H) → Nat
  | [] => 0
  | x :: r => uptoBulkEntry x + uptoBulkEntries r
def uptoBulkEntry {H : Type} : Lit × DataW H → Nat
  | (.string bytes, d) => bytes.length + uptoBulk d + 1
  | (_, d) => uptoBulk d + 1
 end
def uptoSmall : (H : Type) → List (DataW H) → Bool := fun _ ds => decide (uptoBulkAll ds ≤ 1048576)
def OpenSpec.upto (s : _root_.Go.ChangeSpec) : _root_.Go.OpenSpec := { _root_.Go.OpenSpec.ofChange s with cond := some uptoSmall }

/-- 'apostillelaw12.TlvReads', WHERE WHAT IT READS IS OF BULK AT MOST 1048576: true; the input reads as it did. -/
def tlvReadsUptoRow : OpenClaim := { program := "ytkcfgmmdlkejfaa", sum := "49441432ed6c7ad38def48bf64b8a848480a59d56b2ad40f96606eead9945ab0", func := "apostille/apostillelaw12.TlvReads", spec := "tlvReads", unfollowed := true, recurses := true, apart := false, narrowed := true }
def TlvReadsUptoSaid : Prop := tlvReadsUptoRow.holds Try.pinned (OpenSpec.upto tlvReadsSpec)

/-- 'apostillelaw12.TlvTurned', WHERE WHAT IT READS IS OF BULK AT MOST 1048576: true; the input reads as it did. -/
def tlvTurnedUptoRow : OpenClaim := { program := "ytkcfgmmdlkejfaa", sum := "49441432ed6c7ad38def48bf64b8a848480a59d56b2ad40f96606eead9945ab0", func := "apostille/apostillelaw12.TlvTurned", spec := "tlvTurned", unfollowed := true, recurses := true, loops := true, apart := false, narrowed := true }
def TlvTurnedUptoSaid : Prop := tlvTurnedUptoRow.holds Try.pinned (OpenSpec.upto tlvTurnedSpec)

/-- 'apostillelaw12.TlvDeep', WHERE WHAT IT READS IS OF BULK AT MOST 1048576: true; the input reads as it did. -/
def tlvDeepUptoRow : OpenClaim := { program := "ytkcfgmmdlkejfaa", sum := "49441432ed6c7ad38def48bf64b8a848480a59d56b2ad40f96606eead9945ab0", func := "apostille/apostillelaw12.TlvDeep", spec := "tlvDeep", unfollowed := true, recurses := true, apart := false, narrowed := true }
def TlvDeepUptoSaid : Prop := tlvDeepUptoRow.holds Try.pinned (OpenSpec.upto tlvDeepSpec)

/-- 'apostillelaw12.TlvOdd', WHERE WHAT IT READS IS OF BULK AT MOST 1048576: true; the input reads as it did. -/
def tlvOddUptoRow : OpenClaim := { program := "ytkcfgmmdlkejfaa", sum := "49441432ed6c7ad38def48bf64b8a848480a59d56b2ad40f96606eead9945ab0", func := "apostille/apostillelaw12.TlvOdd", spec := "tlvOdd", unfollowed := true, recurses := true, apart := false, narrowed := true }
def TlvOddUptoSaid : Prop := tlvOddUptoRow.holds Try.pinned (OpenSpec.upto tlvOddSpec)

/-- 'apostillelaw12.TlvBytes', WHERE WHAT IT READS IS OF BULK AT MOST 1048576: true; the input reads as it did. -/
def tlvBytesUptoRow : OpenClaim := { program := "ytkcfgmmdlkejfaa", sum := "49441432ed6c7ad38def48bf64b8a848480a59d56b2ad40f96606eead9945ab0", func := "apostille/apostillelaw12.TlvBytes", spec := "tlvBytes", unfollowed := true, recurses := true, loops := true, apart := false, narrowed := true }
def TlvBytesUptoSaid : Prop := tlvBytesUptoRow.holds Try.pinned (OpenSpec.upto tlvBytesSpec)

end Rows
end Go.Proofs.Ytkcfgmmdlkejfaa
