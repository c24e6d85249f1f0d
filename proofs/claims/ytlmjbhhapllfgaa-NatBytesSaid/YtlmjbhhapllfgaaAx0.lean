-- a text of this claim
import Derived.Test.YtlmjbhhapllfgaaProg
import Derived.Below
import Derived.Deep.Draws
import Derived.Deep.AppendLies
import Derived.Maps.AppendAt
import Derived.OwnWalk
import Derived.Laws.BytesArg
import Derived.Laws.MakeOwn
import Derived.Laws.OwnMore
import Derived.Deep.OwnRows
import Derived.Tactics
import Derived.Lib.ConvBytes
import Derived.Laws.Slices
import Derived.WalkKit
import Derived.KernelRfl
import Derived.RowKit3
import Derived.Deep.LoopGhost
import Derived.Deep.QuietTactic
import Derived.BigQuiet
import Derived.WideLaws
import Derived.Deep.DeepCutAuto
import Derived.Deep.CutBlock
import Derived.Deep.RegionHeld3
import Derived.Laws.Rows
import Derived.Lib.AppendStr
import Derived.ArgAppend
import Derived.Laws.IdiomCopy
import Derived.OrdersHeld
import Derived.Laws.BitsLemmas
import Derived.RowKit
import Derived.Lib.BitFns
import Derived.Test.YtlmjbhhapllfgaaWWords
import Derived.Test.YtlmjbhhapllfgaaWLast
import Derived.Test.YtlmjbhhapllfgaaWTab
import Derived.Test.YtlmjbhhapllfgaaWFour
import Derived.Test.YtlmjbhhapllfgaaWQPut
import Derived.Test.YtlmjbhhapllfgaaWApart
import Derived.Test.YtlmjbhhapllfgaaWArr
import Derived.Test.YtlmjbhhapllfgaaWZeros
import Derived.Test.YtlmjbhhapllfgaaWFoot
import Derived.Test.YtlmjbhhapllfgaaWKept
import Derived.Test.YtlmjbhhapllfgaaWShare
import Derived.Test.YtlmjbhhapllfgaaWN
import Derived.Test.YtlmjbhhapllfgaaWFootNe
import Derived.Test.YtlmjbhhapllfgaaWAt
import Derived.Test.YtlmjbhhapllfgaaWEqStruct
import Derived.Test.YtlmjbhhapllfgaaWRepsOne
import Derived.Test.YtlmjbhhapllfgaaWInv
import Derived.Test.YtlmjbhhapllfgaaWInvWords
import Derived.Test.YtlmjbhhapllfgaaWGuard
import Derived.Test.YtlmjbhhapllfgaaWNEv
import Derived.Test.YtlmjbhhapllfgaaWMore
namespace Go.Proofs.Ytlmjbhhapllfgaa.A
open Go.RowKit Go.Proofs.YtlmjbhhapllfgaaW.PrintWords Go.Proofs.YtlmjbhhapllfgaaW.PrintLast Go.Proofs.YtlmjbhhapllfgaaW.PrintMore
attribute [local go_sem] max2_int min2_int max_two min_two max_three min_three max_four min_four   -- for this text's walks alone
set_option linter.unusedVariables false
set_option linter.unusedSimpArgs false

theorem wrap_u32_mod (n : Int) : IntKind.u32.wrap n = n % 4294967296 := by simp [IntKind.wrap, IntKind.bits, IntKind.signed]
theorem wrap_u8_mod (n : Int) : IntKind.u8.wrap n = n % 256 := by simp [IntKind.wrap, IntKind.bits, IntKind.signed]



def errW : Option Int → Value
  | none => .nilIface
  | some c => .iface 0 (.int .i64 c)
theorem errW_none : errW none = .nilIface := rfl
theorem errW_some (c : Int) : errW (some c) = .iface 0 (.int .i64 c) := rfl

theorem info5 : (Try.prog.info? 5).map (fun i => (i.zero, i.size, i.bytes)) = some (some (.int .u8 0), 1, 1) := by kernel_rfl
theorem info40 : (Try.prog.info? 40).map (fun i => (i.zero, i.size, i.bytes)) = some (some (.int .u32 0), 1, 4) := by kernel_rfl
-- the values' own types

end Go.Proofs.Ytlmjbhhapllfgaa.A
