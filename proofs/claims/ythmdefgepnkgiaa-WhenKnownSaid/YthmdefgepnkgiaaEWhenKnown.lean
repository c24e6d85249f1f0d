/- WhenKnown comes to true, whichever way. Conditions: none. -/
import Derived.Test.YthmdefgepnkgiaaK14
namespace Go.Proofs.Ythmdefgepnkgiaa.Eng
open Go
set_option maxRecDepth 100000
theorem whenKnown_neg (k : Nat) : eval T14 60 7 [.int .i64 (Int.negSucc k)] [] = some (.bool true, []) := by kernel_rfl
theorem whenKnown_big (k : Nat) : eval T14 60 7 [.int .i64 (Int.ofNat (k + 8))] [] = some (.bool true, []) := by kernel_rfl
theorem whenKnown_0 : eval T14 60 7 [.int .i64 (Int.ofNat 0)] [] = some (.bool true, []) := by kernel_rfl
theorem whenKnown_1 : eval T14 60 7 [.int .i64 (Int.ofNat 1)] [] = some (.bool true, []) := by kernel_rfl
theorem whenKnown_2 : eval T14 60 7 [.int .i64 (Int.ofNat 2)] [] = some (.bool true, []) := by kernel_rfl
theorem whenKnown_3 : eval T14 60 7 [.int .i64 (Int.ofNat 3)] [] = some (.bool true, []) := by kernel_rfl
theorem whenKnown_4 : eval T14 60 7 [.int .i64 (Int.ofNat 4)] [] = some (.bool true, []) := by kernel_rfl
theorem whenKnown_5 : eval T14 60 7 [.int .i64 (Int.ofNat 5)] [] = some (.bool true, []) := by kernel_rfl
theorem whenKnown_6 : eval T14 60 7 [.int .i64 (Int.ofNat 6)] [] = some (.bool true, []) := by kernel_rfl
theorem whenKnown_7 : eval T14 60 7 [.int .i64 (Int.ofNat 7)] [] = some (.bool true, []) := by kernel_rfl
theorem whenKnown_ways : ∀ a0 : Int, eval T14 60 7 [.int .i64 a0] [] = some (.bool true, [])
  | .negSucc k => whenKnown_neg k
  | .ofNat 0 => whenKnown_0
  | .ofNat 1 => whenKnown_1
  | .ofNat 2 => whenKnown_2
  | .ofNat 3 => whenKnown_3
  | .ofNat 4 => whenKnown_4
  | .ofNat 5 => whenKnown_5
  | .ofNat 6 => whenKnown_6
  | .ofNat 7 => whenKnown_7
  | .ofNat (k + 8) => whenKnown_big k
theorem whenKnown_calls (a0 : Int) (W : World) : Calls Go.Proofs.Try.prog 7 #[.int .i64 a0] W fun e w' => e = .returned (.bool true) ∧ RowKit.Below W.heap.size W w' :=
  law_calls T14_ok (whenKnown_ways a0) W [.int .i64 a0] (.cons ⟨_, rfl, .int _ _⟩ .nil)
end Go.Proofs.Ythmdefgepnkgiaa.Eng
