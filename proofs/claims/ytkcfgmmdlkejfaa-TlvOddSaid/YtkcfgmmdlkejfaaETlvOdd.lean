/- TlvOdd comes to true, whichever way. Conditions: none. -/
import Derived.Test.YtkcfgmmdlkejfaaK12
namespace Go.Proofs.Ytkcfgmmdlkejfaa.Eng
open Go
set_option maxRecDepth 100000
theorem tlvOdd_neg (k : Nat) : eval T12 60 6 [.int .i64 (Int.negSucc k)] [] = some (.bool true, []) := by kernel_rfl
theorem tlvOdd_big (k : Nat) : eval T12 60 6 [.int .i64 (Int.ofNat (k + 17))] [] = some (.bool true, []) := by kernel_rfl
theorem tlvOdd_0 : eval T12 60 6 [.int .i64 (Int.ofNat 0)] [] = some (.bool true, []) := by kernel_rfl
theorem tlvOdd_1 : eval T12 60 6 [.int .i64 (Int.ofNat 1)] [] = some (.bool true, []) := by kernel_rfl
theorem tlvOdd_2 : eval T12 60 6 [.int .i64 (Int.ofNat 2)] [] = some (.bool true, []) := by kernel_rfl
theorem tlvOdd_3 : eval T12 60 6 [.int .i64 (Int.ofNat 3)] [] = some (.bool true, []) := by kernel_rfl
theorem tlvOdd_4 : eval T12 60 6 [.int .i64 (Int.ofNat 4)] [] = some (.bool true, []) := by kernel_rfl
theorem tlvOdd_5 : eval T12 60 6 [.int .i64 (Int.ofNat 5)] [] = some (.bool true, []) := by kernel_rfl
theorem tlvOdd_6 : eval T12 60 6 [.int .i64 (Int.ofNat 6)] [] = some (.bool true, []) := by kernel_rfl
theorem tlvOdd_7 : eval T12 60 6 [.int .i64 (Int.ofNat 7)] [] = some (.bool true, []) := by kernel_rfl
theorem tlvOdd_8 : eval T12 60 6 [.int .i64 (Int.ofNat 8)] [] = some (.bool true, []) := by kernel_rfl
theorem tlvOdd_9 : eval T12 60 6 [.int .i64 (Int.ofNat 9)] [] = some (.bool true, []) := by kernel_rfl
theorem tlvOdd_10 : eval T12 60 6 [.int .i64 (Int.ofNat 10)] [] = some (.bool true, []) := by kernel_rfl
theorem tlvOdd_11 : eval T12 60 6 [.int .i64 (Int.ofNat 11)] [] = some (.bool true, []) := by kernel_rfl
theorem tlvOdd_12 : eval T12 60 6 [.int .i64 (Int.ofNat 12)] [] = some (.bool true, []) := by kernel_rfl
theorem tlvOdd_13 : eval T12 60 6 [.int .i64 (Int.ofNat 13)] [] = some (.bool true, []) := by kernel_rfl
theorem tlvOdd_14 : eval T12 60 6 [.int .i64 (Int.ofNat 14)] [] = some (.bool true, []) := by kernel_rfl
theorem tlvOdd_15 : eval T12 60 6 [.int .i64 (Int.ofNat 15)] [] = some (.bool true, []) := by kernel_rfl
theorem tlvOdd_16 : eval T12 60 6 [.int .i64 (Int.ofNat 16)] [] = some (.bool true, []) := by kernel_rfl
theorem tlvOdd_ways : ∀ a0 : Int, eval T12 60 6 [.int .i64 a0] [] = some (.bool true, [])
  | .negSucc k => tlvOdd_neg k
  | .ofNat 0 => tlvOdd_0
  | .ofNat 1 => tlvOdd_1
  | .ofNat 2 => tlvOdd_2
  | .ofNat 3 => tlvOdd_3
  | .ofNat 4 => tlvOdd_4
  | .ofNat 5 => tlvOdd_5
  | .ofNat 6 => tlvOdd_6
  | .ofNat 7 => tlvOdd_7
  | .ofNat 8 => tlvOdd_8
  | .ofNat 9 => tlvOdd_9
  | .ofNat 10 => tlvOdd_10
  | .ofNat 11 => tlvOdd_11
  | .ofNat 12 => tlvOdd_12
  | .ofNat 13 => tlvOdd_13
  | .ofNat 14 => tlvOdd_14
  | .ofNat 15 => tlvOdd_15
  | .ofNat 16 => tlvOdd_16
  | .ofNat (k + 17) => tlvOdd_big k
theorem tlvOdd_calls (a0 : Int) (W : World) : Calls Go.Proofs.Try.prog 6 #[.int .i64 a0] W fun e w' => e = .returned (.bool true) ∧ RowKit.Below W.heap.size W w' :=
  law_calls T12_ok (tlvOdd_ways a0) W [.int .i64 a0] (.cons ⟨_, rfl, .int _ _⟩ .nil)
end Go.Proofs.Ytkcfgmmdlkejfaa.Eng
