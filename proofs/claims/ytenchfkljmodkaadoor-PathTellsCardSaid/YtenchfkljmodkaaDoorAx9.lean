-- a text of this claim
import Derived.Test.YtenchfkljmodkaaDoorAx2
import Derived.Test.YtenchfkljmodkaaDoorAx5
import Derived.Test.YtenchfkljmodkaaDoorAx7
import Derived.Test.YtenchfkljmodkaaDoorAx0
namespace Go.Proofs.YtenchfkljmodkaaDoor.A
open Go.RowKit Go.Proofs.YtenchfkljmodkaaDoorW.PrintWords Go.Proofs.YtenchfkljmodkaaDoorW.PrintLast Go.Proofs.YtenchfkljmodkaaDoorW.PrintMore
attribute [local go_sem] max2_int min2_int max_two min_two max_three min_three max_four min_four   -- for this text's walks alone
set_option linter.unusedVariables false
set_option linter.unusedSimpArgs false

/-! ### apostillelaw21_PathJoins: function 4 -/
def apostillelaw21_PathJoins.j0 : Nat → ByteArray → ByteArray → Bool → Option (Bool)
  | 0, _, _, _ => none
  | k + 1, x0, x1, x13 => if x13 = true then (some true) else (if x0.size + 1 ≤ 9223372036854775807 then (if (x0 ++ (⟨#[47]⟩ : ByteArray)).size + x1.size ≤ 9223372036854775807 then ((path_Is.f k ((x0 ++ (⟨#[47]⟩ : ByteArray)) ++ x1)).bind fun t160 => (if (t160 != (decide ((wrap64 ((wrap64 ((x0.size : Int) + (x1.size : Int))) + 1)) > 32))) = true then (if x0.size + 2 ≤ 9223372036854775807 then (if (x0 ++ (⟨#[47, 47]⟩ : ByteArray)).size + x1.size ≤ 9223372036854775807 then ((path_Is.f k ((x0 ++ (⟨#[47, 47]⟩ : ByteArray)) ++ x1)).bind fun t161 => (if t161 = true then (some false) else (if x0.size + 3 ≤ 9223372036854775807 then (if (x0 ++ (⟨#[47, 46, 47]⟩ : ByteArray)).size + x1.size ≤ 9223372036854775807 then ((path_Is.f k ((x0 ++ (⟨#[47, 46, 47]⟩ : ByteArray)) ++ x1)).bind fun t162 => (if t162 = true then (some false) else (if x0.size + 4 ≤ 9223372036854775807 then (if (x0 ++ (⟨#[47, 46, 46, 47]⟩ : ByteArray)).size + x1.size ≤ 9223372036854775807 then ((path_Is.f k ((x0 ++ (⟨#[47, 46, 46, 47]⟩ : ByteArray)) ++ x1)).bind fun t163 => (if t163 = true then (some false) else (if 1 + x0.size ≤ 9223372036854775807 then ((path_Is.f k ((⟨#[47]⟩ : ByteArray) ++ x0)).bind fun t164 => (if t164 = true then (some false) else ((path_Is.f k (x0 ++ (⟨#[47]⟩ : ByteArray))).bind fun t165 => (if t165 = true then (some false) else ((apostillelaw21_known.f k).bind fun t166 => (some t166)))))) else (none)))) else (none)) else (none)))) else (none)) else (none)))) else (none)) else (none)) else (some false))) else (none)) else (none))
def apostillelaw21_PathJoins.f (k : Nat) (a0 : ByteArray) (a1 : ByteArray) : Option (Bool) := (apostilleref21_Is.f k a0).bind fun t158 => (if t158 = true then ((apostilleref21_Is.f k a1).bind fun t159 => (apostillelaw21_PathJoins.j0 k a0 a1 (!t159))) else (apostillelaw21_PathJoins.j0 k a0 a1 true))
/-- THE ONE PURE STATEMENT of apostillelaw21_PathJoins: yours. -/
def apostillelaw21_PathJoins.Pure : Prop := ∀ (a0 : ByteArray) (a1 : ByteArray), a0.size ≤ 140737488351232 → a1.size ≤ 140737488351232 → ∃ k, apostillelaw21_PathJoins.f k a0 a1 = some true
end Go.Proofs.YtenchfkljmodkaaDoor.A
