/- The table of chapter 14. Conditions: none. -/
import Derived.Test.YthmdefgepnkgiaaEIY
import Derived.Test.YthmdefgepnkgiaaProg
import Derived.KernelRfl
namespace Go.Proofs.Ythmdefgepnkgiaa.Eng
open Go
set_option maxRecDepth 100000
theorem mixed : Go.Proofs.Try.prog.follows .mixedOrders = true := by kernel_rfl
theorem chunk_fn : Go.Proofs.Try.prog.funcs[30]? = some Go.Proofs.Try.f30 := by kernel_rfl
noncomputable def iter14 (f : FuncId) (rows : List (List DV)) : Option (List (List (Bool × List DV))) :=
  bif Nat.beq f 30 && Nat.ble (rows.length + 1) 31 then
    match Go.Proofs.Try.f30.body with
    | some c => codeY (XY Go.Proofs.Try.prog 31) 1000 c ⟨startT 0 (.c (.yl 0) :: rows.map fun r => .c (.ep r)), startB 0 []⟩ endY
    | none => none
  else none
noncomputable def T14 : Tab := tabOf Go.Proofs.Try.prog (fun _ _ => none) (fun _ => none) iter14 1000 (fun _ _ => false) (fun _ _ => [])
theorem T14_ok : TabOK Go.Proofs.Try.prog T14 := by
  refine tabOf_ok mixed (by kernel_rfl) (fun f g h => by cases h) (fun f rows xs h => ?_)
  unfold iter14 at h
  obtain ⟨hb, h2⟩ := b_true h
  clear h
  simp only [Bool.and_eq_true] at hb
  obtain rfl := beq_true hb.1
  obtain ⟨c, hc⟩ : ∃ c, Go.Proofs.Try.f30.body = some c := ⟨_, rfl⟩
  rw [hc] at h2
  exact iterY_ok mixed chunk_fn rfl hc (by obtain rfl := Option.some.inj hc; rfl) rfl (ble_true hb.2) h2
end Go.Proofs.Ythmdefgepnkgiaa.Eng
