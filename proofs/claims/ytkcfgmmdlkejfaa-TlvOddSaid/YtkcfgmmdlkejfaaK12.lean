/- The table of chapter 12. Conditions: none. -/
import Derived.Test.YtkcfgmmdlkejfaaEI2
import Derived.Test.YtkcfgmmdlkejfaaEC1
namespace Go.Proofs.Ytkcfgmmdlkejfaa.Eng
open Go
def bcloneG (avs : List AV) (bs : List (List CV)) : Option Res :=
  match avs, bs with
  | [.one false [.d (.ints .u8 l)]], [] => bif leN (l.length * 1) 140737488355328 then some (.c (.own 0 (.ints .u8 l)), []) else none
  | _, _ => none
theorem bcloneG_ok (avs : List AV) (bs : List (List CV)) (r : Res) (h : bcloneG avs bs = some r) : CallOK Go.Proofs.Try.prog 36 avs bs r := by
  unfold bcloneG at h
  split at h
  · obtain ⟨hl, h⟩ := b_true h
    obtain rfl := Option.some.inj h
    exact bclone_ok _ hl
  · cases h
def ext12 (f : FuncId) : Option (List AV → List (List CV) → Option Res) := bif Nat.beq f 36 then some bcloneG else none
def iter12 (f : FuncId) (rows : List (List DV)) : Option (List (List (Bool × List DV))) :=
  bif Nat.beq f 39 then match rows with | [row] => bif okR row then some (preL 1 [row]) else none | _ => none else none
def prep12 (f : FuncId) (r : Nat) : List Prep :=
  bif Nat.beq f 37 then (bif Nat.beq r 8 then [.thaw 3 50000] else bif Nat.beq r 9 then [.frz 50000 5] else []) else []
noncomputable def T12 : Tab := tabOf Go.Proofs.Try.prog (fun _ _ => none) ext12 iter12 100000 (fun _ _ => false) prep12
theorem T12_ok : TabOK Go.Proofs.Try.prog T12 := by
  refine tabOf_ok mixed (by kernel_rfl) (fun f g h => ?_) (fun f rows xs h => ?_)
  · unfold ext12 at h
    cases hf : Nat.beq f 36
    · rw [hf] at h; cases h
    · rw [hf] at h
      obtain rfl := beq_true hf
      obtain rfl := Option.some.inj h
      exact bcloneG_ok
  · unfold iter12 at h
    cases hf : Nat.beq f 39
    · rw [hf] at h; cases h
    · rw [hf] at h
      obtain rfl := beq_true hf
      simp only [cond_true] at h
      split at h
      · obtain ⟨hok, h⟩ := b_true h
        obtain rfl := Option.some.inj h
        exact all_ok _ hok
      · cases h
end Go.Proofs.Ytkcfgmmdlkejfaa.Eng
