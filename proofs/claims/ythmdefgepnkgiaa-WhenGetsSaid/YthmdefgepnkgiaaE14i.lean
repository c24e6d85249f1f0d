/- What is shown of a frame of a function holds of a frame of a round, too. Conditions: no operation defers; nothing lets out. -/
import Derived.Test.YthmdefgepnkgiaaE14b
import Derived.OrdersIn
import Derived.TacticsIn
import Derived.RangeFuncRecord
namespace Go.Proofs.Ythmdefgepnkgiaa.Eng
open Go
/-- All functions may be called; the frame is one of a function, or of a round. -/
def FW (ro : Option Nat) : Fence := { Fence.wide with round := ro }
section
variable {P : Program} {ro : Option Nat} {n : Nat} {ops : Array Oper} {Q : Exit → Act → World → Prop} {md : Region.Mode}
theorem callsIn_FW {f : FuncId} {args : Array Value} {w : World} {R : Ending → World → Prop} : CallsIn (FW ro) n P f args w R ↔ Calls P f args w R :=
  callsIn_wide (n := n)
theorem rowsIn_FW {row : String} {args : Array Value} {w : World} {R : Value → World → Prop} (h : Rows P row args w R) : RowsIn (FW ro) n P row args w R := by
  intro c cs _
  obtain ⟨v, w', hr, hs⟩ := h c cs
  exact ⟨v, w', hr, stepsIn_wide.2 hs⟩
theorem op_FW {o : Oper} {a : Act} {w : World} {K K' : Act → World → Prop} (hd : notDefer o.op = true) (hK : ∀ a w, K a w → K' a w) (h : o.wp P a w K Q) : o.wpIn (FW ro) n P a w K' Q := by
  refine ⟨fun _ _ => trivial, ?_⟩
  rw [Oper.semAt_eq _ _ _ (by intro c hc; rw [hc] at hd; cases hd)]
  unfold Oper.wp at h
  revert h
  generalize (execOp a.eval o).run P w = r
  cases r with
  | ok x w' =>
    intro h
    cases x with
    | enter f args =>
      simp only [Oper.upon] at h
      simp only [Oper.uponIn]
      refine ⟨(fun hh => by cases hh), callsIn_FW.2 (h.mono fun e w'' he => ?_)⟩
      cases e with
      | returned v => exact hK _ _ he
      | panicked c => exact he
      | outgrown => exact he
    | row row args =>
      simp only [Oper.upon] at h
      simp only [Oper.uponIn]
      exact ⟨(fun hh => by cases hh), rowsIn_FW (h.mono fun _ _ he => hK _ _ he)⟩
    | value v => exact hK _ _ h
    | skip => exact hK _ _ h
    | defer d => exact hK _ _ h
    | _ => exact h.elim
  | halt x w' =>
    intro h
    cases x <;> exact h
theorem wpOp_FW {i : Nat} {a : Act} {w : World} {K K' : Act → World → Prop} (hd : ∀ o, ops[i]? = some o → notDefer o.op = true) (hQ : ¬ LetsOut Q) (hK : ∀ a w, K a w → K' a w) (h : wpOp P ops Q i K a w) : wpOpIn (FW ro) n P ops Q i K' a w := by
  unfold wpOp at h
  unfold wpOpIn
  split
  · rename_i hi
    rw [hi] at h
    exact hK _ _ h
  · rename_i o hi
    rw [hi] at h
    simp only at h
    split
    · rename_i hw
      rw [if_pos hw] at h
      rcases h with h | ⟨_, h⟩
      · exact op_FW (hd o hi) hK h
      · exact absurd h hQ
    · rename_i hw
      rw [if_neg hw] at h
      exact ⟨fun _ _ => trivial, hK _ _ h⟩
theorem wpAny_FW (hd : ∀ (i : Nat) (o : Oper), ops[i]? = some o → notDefer o.op = true) (hQ : ¬ LetsOut Q) : ∀ (fuel : Nat) (listed : Array Bool) (a : Act) (w : World), wpAny P md ops Q fuel listed a w → wpAnyIn (FW ro) n P md ops Q fuel listed a w
  | 0, _, _, _, h => h
  | fuel + 1, _, _, _, h => ⟨h.1, fun i hi => wpOp_FW (hd i) hQ (fun a w hh => wpAny_FW hd hQ fuel _ a w hh) (h.2 i hi)⟩
theorem wpList_FW (hQ : ¬ LetsOut Q) : ∀ (l : List Oper) (a : Act) (w : World), (∀ o ∈ l, notDefer o.op = true) → wpList P ops Q l a w → wpListIn (FW ro) n P ops Q l a w
  | [], _, _, _, h => h
  | o :: l, a, w, hd, h => by
    simp only [wpList] at h
    simp only [wpListIn]
    split
    · rename_i hw
      rw [if_pos hw] at h
      rcases h with h | ⟨_, h⟩
      · exact op_FW (hd o (by simp)) (fun a w hh => wpList_FW hQ l a w (fun o ho => hd o (by simp [ho])) hh) h
      · exact absurd h hQ
    · rename_i hw
      rw [if_neg hw] at h
      exact ⟨fun _ _ => trivial, wpList_FW hQ l _ w (fun o ho => hd o (by simp [ho])) h⟩
variable {X : Ctx} {E : Ent}
theorem region_okIn (hX : XOK P X) (hn : E.n = X.n) (hmix : P.follows .mixedOrders = true) {R : Type} {K : St → Option R} {r : R} {id : Nat} {draw : Bool} {s : St} {g : Gh} {a : Act} {w : World} (h : Rel E g s a w)
    (hd : ops.toList.all (fun o => notDefer o.op) = true)
    (hQ : ∀ s' a' w' g', K s' = some r → Rel E g' s' a' w' → Q .normal a' w') (e : regionF X ops draw s K = some r) : (Code.region id ops draw).wpIn (FW ro) n P Q a w := by
  have hdl : ∀ o ∈ ops.toList, notDefer o.op = true := fun o ho => by simpa using List.all_eq_true.1 hd o ho
  have hdi : ∀ (i : Nat) (o : Oper), ops[i]? = some o → notDefer o.op = true := fun i o hi => hdl o (Array.mem_toList_iff.2 (Array.mem_of_getElem? hi))
  let Q' : Exit → Act → World → Prop := fun e a w => e = .normal ∧ Q .normal a w
  have hl : ¬ LetsOut Q' := fun ⟨_, _, hh, _⟩ => by cases hh
  have hmono : ∀ e a w, Q' e a w → Q e a w := fun e a w hh => by obtain ⟨rfl, hh⟩ := hh; exact hh
  have hQ' : ∀ s' a' w' g', K s' = some r → Rel E g' s' a' w' → Q' .normal a' w' := fun s' a' w' g' hk hr => ⟨rfl, hQ s' a' w' g' hk hr⟩
  refine wpIn_mono (Q := Q') ?_ hmono
  cases draw with
  | false => exact wpIn_region_list (wpList_FW hl _ _ _ hdl (region_list_ok hX hn hQ' h e))
  | true => exact wpIn_region_any hmix (wpAny_FW hdi hl _ _ _ _ (region_any_ok hX hn hQ' h e))
end
end Go.Proofs.Ythmdefgepnkgiaa.Eng
