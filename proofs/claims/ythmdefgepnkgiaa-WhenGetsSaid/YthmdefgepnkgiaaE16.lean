/- A program's own table. Conditions: none. -/
import Derived.Test.YthmdefgepnkgiaaE15g
namespace Go.Proofs.Ythmdefgepnkgiaa.Eng
open Go
def tabOf (P : Program) (hint : FuncId → Nat → Option (List Nat × List Nat)) (ext : FuncId → Option (List AV → List (List CV) → CallK)) (iter : FuncId → List (List DV) → Option (List (List (Bool × List DV)))) (fuel : Nat) (mu : FuncId → Nat → Bool) (prep : FuncId → Nat → List Prep) (pre : FuncId → List AV → List (List CV) → Bool := fun _ _ _ => true) : Tab :=
  ⟨fun f => P.funcs[f]?, tyOf P, hint, ext, iter, fuel, mu, prep, pre⟩
theorem tabOf_ok {P : Program} {hint : FuncId → Nat → Option (List Nat × List Nat)} {ext : FuncId → Option (List AV → List (List CV) → CallK)} {iter : FuncId → List (List DV) → Option (List (List (Bool × List DV)))} {fuel : Nat} {mu : FuncId → Nat → Bool} {prep : FuncId → Nat → List Prep} {pre : FuncId → List AV → List (List CV) → Bool} (hm : P.follows .mixedOrders = true) (hn : (P.funcs.toList.all fun fn => !(fn.name == "runtime.NumGoroutine")) = true)
    (he : ∀ f g, ext f = some g → ∀ as bs r, pre f as bs = true → (g as bs).go some = some r → CallOK P f as bs r)
    (hi : ∀ f rows xs, iter f rows = some xs → IterOK P f rows xs) : TabOK P (tabOf P hint ext iter fuel mu prep pre) :=
  ⟨fun f fn h => ⟨h, by
    have := List.all_eq_true.1 hn fn (Array.mem_toList_iff.2 (Array.mem_of_getElem? h))
    simpa using this⟩, fun _ _ h => tyOf_ok h, he, hm, hi⟩
/-- A law that comes to true. -/
theorem law_calls {P : Program} {T : Tab} (hT : TabOK P T) {n : Nat} {f : FuncId} {as : List AV} {b : Bool} (hp : T.pre f as [] = true) (e : eval T n f as [] = some (.bool b, [])) (w : World) (vals : List Value) (h : All2 (RepA ⟨fun k => match w.heap[k]? with | some (.cells c _ _) => c.size | _ => 0, fun _ => none, fun _ => 0⟩ w) as vals) :
    Calls P f vals.toArray w fun e w' => e = .returned (.bool b) ∧ RowKit.Below w.heap.size w w' := by
  obtain ⟨_, hc⟩ := eval_ok hT n f as [] _ hp e
  refine (hc _ w vals ⟨fun k hk => ⟨?_, rfl⟩, fun k o h => by cases h⟩ h (fun k cells hk => by simp at hk)).mono ?_
  · simp only [Array.getElem?_eq_none hk]
  · rintro e w' ⟨v, g', rfl, hok, ⟨c, hcc, hv⟩, _⟩
    simp only [List.cons.injEq, and_true] at hcc
    subst hcc
    have hv' : v = .bool b := by cases hv; rfl
    exact ⟨by rw [hv'], ⟨hok.os, hok.tape, hok.out, hok.size, fun k hk => hok.old k hk rfl⟩⟩
end Go.Proofs.Ythmdefgepnkgiaa.Eng
