/- A law that comes to true, told as a call. Conditions: what the evaluator tells of it. -/
import Derived.Test.YthmdefgepnkgiaaGK
namespace Go.Proofs.Ythmdefgepnkgiaa.Eng
open Go
theorem ok_calls {P : Program} {f : FuncId} {avs : List AV} {b : Bool} (hc : CallOK P f avs [] (.one false [.d (.bool b)], [])) (w : World) (vals : List Value) (h : All2 (RepA ⟨fun k => match w.heap[k]? with | some (.cells c _ _) => c.size | _ => 0, fun _ => none, fun _ => 0⟩ w) avs vals) :
    Calls P f vals.toArray w fun e w' => e = .returned (.bool b) ∧ RowKit.Below w.heap.size w w' := by
  obtain ⟨_, hc⟩ := hc
  refine (hc _ w vals ⟨fun k hk => ⟨?_, rfl⟩, fun k o h => by cases h⟩ h (fun k cells hk => by simp at hk)).mono ?_
  · simp only [Array.getElem?_eq_none hk]
  · rintro e w' ⟨v, g', rfl, hok, ⟨c, hcc, hv⟩, _⟩
    simp only [List.cons.injEq, and_true] at hcc
    subst hcc
    have hv' : v = .bool b := by cases hv; rfl
    exact ⟨by rw [hv'], ⟨hok.os, hok.tape, hok.out, hok.size, fun k hk => hok.old k hk rfl⟩⟩
theorem via_true {α : Type} {enc : α → Res} {P : Program} {f : FuncId} {c : CK} {avs : List AV} {bs : List (List CV)} {x : α} (hok : CK.OK P f c) (h : c avs bs = CallK.via (some x) enc) : CallOK P f avs bs (enc x) := hok avs bs _ (by rw [h]; rfl)
end Go.Proofs.Ythmdefgepnkgiaa.Eng
