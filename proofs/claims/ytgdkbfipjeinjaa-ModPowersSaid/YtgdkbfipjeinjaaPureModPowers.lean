/- Powers that go round: both ways of reckoning come to one value. -/
import Derived.Test.YtgdkbfipjeinjaaAx16
import Derived.Test.YtgdkbfipjeinjaaAx18
import Derived.Test.YtgdkbfipjeinjaaAx19
import Derived.Test.YtgdkbfipjeinjaaAx8
import Derived.Test.YtgdkbfipjeinjaaModVb
namespace Go.Proofs.Ytgdkbfipjeinjaa.Pure
open Go.RowKit Go.Proofs.Ytgdkbfipjeinjaa.A Go.Proofs.Ytgdkbfipjeinjaa.V Go.Proofs.YtgdkbfipjeinjaaW.PrintWords Go.Proofs.YtgdkbfipjeinjaaW.PrintLast
set_option linter.unusedVariables false
set_option linter.unusedSimpArgs false

theorem ModPowers_off (l0 l1 l2 : List Int) : Ev (fun k => apostillelaw8_ModPowers.j0 k l0 l1 l2 true) true := by
  refine Ev.step (f := fun _ => some true) (fun k => ?_) (Ev.now _)
  simp only [apostillelaw8_ModPowers.j0]
  exact if_pos trivial
theorem ModPowers_on (A E M : Nat) (hA : nl A ≤ 40) (hE : nl E ≤ 4) (hM : nl M ≤ 40) : Ev (fun k => apostillelaw8_ModPowers.j0 k (nm A) (nm E) (nm M) false) true := by
  refine Ev.step (f := fun k => ((mod_Exp.f k (nm A) (nm E) (nm M)).bind fun bt535 => ((apostilleref8_Exp.f k (nm A) (nm E) (nm M)).bind fun bt539 => ((apostillelaw8_same.f k bt535.1 bt539.1).bind fun t543 => (if t543 = true then (if (bt535.2 == bt539.2) = true then ((apostillelaw8_known.f k).bind fun t544 => (some t544)) else (some false)) else (some false)))))) (fun k => ?_) ?_
  · simp only [apostillelaw8_ModPowers.j0]
    exact if_neg (by decide)
  · have a1 := mexpV A E M (by omega) (by omega) (by omega)
    have b1 := refmexpV A E M (by omega) (by omega) (by omega)
    have s1 := same_mr (A ^ E) M (by omega)
    generalize mr (A ^ E) M = x at *
    refine Ev.bind (a := x) (f := fun k bt535 => _) a1 ?_
    refine Ev.bind (a := x) (f := fun k bt539 => _) b1 ?_
    refine Ev.bind (a := true) (f := fun k t543 => _) s1 ?_
    refine Ev.congr (fun k => if_pos rfl) ?_
    refine Ev.congr (fun k => if_pos (by simp)) ?_
    exact mknown1
theorem ModPowers : apostillelaw8_ModPowers.Pure := by
  intro l0 l1 l2 m0 _ w0 m1 _ w1 m2 _ w2
  refine Ev.rounds ?_
  unfold apostillelaw8_ModPowers.f law8_such2.f law8_such1.f
  unfold maxLen at m0 m1 m2
  refine Ev.bind (f := fun k t533 => _) (suchV 40 [l0, l2] (by intro x hx; simp only [List.mem_cons, List.not_mem_nil, or_false] at hx; rcases hx with h | h <;> subst h <;> omega) (by simp)) ?_
  by_cases hs : ([l0, l2] : List (List Int)).all (sb 40) = true
  · rw [hs]
    refine Ev.congr (fun k => if_pos rfl) ?_
    refine Ev.bind (f := fun k t534 => _) (suchV 4 [l1] (by intro x hx; simp only [List.mem_cons, List.not_mem_nil, or_false] at hx; subst hx; omega) (by simp)) ?_
    by_cases hs1 : ([l1] : List (List Int)).all (sb 4) = true
    · rw [hs1]
      simp only [List.all_cons, List.all_nil, Bool.and_true, Bool.and_eq_true] at hs hs1
      obtain ⟨A, rfl, hA⟩ := sb_canon (wf_W w0) hs.1
      obtain ⟨E, rfl, hE⟩ := sb_canon (wf_W w1) hs1
      obtain ⟨M, rfl, hM⟩ := sb_canon (wf_W w2) hs.2
      exact ModPowers_on A E M hA hE hM
    · rw [Bool.not_eq_true] at hs1
      rw [hs1]
      exact ModPowers_off l0 l1 l2
  · exact Ev.congr (fun k => if_neg hs) (ModPowers_off l0 l1 l2)
end Go.Proofs.Ytgdkbfipjeinjaa.Pure
