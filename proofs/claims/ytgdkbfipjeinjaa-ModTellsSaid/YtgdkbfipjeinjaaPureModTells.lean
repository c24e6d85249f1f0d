/- Sums, differences and products that go round: both ways of reckoning come to one value. -/
import Derived.Test.YtgdkbfipjeinjaaAx18
import Derived.Test.YtgdkbfipjeinjaaAx21
import Derived.Test.YtgdkbfipjeinjaaModVb
namespace Go.Proofs.Ytgdkbfipjeinjaa.Pure
open Go.RowKit Go.Proofs.Ytgdkbfipjeinjaa.A Go.Proofs.Ytgdkbfipjeinjaa.V Go.Proofs.YtgdkbfipjeinjaaW.PrintWords Go.Proofs.YtgdkbfipjeinjaaW.PrintLast
set_option linter.unusedVariables false
set_option linter.unusedSimpArgs false

theorem same_ms (A C M : Nat) (h : nl M < 40000) : Ev (fun k => apostillelaw8_same.f k (ms A C M).1 (ms A C M).1) true := by
  unfold ms
  rcases Nat.eq_zero_or_pos M with h0 | h0
  · rw [if_pos h0]; exact same0
  · rw [if_neg (by omega)]
    have := nl_le (Nat.le_of_lt (sv_lt A C M h0))
    exact sameV _ (by omega)
theorem ModTells : apostillelaw8_ModTells.Pure := by
  intro l0 l1 l2 m0 _ w0 m1 _ w1 m2 _ w2
  refine Ev.rounds ?_
  unfold apostillelaw8_ModTells.f law8_such3.f
  unfold maxLen at m0 m1 m2
  refine Ev.bind (f := fun k t648 => _) (suchV 130 [l0, l1, l2] (by intro x hx; simp only [List.mem_cons, List.not_mem_nil, or_false] at hx; rcases hx with h | h | h <;> subst h <;> omega) (by simp)) ?_
  by_cases hs : ([l0, l1, l2] : List (List Int)).all (sb 130) = true
  · rw [hs]
    refine Ev.congr (fun k => if_pos rfl) ?_
    simp only [List.all_cons, List.all_nil, Bool.and_true, Bool.and_eq_true] at hs
    obtain ⟨A, rfl, hA⟩ := sb_canon (wf_W w0) hs.1
    obtain ⟨C, rfl, hC⟩ := sb_canon (wf_W w1) hs.2.1
    obtain ⟨M, rfl, hM⟩ := sb_canon (wf_W w2) hs.2.2
    clear m0 m1 m2 w0 w1 w2 hs
    have a1 := maddV A C M (by omega) (by omega) (by omega)
    have a2 := msubV A C M (by omega) (by omega) (by omega)
    have a3 := mmulV A C M (by omega) (by omega) (by omega)
    have b1 := refmaddV A C M (by omega) (by omega) (by omega)
    have b2 := refmsubV A C M (by omega) (by omega) (by omega)
    have b3 := refmmulV A C M (by omega) (by omega) (by omega)
    have s1 := same_mr (A + C) M (by omega)
    have s2 := same_ms A C M (by omega)
    have s3 := same_mr (A * C) M (by omega)
    generalize mr (A + C) M = x at *
    generalize ms A C M = y at *
    generalize mr (A * C) M = z at *
    refine Ev.bind (a := x) (f := fun k bt649 => _) a1 ?_
    refine Ev.bind (a := y) (f := fun k bt653 => _) a2 ?_
    refine Ev.bind (a := z) (f := fun k bt657 => _) a3 ?_
    refine Ev.bind (a := x) (f := fun k bt661 => _) b1 ?_
    refine Ev.bind (a := y) (f := fun k bt665 => _) b2 ?_
    refine Ev.bind (a := z) (f := fun k bt669 => _) b3 ?_
    refine Ev.bind (a := true) (f := fun k t673 => _) s1 ?_
    refine Ev.congr (fun k => if_pos rfl) ?_
    refine Ev.bind (a := true) (f := fun k t674 => _) s2 ?_
    refine Ev.congr (fun k => if_pos rfl) ?_
    refine Ev.bind (a := true) (f := fun k t675 => _) s3 ?_
    refine Ev.congr (fun k => if_pos rfl) ?_
    refine Ev.congr (fun k => if_pos (by simp)) ?_
    refine Ev.congr (fun k => if_pos (by simp)) ?_
    refine Ev.congr (fun k => if_pos (by simp)) ?_
    exact mknown1
  · exact Ev.congr (f := fun _ => some true) (fun k => if_neg hs) (Ev.now _)
end Go.Proofs.Ytgdkbfipjeinjaa.Pure
