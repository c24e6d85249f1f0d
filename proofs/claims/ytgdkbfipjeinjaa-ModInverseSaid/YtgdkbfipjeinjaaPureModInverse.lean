/- Inverses: both ways of reckoning come to one; its product with the number leaves 1. -/
import Derived.Test.YtgdkbfipjeinjaaAx10
import Derived.Test.YtgdkbfipjeinjaaAx15
import Derived.Test.YtgdkbfipjeinjaaAx18
import Derived.Test.YtgdkbfipjeinjaaAx20
import Derived.Test.YtgdkbfipjeinjaaModVb
namespace Go.Proofs.Ytgdkbfipjeinjaa.Pure
open Go.RowKit Go.Proofs.Ytgdkbfipjeinjaa.A Go.Proofs.Ytgdkbfipjeinjaa.V Go.Proofs.YtgdkbfipjeinjaaW.PrintWords Go.Proofs.YtgdkbfipjeinjaaW.PrintLast
set_option linter.unusedVariables false
set_option linter.unusedSimpArgs false

theorem ModInverse_none (l0 l1 l5 : List Int) : Ev (fun k => apostillelaw8_ModInverse.j0 k l0 l1 l5 false false) true := by
  refine Ev.step (f := fun k => (apostillelaw8_known.f k).bind fun t623 => (some t623)) (fun k => ?_) mknown1
  simp only [apostillelaw8_ModInverse.j0]
  rw [if_neg (by decide), if_neg (by decide)]
theorem ModInverse_some (A M X : Nat) (hA : nl A ≤ 40) (hM : nl M ≤ 40) (hm : 2 ≤ M) (hX : X < M) (h : A * X % M = 1) : Ev (fun k => apostillelaw8_ModInverse.j0 k (nm A) (nm M) (nm X) true false) true := by
  have hnX := nl_le (Nat.le_of_lt hX)
  refine Ev.step (f := fun k => (apostilleref8_Mul.f k (nm A) (nm X) (nm M)).bind fun bt624 => ((apostillelaw8_same.f k bt624.1 (nm 1)).bind fun t631 => (if t631 = true then ((apostilleref7_Cmp.f k (nm X) (nm M)).bind fun t632 => (if t632 < 0 then ((apostillelaw8_known.f k).bind fun t633 => (some t633)) else (some false))) else (some false)))) (fun k => ?_) ?_
  · simp only [apostillelaw8_ModInverse.j0, nm_one]
    rw [if_neg (by decide), if_pos trivial]
  · have m1 := refmmulV A X M (by omega) (by omega) (by omega)
    rw [mr_pos (by omega), h] at m1
    refine Ev.bind (a := (nm 1, true)) (f := fun k bt624 => _) m1 ?_
    refine Ev.bind (a := true) (f := fun k t631 => _) (sameV 1 (by unfold nl; rw [nm_one]; decide)) ?_
    refine Ev.congr (fun k => if_pos rfl) ?_
    refine Ev.bind (f := fun k t632 => _) (refcmpV X M (by omega)) ?_
    refine Ev.congr (fun k => if_pos ?_) mknown1
    unfold cmpv
    rw [if_neg (by omega), if_pos hX]
    decide
theorem ModInverse : apostillelaw8_ModInverse.Pure := by
  intro l0 l1 m0 _ w0 m1 _ w1
  refine Ev.rounds ?_
  unfold apostillelaw8_ModInverse.f law8_such2.f
  unfold maxLen at m0 m1
  refine Ev.bind (f := fun k t613 => _) (suchV 40 [l0, l1] (by intro x hx; simp only [List.mem_cons, List.not_mem_nil, or_false] at hx; rcases hx with h | h <;> subst h <;> omega) (by simp)) ?_
  by_cases hs : ([l0, l1] : List (List Int)).all (sb 40) = true
  · rw [hs]
    refine Ev.congr (fun k => if_pos rfl) ?_
    simp only [List.all_cons, List.all_nil, Bool.and_true, Bool.and_eq_true] at hs
    obtain ⟨A, rfl, hA⟩ := sb_canon (wf_W w0) hs.1
    obtain ⟨M, rfl, hM⟩ := sb_canon (wf_W w1) hs.2
    have a1 := minvV A M (by omega) (by omega)
    have b1 := refminvV A M (by omega) (by omega)
    by_cases hc : ¬ M ≤ 1 ∧ (eu M M (A % M) 0 1).1 = 1
    · obtain ⟨hm, h1⟩ := hc
      have e : inv A M = (nm (eu M M (A % M) 0 1).2, true) := by unfold inv; rw [if_neg hm, if_pos h1]
      have hX := eu_lt M (by omega) (A % M) M 0 1 (by omega) (by omega)
      have h2 := eu_one M A (by omega) h1
      have hnX := nl_le (Nat.le_of_lt hX)
      rw [e] at a1 b1
      generalize (eu M M (A % M) 0 1).2 = X at *
      refine Ev.bind (a := (nm X, true)) (f := fun k bt614 => _) a1 ?_
      refine Ev.bind (a := (nm X, true)) (f := fun k bt618 => _) b1 ?_
      refine Ev.bind (a := true) (f := fun k t622 => _) (sameV X (by omega)) ?_
      refine Ev.congr (fun k => if_pos rfl) ?_
      exact ModInverse_some A M X hA hM (by omega) hX h2
    · have e : inv A M = ([], false) := by
        unfold inv
        by_cases hm : M ≤ 1
        · rw [if_pos hm]
        · rw [if_neg hm, if_neg (fun h => hc ⟨hm, h⟩)]
      rw [e] at a1 b1
      refine Ev.bind (a := ([], false)) (f := fun k bt614 => _) a1 ?_
      refine Ev.bind (a := ([], false)) (f := fun k bt618 => _) b1 ?_
      refine Ev.bind (a := true) (f := fun k t622 => _) same0 ?_
      refine Ev.congr (fun k => if_pos rfl) ?_
      exact ModInverse_none (nm A) (nm M) []
  · exact Ev.congr (f := fun _ => some true) (fun k => if_neg hs) (Ev.now _)
end Go.Proofs.Ytgdkbfipjeinjaa.Pure
