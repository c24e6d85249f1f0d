/- Powers of sums are products of powers; a sum less what was added is what was there. -/
import Derived.Test.YtgdkbfipjeinjaaAx10
import Derived.Test.YtgdkbfipjeinjaaAx15
import Derived.Test.YtgdkbfipjeinjaaAx16
import Derived.Test.YtgdkbfipjeinjaaAx18
import Derived.Test.YtgdkbfipjeinjaaAx22
import Derived.Test.YtgdkbfipjeinjaaAx7
import Derived.Test.YtgdkbfipjeinjaaAx8
import Derived.Test.YtgdkbfipjeinjaaAx9
import Derived.Test.YtgdkbfipjeinjaaModVb
namespace Go.Proofs.Ytgdkbfipjeinjaa.Pure
open Go.RowKit Go.Proofs.Ytgdkbfipjeinjaa.A Go.Proofs.Ytgdkbfipjeinjaa.V Go.Proofs.YtgdkbfipjeinjaaW.PrintWords Go.Proofs.YtgdkbfipjeinjaaW.PrintLast
set_option linter.unusedVariables false
set_option linter.unusedSimpArgs false

theorem sv_back (a e m : Nat) (hm : 0 < m) : sv ((a + e) % m) e m = a % m := by
  have h1 := Nat.mod_lt a hm
  have h2 := Nat.mod_lt e hm
  have h3 : (a + e) % m % m = (a % m + e % m) % m := by rw [Nat.mod_mod, Nat.add_mod]
  unfold sv
  rw [h3]
  generalize a % m = x at *
  generalize e % m = y at *
  rcases Nat.lt_or_ge (x + y) m with h | h
  · rw [Nat.mod_eq_of_lt h, if_pos (by omega)]; omega
  · rw [Nat.mod_eq_sub_mod h, Nat.mod_eq_of_lt (by omega), if_neg (by omega)]; omega
theorem ModLaws_off (l0 l1 l2 l3 : List Int) : Ev (fun k => apostillelaw8_ModLaws.j0 k l0 l1 l2 l3 true) true := by
  refine Ev.step (f := fun _ => some true) (fun k => ?_) (Ev.now _)
  simp only [apostillelaw8_ModLaws.j0]
  exact if_pos trivial
theorem ModLaws_on (A E F M : Nat) (hA : nl A ≤ 20) (hE : nl E ≤ 2) (hF : nl F ≤ 2) (hM : nl M ≤ 20) (hm : 0 < M) : Ev (fun k => apostillelaw8_ModLaws.j0 k (nm A) (nm E) (nm F) (nm M) false) true := by
  refine Ev.step (f := fun k => ((mod_Exp.f k (nm A) (nm E) (nm M)).bind fun bt679 => ((mod_Exp.f k (nm A) (nm F) (nm M)).bind fun bt683 => ((apostilleref7_Add.f k (nm E) (nm F)).bind fun t687 => ((mod_Exp.f k (nm A) t687 (nm M)).bind fun bt690 => ((mod_Mul.f k bt679.1 bt683.1 (nm M)).bind fun bt694 => ((mod_Add.f k (nm A) (nm E) (nm M)).bind fun bt698 => ((mod_Sub.f k bt698.1 (nm E) (nm M)).bind fun bt702 => ((apostilleref8_Rest.f k (nm A) (nm M)).bind fun bt706 => (if bt694.2 = true then ((apostillelaw8_same.f k bt690.1 bt694.1).bind fun t710 => (if t710 = true then (if bt702.2 = true then ((apostillelaw8_same.f k bt702.1 bt706.1).bind fun t711 => (if t711 = true then ((apostilleref7_Cmp.f k bt679.1 (nm M)).bind fun t712 => (if t712 < 0 then ((apostillelaw8_known.f k).bind fun t713 => (some t713)) else (some false))) else (some false))) else (some false)) else (some false))) else (some false)))))))))) ) (fun k => ?_) ?_
  · simp only [apostillelaw8_ModLaws.j0]
    exact if_neg (by decide)
  · have x1 := mexpV A E M (by omega) (by omega) (by omega)
    have x2 := mexpV A F M (by omega) (by omega) (by omega)
    have x3 := refaddV E F (by omega) (by omega)
    have hs := nl_add E F 2 hE hF
    have x4 := mexpV A (E + F) M (by omega) (by omega) (by omega)
    have hl1 := nl_mod (A ^ E) M hm
    have hl2 := nl_mod (A ^ F) M hm
    have hl3 := nl_mod (A ^ (E + F)) M hm
    have hl4 := nl_mod (A + E) M hm
    have hl5 := nl_mod A M hm
    have x5 := mmulV (A ^ E % M) (A ^ F % M) M (by omega) (by omega) (by omega)
    have x6 := maddV A E M (by omega) (by omega) (by omega)
    have x7 := msubV ((A + E) % M) E M (by omega) (by omega) (by omega)
    have x8 := refrestV A M (by omega) (by omega)
    rw [mr_pos hm] at x1 x2 x4 x5 x6 x8
    rw [← Nat.mul_mod, ← Nat.pow_add] at x5
    unfold ms at x7
    rw [if_neg (by omega), sv_back A E M hm] at x7
    refine Ev.bind (a := (nm (A ^ E % M), true)) (f := fun k bt679 => _) x1 ?_
    refine Ev.bind (a := (nm (A ^ F % M), true)) (f := fun k bt683 => _) x2 ?_
    refine Ev.bind (a := nm (E + F)) (f := fun k t687 => _) x3 ?_
    refine Ev.bind (a := (nm (A ^ (E + F) % M), true)) (f := fun k bt690 => _) x4 ?_
    refine Ev.bind (a := (nm (A ^ (E + F) % M), true)) (f := fun k bt694 => _) x5 ?_
    refine Ev.bind (a := (nm ((A + E) % M), true)) (f := fun k bt698 => _) x6 ?_
    refine Ev.bind (a := (nm (A % M), true)) (f := fun k bt702 => _) x7 ?_
    refine Ev.bind (a := (nm (A % M), true)) (f := fun k bt706 => _) x8 ?_
    refine Ev.congr (fun k => if_pos rfl) ?_
    refine Ev.bind (a := true) (f := fun k t710 => _) (sameV (A ^ (E + F) % M) (by omega)) ?_
    refine Ev.congr (fun k => if_pos rfl) ?_
    refine Ev.congr (fun k => if_pos rfl) ?_
    refine Ev.bind (a := true) (f := fun k t711 => _) (sameV (A % M) (by omega)) ?_
    refine Ev.congr (fun k => if_pos rfl) ?_
    refine Ev.bind (f := fun k t712 => _) (refcmpV (A ^ E % M) M (by omega)) ?_
    refine Ev.congr (fun k => if_pos ?_) mknown1
    have := Nat.mod_lt (A ^ E) hm
    unfold cmpv
    rw [if_neg (by omega), if_pos this]
    decide
theorem ModLaws : apostillelaw8_ModLaws.Pure := by
  intro l0 l1 l2 l3 m0 _ w0 m1 _ w1 m2 _ w2 m3 _ w3
  refine Ev.rounds ?_
  unfold apostillelaw8_ModLaws.f law8_such2.f
  unfold maxLen at m0 m1 m2 m3
  refine Ev.bind (f := fun k t677 => _) (suchV 20 [l0, l3] (by intro x hx; simp only [List.mem_cons, List.not_mem_nil, or_false] at hx; rcases hx with h | h <;> subst h <;> omega) (by simp)) ?_
  by_cases hs : ([l0, l3] : List (List Int)).all (sb 20) = true
  · rw [hs]
    refine Ev.congr (fun k => if_pos rfl) ?_
    refine Ev.bind (f := fun k t678 => _) (suchV 2 [l1, l2] (by intro x hx; simp only [List.mem_cons, List.not_mem_nil, or_false] at hx; rcases hx with h | h <;> subst h <;> omega) (by simp)) ?_
    by_cases hs1 : ([l1, l2] : List (List Int)).all (sb 2) = true
    · rw [hs1]
      refine Ev.congr (fun k => if_pos rfl) ?_
      simp only [List.all_cons, List.all_nil, Bool.and_true, Bool.and_eq_true] at hs hs1
      obtain ⟨A, rfl, hA⟩ := sb_canon (wf_W w0) hs.1
      obtain ⟨E, rfl, hE⟩ := sb_canon (wf_W w1) hs1.1
      obtain ⟨F, rfl, hF⟩ := sb_canon (wf_W w2) hs1.2
      obtain ⟨M, rfl, hM⟩ := sb_canon (wf_W w3) hs.2
      rcases Nat.eq_zero_or_pos M with h | h
      · subst h
        have : (((nm 0).length : Int) == 0) = true := by rw [nm_zero]; rfl
        rw [this]
        exact ModLaws_off _ _ _ _
      · have hp := nl_pos h
        have : (((nm M).length : Int) == 0) = false := by
          unfold nl at hp
          rw [beq_eq_false_iff_ne]
          omega
        rw [this]
        exact ModLaws_on A E F M hA hE hF hM h
    · refine Ev.congr (fun k => if_neg hs1) (ModLaws_off _ _ _ _)
  · exact Ev.congr (fun k => if_neg hs) (ModLaws_off _ _ _ _)
end Go.Proofs.Ytgdkbfipjeinjaa.Pure
