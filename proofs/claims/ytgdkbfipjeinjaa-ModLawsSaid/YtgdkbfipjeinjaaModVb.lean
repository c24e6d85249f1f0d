/- Numbers that go round: inverses; which numbers are asked; sameness. -/
import Derived.Test.YtgdkbfipjeinjaaAx10
import Derived.Test.YtgdkbfipjeinjaaAx18
import Derived.Test.YtgdkbfipjeinjaaAx0
import Derived.Test.YtgdkbfipjeinjaaModVa
namespace Go.Proofs.Ytgdkbfipjeinjaa.V
open Go.RowKit Go.Proofs.Ytgdkbfipjeinjaa.A Go.Proofs.YtgdkbfipjeinjaaW.PrintWords Go.Proofs.YtgdkbfipjeinjaaW.PrintLast
set_option linter.unusedVariables false
set_option linter.unusedSimpArgs false

theorem refisM {l : List Int} (h : l.length < 140737488355328) : apostilleref7_Is.f l = some (isb l) := by
  unfold apostilleref7_Is.f isb
  by_cases h1 : l.length ≤ 256
  · rw [if_pos (by omega)]
    by_cases h2 : l.length = 0
    · rw [if_pos (by omega)]; simp [h2]
    · rw [if_neg (by omega), w64 _ (by omega) (by omega), if_pos (by omega), if_pos (by omega)]
      simp only [h1, h2, bne, decide_true, decide_false, Bool.true_and, Bool.false_or]
      congr 1
      rw [Bool.eq_iff_iff]
      simp
  · rw [if_neg (by omega)]; simp [h1]
/-- may they be, and are they not too long? -/
def sb (n : Nat) (x : List Int) : Bool := isb x && decide (x.length ≤ n)
theorem such_l0 (n : Nat) (l : List (List Int)) (hl : ∀ x ∈ l, x.length < 140737488355328) (hn : l.length < 1000) : ∀ (d i : Nat), i + d = l.length → Ev (fun k => apostillelaw8_such.l0 k (n : Int) l (i : Int)) ((l.drop i).all (sb n)) := by
  intro d
  induction d with
  | zero =>
    intro i hi
    rw [List.drop_of_length_le (by omega)]
    refine Ev.step (f := fun _ => some true) (fun k => ?_) (Ev.now _)
    simp only [apostillelaw8_such.l0]
    exact if_neg (by omega)
  | succ d ih =>
    intro i hi
    have h : i < l.length := by omega
    have e : l.drop i = l[i] :: l.drop (i + 1) := List.drop_eq_getElem_cons h
    have hx : rd_L1 l (i : Int) = l[i] := by simp [rd_L1, h]
    have hz := refisM (hl _ (List.getElem_mem h))
    have c1 : (i : Int) < (l.length : Int) := Int.ofNat_lt.mpr h
    have c2 : (0 : Int) ≤ (i : Int) := Int.natCast_nonneg _
    rw [e, List.all_cons]
    unfold sb
    by_cases h1 : isb l[i] = true
    · by_cases h2 : l[i].length ≤ n
      · refine Ev.step (fun k => ?_) (Ev.congr (f := fun k => apostillelaw8_such.l0 k (n : Int) l ((i + 1 : Nat) : Int)) (fun k => rfl) (by
          have := ih (i + 1) (by omega)
          rw [h1]
          simp only [h2, decide_true, Bool.and_self, Bool.true_and]
          exact this))
        simp only [apostillelaw8_such.l0, hx, hz, Option.bind_some]
        rw [if_pos c1, if_pos c2, if_pos h1, if_neg (by omega), wsucc i (by omega)]
      · refine Ev.step (f := fun _ => some false) (fun k => ?_) (Ev.congr (fun k => by simp [h2]) (Ev.now _))
        simp only [apostillelaw8_such.l0, hx, hz, Option.bind_some]
        rw [if_pos c1, if_pos c2, if_pos h1, if_pos (by omega)]
    · refine Ev.step (f := fun _ => some false) (fun k => ?_) (Ev.congr (fun k => by simp [h1]) (Ev.now _))
      simp only [apostillelaw8_such.l0, hx, hz, Option.bind_some]
      rw [if_pos c1, if_pos c2, if_neg h1]
theorem suchV (n : Nat) (l : List (List Int)) (hl : ∀ x ∈ l, x.length < 140737488355328) (hn : l.length < 1000) : Ev (fun k => apostillelaw8_such.f k (n : Int) l) (l.all (sb n)) := by
  have := such_l0 n l hl hn l.length 0 (by omega)
  rwa [List.drop_zero] at this
theorem sb_canon {n : Nat} {l : List Int} (hw : W l) (h : sb n l = true) : ∃ A : Nat, l = nm A ∧ nl A ≤ n := by
  unfold sb at h
  simp only [Bool.and_eq_true, decide_eq_true_eq] at h
  have hc := canon_eq (isb_canon hw h.1).1
  exact ⟨val l, hc, by unfold nl; rw [← hc]; exact h.2⟩
theorem sameV (A : Nat) (h : nl A < 40000) : Ev (fun k => apostillelaw8_same.f k (nm A) (nm A)) true := by
  unfold apostillelaw8_same.f
  refine Ev.congr (fun k => if_pos rfl) ?_
  have := refcmpV A A h
  have e : cmpv A A = 0 := if_pos rfl
  rw [e] at this
  exact Ev.bind (f := fun _ t => some (t == 0)) this (Ev.now _)
theorem mknown : Ev (fun k => apostillelaw8_known.f k) true := Ev.of (fun k => apostillelaw8_known.mono k) (k := 120) (by kernel_rfl)
theorem mknown1 : Ev (fun k => (apostillelaw8_known.f k).bind fun t => some t) true := Ev.bind (f := fun _ t => some t) mknown (Ev.now _)

/-! inverses -/
end Go.Proofs.Ytgdkbfipjeinjaa.V
