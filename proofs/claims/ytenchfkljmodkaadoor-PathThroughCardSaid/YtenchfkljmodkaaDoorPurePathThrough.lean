/- None is another one with more behind; the same twice is none; in which order two stand does not matter. -/
import Derived.Test.YtenchfkljmodkaaDoorAx9
import Derived.Test.YtenchfkljmodkaaDoorPurePathJoins
namespace Go.Proofs.YtenchfkljmodkaaDoor.Pure
open Go.RowKit Go.Proofs.YtenchfkljmodkaaDoor.A Go.Proofs.YtenchfkljmodkaaDoor.V Go.Proofs.YtenchfkljmodkaaDoorW.PrintWords Go.Proofs.YtenchfkljmodkaaDoorW.PrintLast
set_option linter.unusedVariables false
set_option linter.unusedSimpArgs false

theorem clash_more (a b : List UInt8) : clash a (a ++ 47 :: b) = true := by
  unfold clash
  have e : (a ++ 47 :: b).take (a.length + 1) = a ++ [47] := by
    have : a ++ 47 :: b = (a ++ [47]) ++ b := by rw [List.append_assoc]; rfl
    rw [this, List.take_append_of_le_length (by simp), List.take_of_length_le (by simp)]
  rw [decide_eq_true e, Bool.or_true]
theorem clash_self (a : List UInt8) : clash a a = true := by unfold clash; simp
theorem all_two (a b : List UInt8) : allL [a, b] = (isL a && (!clash a b && (isL b && !clash b a))) := by
  simp [allL, outA, inn]
theorem all_one (a : List UInt8) : allL [a] = isL a := by simp [allL, outA, inn]
theorem PathThrough_on (x y : ByteArray) (hx : isL (dat x) = true) (hy : isL (dat y) = true) (hl : x.size + y.size ≤ 31) : Ev (fun k => apostillelaw21_PathThrough.j0 k x y false) true := by
  have sz : (x ++ (⟨#[47]⟩ : ByteArray)).size = x.size + 1 := ByteArray.size_append
  have sz2 : ((x ++ (⟨#[47]⟩ : ByteArray)) ++ y).size = x.size + 1 + y.size := by rw [ByteArray.size_append, sz]
  have c0 : x.size + 1 ≤ 9223372036854775807 := by omega
  have c1 : (x ++ (⟨#[47]⟩ : ByteArray)).size + y.size ≤ 9223372036854775807 := by rw [sz]; omega
  have d1 : dat ((x ++ (⟨#[47]⟩ : ByteArray)) ++ y) = dat x ++ 47 :: dat y := by unfold dat; rw [da, da, List.append_assoc]; rfl
  have n1 : x.size < 1000000000000 := by omega
  have n2 : y.size < 1000000000000 := by omega
  have n3 : ((x ++ (⟨#[47]⟩ : ByteArray)) ++ y).size < 1000000000000 := by rw [sz2]; omega
  have m1 : x.size < 1000000 := by omega
  have m2 : y.size < 1000000 := by omega
  have jl : (dat x).length + (dat y).length + 1 ≤ 32 := by
    have e1 : (dat x).length = x.size := dl x
    have e2 : (dat y).length = y.size := dl y
    omega
  generalize hz : (x ++ (⟨#[47]⟩ : ByteArray)) ++ y = z at *
  have hzL : isL (dat z) = true := by rw [d1, isL_join _ _ hx hy]; exact decide_eq_true jl
  have e1 := allV' [x, z] false (by simp) (mem2 n1 n3) (by
    show allL [dat x, dat z] = false
    rw [all_two, d1, clash_more]; simp)
  have e2 := allV' [z, x] false (by simp) (mem2 n3 n1) (by
    show allL [dat z, dat x] = false
    rw [all_two, d1, clash_more]; simp)
  have e3 := allV' [x, x] false (by simp) (mem2 n1 n1) (by
    show allL [dat x, dat x] = false
    rw [all_two, clash_self]; simp)
  have e4 := allV' [z] true (by simp) (mem1 n3) (by
    show allL [dat z] = true
    rw [all_one]; exact hzL)
  have e5 := allV' [x, y] _ (by simp) (mem2 n1 n2) rfl
  have e6 := allV' [y, x] (allL [dat x, dat y]) (by simp) (mem2 n2 n1) (by
    show allL [dat y, dat x] = _
    rw [all_two, all_two, hx, hy, Bool.true_and, Bool.true_and, Bool.true_and, Bool.true_and, Bool.and_comm])
  have e7 := refallV [x, y] (by simp) (mem2 m1 m2)
  have e8 : allL ([x, y].map dat) = allL [dat x, dat y] := rfl
  rw [e8] at e5 e7
  generalize allL [dat x, dat y] = v at *
  refine Ev.step (f := fun k => _) (fun k => by
    rw [apostillelaw21_PathThrough.j0, if_neg Bool.false_ne_true, if_pos c0, if_pos c1, hz]) ?_
  refine Ev.bind (a := false) (f := fun k t172 => _) e1 ?_
  refine Ev.congr (fun k => if_neg (by decide)) ?_
  refine Ev.bind (a := false) (f := fun k t176 => _) e2 ?_
  refine Ev.congr (fun k => if_neg (by decide)) ?_
  refine Ev.bind (a := false) (f := fun k t180 => _) e3 ?_
  refine Ev.congr (fun k => if_neg (by decide)) ?_
  refine Ev.bind (a := true) (f := fun k t184 => _) e4 ?_
  refine Ev.congr (fun k => if_pos rfl) ?_
  refine Ev.bind (a := v) (f := fun k t188 => _) e5 ?_
  refine Ev.bind (a := v) (f := fun k t192 => _) e6 ?_
  refine Ev.congr (fun k => if_pos (by simp)) ?_
  refine Ev.bind (a := v) (f := fun k t196 => _) e5 ?_
  refine Ev.bind (a := v) (f := fun k t200 => _) e7 ?_
  refine Ev.congr (fun k => if_pos (by simp)) ?_
  exact pknown1
theorem PathThrough_off (x y : ByteArray) : Ev (fun k => apostillelaw21_PathThrough.j0 k x y true) true := by
  refine Ev.step (f := fun _ => some true) (fun k => ?_) (Ev.now _)
  rw [apostillelaw21_PathThrough.j0, if_pos rfl]
theorem PathThrough : apostillelaw21_PathThrough.Pure := by
  intro x y hx0 hy0
  refine Ev.rounds ?_
  unfold apostillelaw21_PathThrough.f
  have w : wrap64 ((x.size : Int) + (y.size : Int)) = ((x.size + y.size : Nat) : Int) := by rw [pw64 _ (by omega) (by omega)]; omega
  rw [w]
  refine Ev.bind (a := isL (dat x)) (f := fun k t167 => _) (refisAll x) ?_
  cases hx : isL (dat x) with
  | false => exact Ev.congr (fun k => if_neg (by simp)) (PathThrough_off x y)
  | true =>
    refine Ev.congr (fun k => if_pos rfl) ?_
    refine Ev.bind (a := isL (dat y)) (f := fun k t168 => _) (refisAll y) ?_
    cases hy : isL (dat y) with
    | false => exact Ev.congr (fun k => if_neg (by simp)) (PathThrough_off x y)
    | true =>
      refine Ev.congr (fun k => if_pos rfl) ?_
      clear w
      by_cases h : x.size + y.size ≤ 31
      · have c : decide ((((x.size + y.size : Nat)) : Int) > 31) = false := decide_eq_false (by omega)
        rw [c]
        exact PathThrough_on x y hx hy h
      · have c : decide ((((x.size + y.size : Nat)) : Int) > 31) = true := decide_eq_true (by omega)
        rw [c]
        exact PathThrough_off x y
end Go.Proofs.YtenchfkljmodkaaDoor.Pure
