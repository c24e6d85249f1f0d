/- Two paths with a stroke between are one, if not too long; with one more stroke, or dots alone, they are none. -/
import Derived.Test.YtenchfkljmodkaaDoorAx9
import Derived.Test.YtenchfkljmodkaaDoorPathA
namespace Go.Proofs.YtenchfkljmodkaaDoor.Pure
open Go.RowKit Go.Proofs.YtenchfkljmodkaaDoor.A Go.Proofs.YtenchfkljmodkaaDoor.V Go.Proofs.YtenchfkljmodkaaDoorW.PrintWords Go.Proofs.YtenchfkljmodkaaDoorW.PrintLast
set_option linter.unusedVariables false
set_option linter.unusedSimpArgs false

theorem isL_len {a : List UInt8} (h : isL a = true) : a.length ≤ 32 ∧ (pts [] a).all okp = true := by
  unfold isL at h
  simpa using h
theorem isL_join (a b : List UInt8) (ha : isL a = true) (hb : isL b = true) : isL (a ++ 47 :: b) = decide (a.length + b.length + 1 ≤ 32) := by
  unfold isL
  rw [pts_cut, List.all_append, (isL_len ha).2, (isL_len hb).2, List.length_append, List.length_cons]
  simp [Nat.add_assoc]
theorem isL_bad (a b : List UInt8) (m : List UInt8) (hm : (pts [] m).all okp = false) : isL (a ++ 47 :: (m ++ 47 :: b)) = false := by
  unfold isL
  rw [pts_cut, pts_cut, List.all_append, List.all_append, hm]
  simp
theorem isL_head (a : List UInt8) : isL (47 :: a) = false := by
  unfold isL
  have e : pts [] (47 :: a) = [] :: pts [] a := by simp [pts]
  rw [e, List.all_cons]
  have : okp [] = false := by decide
  rw [this]
  simp
theorem isL_tail (a : List UInt8) : isL (a ++ [47]) = false := by
  unfold isL
  have e : pts [] (a ++ 47 :: []) = pts [] a ++ pts [] [] := pts_cut [] a []
  rw [e, List.all_append]
  have : (pts [] ([] : List UInt8)).all okp = false := by decide
  rw [this]
  simp
theorem PathJoins_on (x y : ByteArray) (hx : isL (dat x) = true) (hy : isL (dat y) = true) : Ev (fun k => apostillelaw21_PathJoins.j0 k x y false) true := by
  have lx : x.size ≤ 32 := by have := (isL_len hx).1; have e : (dat x).length = x.size := dl x; omega
  have ly : y.size ≤ 32 := by have := (isL_len hy).1; have e : (dat y).length = y.size := dl y; omega
  have sz : ∀ m : ByteArray, (x ++ m).size = x.size + m.size := fun m => ByteArray.size_append
  have s1 : (⟨#[47]⟩ : ByteArray).size = 1 := rfl
  have s2 : (⟨#[47, 47]⟩ : ByteArray).size = 2 := rfl
  have s3 : (⟨#[47, 46, 47]⟩ : ByteArray).size = 3 := rfl
  have s4 : (⟨#[47, 46, 46, 47]⟩ : ByteArray).size = 4 := rfl
  have c0 : x.size + 1 ≤ 9223372036854775807 := by omega
  have c1 : (x ++ (⟨#[47]⟩ : ByteArray)).size + y.size ≤ 9223372036854775807 := by rw [sz, s1]; omega
  have c2 : x.size + 2 ≤ 9223372036854775807 := by omega
  have c3 : (x ++ (⟨#[47, 47]⟩ : ByteArray)).size + y.size ≤ 9223372036854775807 := by rw [sz, s2]; omega
  have c4 : x.size + 3 ≤ 9223372036854775807 := by omega
  have c5 : (x ++ (⟨#[47, 46, 47]⟩ : ByteArray)).size + y.size ≤ 9223372036854775807 := by rw [sz, s3]; omega
  have c6 : x.size + 4 ≤ 9223372036854775807 := by omega
  have c7 : (x ++ (⟨#[47, 46, 46, 47]⟩ : ByteArray)).size + y.size ≤ 9223372036854775807 := by rw [sz, s4]; omega
  have c8 : 1 + x.size ≤ 9223372036854775807 := by omega
  have w : wrap64 (wrap64 ((x.size : Int) + (y.size : Int)) + 1) = ((x.size + y.size + 1 : Nat) : Int) := by
    clear c0 c1 c2 c3 c4 c5 c6 c7 c8 sz s1 s2 s3 s4
    rw [pw64 ((x.size : Int) + (y.size : Int)) (by omega) (by omega), pw64 _ (by omega) (by omega)]
    omega
  have d1 : dat ((x ++ (⟨#[47]⟩ : ByteArray)) ++ y) = dat x ++ 47 :: dat y := by unfold dat; rw [da, da, List.append_assoc]; rfl
  have d2 : dat ((x ++ (⟨#[47, 47]⟩ : ByteArray)) ++ y) = dat x ++ 47 :: ([] ++ 47 :: dat y) := by unfold dat; rw [da, da, List.append_assoc]; rfl
  have d3 : dat ((x ++ (⟨#[47, 46, 47]⟩ : ByteArray)) ++ y) = dat x ++ 47 :: ([46] ++ 47 :: dat y) := by unfold dat; rw [da, da, List.append_assoc]; rfl
  have d4 : dat ((x ++ (⟨#[47, 46, 46, 47]⟩ : ByteArray)) ++ y) = dat x ++ 47 :: ([46, 46] ++ 47 :: dat y) := by unfold dat; rw [da, da, List.append_assoc]; rfl
  have d5 : dat ((⟨#[47]⟩ : ByteArray) ++ x) = 47 :: dat x := by show ((⟨#[47]⟩ : ByteArray) ++ x).data.toList = _; exact da _ _
  have d6 : dat (x ++ (⟨#[47]⟩ : ByteArray)) = dat x ++ [47] := da _ _
  have e1 := isV' ((x ++ (⟨#[47]⟩ : ByteArray)) ++ y) (decide ((dat x).length + (dat y).length + 1 ≤ 32)) (by rw [d1]; exact isL_join _ _ hx hy)
  have e2 := isV' ((x ++ (⟨#[47, 47]⟩ : ByteArray)) ++ y) false (by rw [d2]; exact isL_bad _ _ _ (by decide))
  have e3 := isV' ((x ++ (⟨#[47, 46, 47]⟩ : ByteArray)) ++ y) false (by rw [d3]; exact isL_bad _ _ _ (by decide))
  have e4 := isV' ((x ++ (⟨#[47, 46, 46, 47]⟩ : ByteArray)) ++ y) false (by rw [d4]; exact isL_bad _ _ _ (by decide))
  have e5 := isV' ((⟨#[47]⟩ : ByteArray) ++ x) false (by rw [d5]; exact isL_head _)
  have e6 := isV' (x ++ (⟨#[47]⟩ : ByteArray)) false (by rw [d6]; exact isL_tail _)
  have lx2 : (dat x).length = x.size := dl x
  have ly2 : (dat y).length = y.size := dl y
  rw [lx2, ly2] at e1
  have hne : (decide (x.size + y.size + 1 ≤ 32) != decide ((((x.size + y.size + 1 : Nat)) : Int) > 32)) = true := by
    clear e1 e2 e3 e4 e5 e6 w
    by_cases h : x.size + y.size + 1 ≤ 32
    · rw [decide_eq_true h, decide_eq_false (by omega)]; rfl
    · rw [decide_eq_false h, decide_eq_true (by omega)]; rfl
  refine Ev.step (f := fun k => _) (fun k => by
    rw [apostillelaw21_PathJoins.j0, if_neg Bool.false_ne_true, if_pos c0, if_pos c1, w]) ?_
  refine Ev.bind (a := decide (x.size + y.size + 1 ≤ 32)) (f := fun k t160 => _) e1 ?_
  refine Ev.congr (fun k => if_pos hne) ?_
  refine Ev.congr (fun k => if_pos c2) ?_
  refine Ev.congr (fun k => if_pos c3) ?_
  refine Ev.bind (a := false) (f := fun k t161 => _) e2 ?_
  refine Ev.congr (fun k => if_neg (by decide)) ?_
  refine Ev.congr (fun k => if_pos c4) ?_
  refine Ev.congr (fun k => if_pos c5) ?_
  refine Ev.bind (a := false) (f := fun k t162 => _) e3 ?_
  refine Ev.congr (fun k => if_neg (by decide)) ?_
  refine Ev.congr (fun k => if_pos c6) ?_
  refine Ev.congr (fun k => if_pos c7) ?_
  refine Ev.bind (a := false) (f := fun k t163 => _) e4 ?_
  refine Ev.congr (fun k => if_neg (by decide)) ?_
  refine Ev.congr (fun k => if_pos c8) ?_
  refine Ev.bind (a := false) (f := fun k t164 => _) e5 ?_
  refine Ev.congr (fun k => if_neg (by decide)) ?_
  refine Ev.bind (a := false) (f := fun k t165 => _) e6 ?_
  refine Ev.congr (fun k => if_neg (by decide)) ?_
  exact pknown1
theorem PathJoins_off (x y : ByteArray) : Ev (fun k => apostillelaw21_PathJoins.j0 k x y true) true := by
  refine Ev.step (f := fun _ => some true) (fun k => ?_) (Ev.now _)
  rw [apostillelaw21_PathJoins.j0, if_pos rfl]
theorem PathJoins : apostillelaw21_PathJoins.Pure := by
  intro x y _ _
  refine Ev.rounds ?_
  unfold apostillelaw21_PathJoins.f
  refine Ev.bind (a := isL (dat x)) (f := fun k t158 => _) (refisAll x) ?_
  cases hx : isL (dat x) with
  | false => exact Ev.congr (fun k => if_neg (by simp)) (PathJoins_off x y)
  | true =>
    refine Ev.congr (fun k => if_pos rfl) ?_
    refine Ev.bind (a := isL (dat y)) (f := fun k t159 => _) (refisAll y) ?_
    cases hy : isL (dat y) with
    | false => exact PathJoins_off x y
    | true => exact PathJoins_on x y hx hy
end Go.Proofs.YtenchfkljmodkaaDoor.Pure
