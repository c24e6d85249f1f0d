/- Numbers that go round, by their values: sums, differences, products, powers. -/
import Derived.Test.YtgdkbfipjeinjaaAx1
import Derived.Test.YtgdkbfipjeinjaaAx10
import Derived.Test.YtgdkbfipjeinjaaAx14
import Derived.Test.YtgdkbfipjeinjaaAx15
import Derived.Test.YtgdkbfipjeinjaaAx16
import Derived.Test.YtgdkbfipjeinjaaAx17
import Derived.Test.YtgdkbfipjeinjaaAx6
import Derived.Test.YtgdkbfipjeinjaaAx7
import Derived.Test.YtgdkbfipjeinjaaAx8
import Derived.Test.YtgdkbfipjeinjaaAx9
import Derived.Test.YtgdkbfipjeinjaaNatC
namespace Go.Proofs.Ytgdkbfipjeinjaa.V
open Go.RowKit Go.Proofs.Ytgdkbfipjeinjaa.A Go.Proofs.YtgdkbfipjeinjaaW.PrintWords Go.Proofs.YtgdkbfipjeinjaaW.PrintLast
set_option linter.unusedVariables false
set_option linter.unusedSimpArgs false

/-- how many digits a number has -/
def nl (A : Nat) : Nat := (nm A).length
theorem nl_le {A C : Nat} (h : A ≤ C) : nl A ≤ nl C := nm_len_lt (Nat.lt_of_le_of_lt h nm_len_le)
theorem nl_mul (A C : Nat) : nl (A * C) ≤ nl A + nl C := by
  refine nm_len_lt ?_
  rw [Nat.pow_add]
  have h1 : A < 4294967296 ^ nl A := nm_len_le
  have h2 : C < 4294967296 ^ nl C := nm_len_le
  exact Nat.mul_lt_mul_of_lt_of_le h1 (Nat.le_of_lt h2) (Nat.lt_of_le_of_lt (Nat.zero_le _) h2)
theorem nl_add (A C n : Nat) (h1 : nl A ≤ n) (h2 : nl C ≤ n) : nl (A + C) ≤ n + 1 := by
  refine nm_len_lt ?_
  have e1 : A < 4294967296 ^ n := Nat.lt_of_lt_of_le nm_len_le (Nat.pow_le_pow_right (by decide) h1)
  have e2 : C < 4294967296 ^ n := Nat.lt_of_lt_of_le nm_len_le (Nat.pow_le_pow_right (by decide) h2)
  rw [pow_succ']
  omega
theorem nl_mod (A M : Nat) (h : 0 < M) : nl (A % M) ≤ nl M := nl_le (Nat.le_of_lt (Nat.mod_lt _ h))
theorem nl_zero : nl 0 = 0 := by unfold nl; rw [nm_zero]; rfl
theorem nl_pos {M : Nat} (h : 0 < M) : 0 < nl M := by
  unfold nl
  rw [nm_pos (by omega)]
  simp
theorem nm_one : nm 1 = [1] := by rw [nm_pos (by decide), nm_zero]; rfl
theorem nm_two : nm 2 = [2] := by rw [nm_pos (by decide), nm_zero]; rfl

/-- what is left by M, or nothing by 0 -/
def mr (A M : Nat) : List Int × Bool := if M = 0 then ([], false) else (nm (A % M), true)
theorem mr_pos {A M : Nat} (h : 0 < M) : mr A M = (nm (A % M), true) := if_neg (by omega)
theorem mr_zero {A M : Nat} (h : M = 0) : mr A M = ([], false) := if_pos h
theorem divV (A M : Nat) (h1 : nl A < 100000) (h2 : nl M < 100000) (h : 0 < M) : Ev (fun k => nat_Div.f k (nm A) (nm M)) (nm (A / M), nm (A % M), true) := by
  have := divN (nm_canon A) (nm_canon M) h1 h2 (nl_pos h)
  rwa [val_nm, val_nm] at this
theorem refdivV (A M : Nat) (h1 : nl A < 100000) (h2 : nl M < 100000) (h : 0 < M) : Ev (fun k => apostilleref7_Div.f k (nm A) (nm M)) (nm (A / M), nm (A % M), true) := by
  have := refdivN (nm_canon A) (nm_canon M) h1 h2 (nl_pos h)
  rwa [val_nm, val_nm] at this
theorem restV (A M : Nat) (h1 : nl A < 100000) (h2 : nl M < 100000) : Ev (fun k => mod_rest.f k (nm A) (nm M)) (mr A M) := by
  unfold mod_rest.f
  rcases Nat.eq_zero_or_pos M with h | h
  · subst h
    exact Ev.bind (f := fun _ bt => some (bt.2.1, bt.2.2)) (div_none (a := nm A) (b := nm 0) (by rw [nm_zero]; rfl)) (Ev.now _)
  · rw [mr_pos h]
    exact Ev.bind (f := fun _ bt => some (bt.2.1, bt.2.2)) (divV A M h1 h2 h) (Ev.now _)
theorem refrestV (A M : Nat) (h1 : nl A < 100000) (h2 : nl M < 100000) : Ev (fun k => apostilleref8_Rest.f k (nm A) (nm M)) (mr A M) := by
  unfold apostilleref8_Rest.f
  rcases Nat.eq_zero_or_pos M with h | h
  · subst h
    exact Ev.bind (f := fun _ bt => some (bt.2.1, bt.2.2)) (refdiv_none (a := nm A) (b := nm 0) (by rw [nm_zero]; rfl)) (Ev.now _)
  · rw [mr_pos h]
    exact Ev.bind (f := fun _ bt => some (bt.2.1, bt.2.2)) (refdivV A M h1 h2 h) (Ev.now _)
theorem addV (A C : Nat) (h1 : nl A < 40000) (h2 : nl C < 40000) : Ev (fun k => nat_Add.f k (nm A) (nm C)) (nm (A + C)) := by
  have := addN (nm_W A) (nm_W C) (Nat.lt_trans h1 (by decide)) (Nat.lt_trans h2 (by decide))
  rwa [val_nm, val_nm] at this
theorem refaddV (A C : Nat) (h1 : nl A < 40000) (h2 : nl C < 40000) : Ev (fun k => apostilleref7_Add.f k (nm A) (nm C)) (nm (A + C)) := by
  have := refaddN (nm_W A) (nm_W C) (Nat.lt_trans h1 (by decide)) (Nat.lt_trans h2 (by decide))
  rwa [val_nm, val_nm] at this
theorem mulV (A C : Nat) (h1 : nl A < 40000) (h2 : nl C < 40000) : Ev (fun k => nat_Mul.f k (nm A) (nm C)) (nm (A * C)) := by
  have := mulN (nm_W A) (nm_W C) (Nat.lt_trans h1 (by decide)) (Nat.lt_trans h2 (by decide))
  rwa [val_nm, val_nm] at this
theorem refmulV (A C : Nat) (h1 : nl A < 40000) (h2 : nl C < 40000) : Ev (fun k => apostilleref7_Mul.f k (nm A) (nm C)) (nm (A * C)) := by
  have := refmulN (nm_W A) (nm_W C) (Nat.lt_trans h1 (by decide)) (Nat.lt_trans h2 (by decide))
  rwa [val_nm, val_nm] at this
theorem subV (A C : Nat) (h1 : nl A < 40000) : Ev (fun k => nat_Sub.f k (nm A) (nm C)) (subR A C) := by
  have := subN (nm_canon A) (nm_canon C) (Nat.lt_trans h1 (by decide))
  rwa [val_nm, val_nm] at this
theorem refsubV (A C : Nat) (h1 : nl A < 40000) : Ev (fun k => apostilleref7_Sub.f k (nm A) (nm C)) (subR A C) := by
  have := refsubN (nm_canon A) (nm_canon C) (Nat.lt_trans h1 (by decide))
  rwa [val_nm, val_nm] at this
theorem cmpV (A C : Nat) (h1 : nl A < 40000) : Ev (fun k => nat_Cmp.f k (nm A) (nm C)) (cmpv A C) := by
  have := cmpN (nm_canon A) (nm_canon C) (Nat.lt_trans h1 (by decide))
  rwa [val_nm, val_nm] at this
theorem refcmpV (A C : Nat) (h1 : nl A < 40000) : Ev (fun k => apostilleref7_Cmp.f k (nm A) (nm C)) (cmpv A C) := by
  have := refcmp (nm_canon A) (nm_canon C) (Nat.lt_trans h1 (by decide))
  rwa [val_nm, val_nm] at this

theorem mmulV (A C M : Nat) (h1 : nl A < 30000) (h2 : nl C < 30000) (h3 : nl M < 30000) : Ev (fun k => mod_Mul.f k (nm A) (nm C) (nm M)) (mr (A * C) M) := by
  unfold mod_Mul.f
  refine Ev.bind (f := fun k t => (mod_rest.f k t (nm M)).bind fun bt => some (bt.1, bt.2)) (mulV A C (by omega) (by omega)) ?_
  have := nl_mul A C
  exact Ev.bind (f := fun _ bt => some (bt.1, bt.2)) (restV (A * C) M (by omega) (by omega)) (Ev.now _)
theorem refmmulV (A C M : Nat) (h1 : nl A < 30000) (h2 : nl C < 30000) (h3 : nl M < 30000) : Ev (fun k => apostilleref8_Mul.f k (nm A) (nm C) (nm M)) (mr (A * C) M) := by
  unfold apostilleref8_Mul.f
  refine Ev.bind (f := fun k t => (apostilleref8_Rest.f k t (nm M)).bind fun bt => some (bt.1, bt.2)) (refmulV A C (by omega) (by omega)) ?_
  have := nl_mul A C
  exact Ev.bind (f := fun _ bt => some (bt.1, bt.2)) (refrestV (A * C) M (by omega) (by omega)) (Ev.now _)
/-- a difference that goes round -/
def sv (A C M : Nat) : Nat := if C % M ≤ A % M then A % M - C % M else A % M + M - C % M
def ms (A C M : Nat) : List Int × Bool := if M = 0 then ([], false) else (nm (sv A C M), true)
theorem msubV (A C M : Nat) (h1 : nl A < 30000) (h2 : nl C < 30000) (h3 : nl M < 30000) : Ev (fun k => mod_Sub.f k (nm A) (nm C) (nm M)) (ms A C M) := by
  unfold mod_Sub.f
  rcases Nat.eq_zero_or_pos M with h | h
  · refine Ev.bind (f := fun k bt455 => _) (restV A M (by omega) (by omega)) ?_
    rw [mr_zero h]
    unfold ms
    rw [if_pos h]
    exact Ev.congr (f := fun _ => some (([] : List Int), false)) (fun k => if_neg (by decide)) (Ev.now _)
  · refine Ev.bind (f := fun k bt455 => _) (restV A M (by omega) (by omega)) ?_
    rw [mr_pos h]
    refine Ev.congr (fun k => if_pos rfl) ?_
    refine Ev.bind (f := fun k bt459 => _) (restV C M (by omega) (by omega)) ?_
    rw [mr_pos h]
    have hA := nl_mod A M h
    have hC := nl_mod C M h
    refine Ev.bind (f := fun k bt463 => _) (subV (A % M) (C % M) (by omega)) ?_
    unfold ms
    rw [if_neg (by omega)]
    by_cases hc : C % M ≤ A % M
    · have e1 : subR (A % M) (C % M) = (nm (A % M - C % M), true) := if_neg (by omega)
      have e2 : sv A C M = A % M - C % M := if_pos hc
      rw [e1, e2]
      exact Ev.congr (f := fun _ => some (nm (A % M - C % M), true)) (fun k => if_pos rfl) (Ev.now _)
    · have e1 : subR (A % M) (C % M) = ([], false) := if_pos (by omega)
      have e2 : sv A C M = A % M + M - C % M := if_neg hc
      have e3 : subR (A % M + M) (C % M) = (nm (A % M + M - C % M), true) := if_neg (by have := Nat.mod_lt C h; omega)
      rw [e1, e2]
      refine Ev.congr (fun k => if_neg (by decide)) ?_
      refine Ev.bind (f := fun k t467 => _) (addV (A % M) M (by omega) (by omega)) ?_
      have hs := nl_add (A % M) M 30000 (by omega) (by omega)
      have := subV (A % M + M) (C % M) (by omega)
      rw [e3] at this
      exact Ev.bind (f := fun _ bt => some (bt.1, bt.2)) this (Ev.now _)
theorem refmsubV (A C M : Nat) (h1 : nl A < 30000) (h2 : nl C < 30000) (h3 : nl M < 30000) : Ev (fun k => apostilleref8_Sub.f k (nm A) (nm C) (nm M)) (ms A C M) := by
  unfold apostilleref8_Sub.f
  rcases Nat.eq_zero_or_pos M with h | h
  · refine Ev.bind (f := fun k bt455 => _) (refrestV A M (by omega) (by omega)) ?_
    rw [mr_zero h]
    refine Ev.bind (f := fun k bt459 => _) (refrestV C M (by omega) (by omega)) ?_
    unfold ms
    rw [mr_zero h, if_pos h]
    refine Ev.congr (fun k => if_neg (by decide)) ?_
    refine Ev.step (f := fun _ => some (([] : List Int), false)) (fun k => ?_) (Ev.now _)
    simp only [apostilleref8_Sub.j0]
    exact if_pos trivial
  · refine Ev.bind (f := fun k bt455 => _) (refrestV A M (by omega) (by omega)) ?_
    rw [mr_pos h]
    refine Ev.bind (f := fun k bt459 => _) (refrestV C M (by omega) (by omega)) ?_
    rw [mr_pos h]
    refine Ev.congr (fun k => if_pos rfl) ?_
    have hA := nl_mod A M h
    have hC := nl_mod C M h
    refine Ev.step (f := fun k => ((apostilleref7_Sub.f k (nm (A % M)) (nm (C % M))).bind fun bt572 => (if bt572.2 = true then (some (bt572.1, true)) else ((apostilleref7_Add.f k (nm (A % M)) (nm M)).bind fun t576 => ((apostilleref7_Sub.f k t576 (nm (C % M))).bind fun bt579 => (some (bt579.1, true))))))) (fun k => ?_) ?_
    · simp only [apostilleref8_Sub.j0]
      exact if_neg (by decide)
    refine Ev.bind (f := fun k bt463 => _) (refsubV (A % M) (C % M) (by omega)) ?_
    unfold ms
    rw [if_neg (by omega)]
    by_cases hc : C % M ≤ A % M
    · have e1 : subR (A % M) (C % M) = (nm (A % M - C % M), true) := if_neg (by omega)
      have e2 : sv A C M = A % M - C % M := if_pos hc
      rw [e1, e2]
      exact Ev.congr (f := fun _ => some (nm (A % M - C % M), true)) (fun k => if_pos rfl) (Ev.now _)
    · have e1 : subR (A % M) (C % M) = ([], false) := if_pos (by omega)
      have e2 : sv A C M = A % M + M - C % M := if_neg hc
      have e3 : subR (A % M + M) (C % M) = (nm (A % M + M - C % M), true) := if_neg (by have := Nat.mod_lt C h; omega)
      rw [e1, e2]
      refine Ev.congr (fun k => if_neg (by decide)) ?_
      refine Ev.bind (f := fun k t467 => _) (refaddV (A % M) M (by omega) (by omega)) ?_
      have hs := nl_add (A % M) M 30000 (by omega) (by omega)
      have := refsubV (A % M + M) (C % M) (by omega)
      rw [e3] at this
      exact Ev.bind (f := fun _ bt => some (bt.1, true)) this (Ev.now _)
theorem sv_lt (A C M : Nat) (h : 0 < M) : sv A C M < M := by
  have h1 := Nat.mod_lt A h
  have h2 := Nat.mod_lt C h
  unfold sv
  split <;> omega

/-! powers -/
end Go.Proofs.Ytgdkbfipjeinjaa.V
