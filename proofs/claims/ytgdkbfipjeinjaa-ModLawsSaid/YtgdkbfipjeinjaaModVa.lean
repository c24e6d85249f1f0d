/- Numbers that go round, by their values: sums, differences, products, powers. -/
import Derived.Test.YtgdkbfipjeinjaaAx10
import Derived.Test.YtgdkbfipjeinjaaAx14
import Derived.Test.YtgdkbfipjeinjaaAx15
import Derived.Test.YtgdkbfipjeinjaaAx16
import Derived.Test.YtgdkbfipjeinjaaAx6
import Derived.Test.YtgdkbfipjeinjaaAx7
import Derived.Test.YtgdkbfipjeinjaaAx8
import Derived.Test.YtgdkbfipjeinjaaAx9
import Derived.Test.YtgdkbfipjeinjaaAx0
import Derived.Test.YtgdkbfipjeinjaaNatC
namespace Go.Proofs.Ytgdkbfipjeinjaa.V
open Go.RowKit Go.Proofs.Ytgdkbfipjeinjaa.A Go.Proofs.YtgdkbfipjeinjaaW.PrintWords Go.Proofs.YtgdkbfipjeinjaaW.PrintLast
set_option linter.unusedVariables false
set_option linter.unusedSimpArgs false

/-- how many digits a number has -/
def nl (A : Nat) : Nat := (nm A).length
theorem nl_le {A C : Nat} (h : A ≤ C) : nl A ≤ nl C := nm_len_lt (Nat.lt_of_le_of_lt h nm_len_le)
theorem nl_mul (A C : Nat) : nl (A * C) ≤ nl A + nl C := by
  refine nm_len_lt ?_
  rw [Nat.pow_add]
  have h1 : A < 4294967296 ^ nl A := nm_len_le
  have h2 : C < 4294967296 ^ nl C := nm_len_le
  exact Nat.mul_lt_mul_of_lt_of_le h1 (Nat.le_of_lt h2) (Nat.lt_of_le_of_lt (Nat.zero_le _) h2)
theorem nl_add (A C n : Nat) (h1 : nl A ≤ n) (h2 : nl C ≤ n) : nl (A + C) ≤ n + 1 := by
  refine nm_len_lt ?_
  have e1 : A < 4294967296 ^ n := Nat.lt_of_lt_of_le nm_len_le (Nat.pow_le_pow_right (by decide) h1)
  have e2 : C < 4294967296 ^ n := Nat.lt_of_lt_of_le nm_len_le (Nat.pow_le_pow_right (by decide) h2)
  rw [pow_succ']
  omega
theorem nl_mod (A M : Nat) (h : 0 < M) : nl (A % M) ≤ nl M := nl_le (Nat.le_of_lt (Nat.mod_lt _ h))
theorem nl_pos {M : Nat} (h : 0 < M) : 0 < nl M := by
  unfold nl
  rw [nm_pos (by omega)]
  simp
theorem nm_one : nm 1 = [1] := by rw [nm_pos (by decide), nm_zero]; rfl
/-- what is left by M, or nothing by 0 -/
def mr (A M : Nat) : List Int × Bool := if M = 0 then ([], false) else (nm (A % M), true)
theorem mr_pos {A M : Nat} (h : 0 < M) : mr A M = (nm (A % M), true) := if_neg (by omega)
theorem mr_zero {A M : Nat} (h : M = 0) : mr A M = ([], false) := if_pos h
theorem divV (A M : Nat) (h1 : nl A < 100000) (h2 : nl M < 100000) (h : 0 < M) : Ev (fun k => nat_Div.f k (nm A) (nm M)) (nm (A / M), nm (A % M), true) := by
  have := divN (nm_canon A) (nm_canon M) h1 h2 (nl_pos h)
  rwa [val_nm, val_nm] at this
theorem refdivV (A M : Nat) (h1 : nl A < 100000) (h2 : nl M < 100000) (h : 0 < M) : Ev (fun k => apostilleref7_Div.f k (nm A) (nm M)) (nm (A / M), nm (A % M), true) := by
  have := refdivN (nm_canon A) (nm_canon M) h1 h2 (nl_pos h)
  rwa [val_nm, val_nm] at this
theorem restV (A M : Nat) (h1 : nl A < 100000) (h2 : nl M < 100000) : Ev (fun k => mod_rest.f k (nm A) (nm M)) (mr A M) := by
  unfold mod_rest.f
  rcases Nat.eq_zero_or_pos M with h | h
  · subst h
    exact Ev.bind (f := fun _ bt => some (bt.2.1, bt.2.2)) (div_none (a := nm A) (b := nm 0) (by rw [nm_zero]; rfl)) (Ev.now _)
  · rw [mr_pos h]
    exact Ev.bind (f := fun _ bt => some (bt.2.1, bt.2.2)) (divV A M h1 h2 h) (Ev.now _)
theorem refrestV (A M : Nat) (h1 : nl A < 100000) (h2 : nl M < 100000) : Ev (fun k => apostilleref8_Rest.f k (nm A) (nm M)) (mr A M) := by
  unfold apostilleref8_Rest.f
  rcases Nat.eq_zero_or_pos M with h | h
  · subst h
    exact Ev.bind (f := fun _ bt => some (bt.2.1, bt.2.2)) (refdiv_none (a := nm A) (b := nm 0) (by rw [nm_zero]; rfl)) (Ev.now _)
  · rw [mr_pos h]
    exact Ev.bind (f := fun _ bt => some (bt.2.1, bt.2.2)) (refdivV A M h1 h2 h) (Ev.now _)
theorem addV (A C : Nat) (h1 : nl A < 40000) (h2 : nl C < 40000) : Ev (fun k => nat_Add.f k (nm A) (nm C)) (nm (A + C)) := by
  have := addN (nm_W A) (nm_W C) (Nat.lt_trans h1 (by decide)) (Nat.lt_trans h2 (by decide))
  rwa [val_nm, val_nm] at this
theorem refaddV (A C : Nat) (h1 : nl A < 40000) (h2 : nl C < 40000) : Ev (fun k => apostilleref7_Add.f k (nm A) (nm C)) (nm (A + C)) := by
  have := refaddN (nm_W A) (nm_W C) (Nat.lt_trans h1 (by decide)) (Nat.lt_trans h2 (by decide))
  rwa [val_nm, val_nm] at this
theorem mulV (A C : Nat) (h1 : nl A < 40000) (h2 : nl C < 40000) : Ev (fun k => nat_Mul.f k (nm A) (nm C)) (nm (A * C)) := by
  have := mulN (nm_W A) (nm_W C) (Nat.lt_trans h1 (by decide)) (Nat.lt_trans h2 (by decide))
  rwa [val_nm, val_nm] at this
theorem subV (A C : Nat) (h1 : nl A < 40000) : Ev (fun k => nat_Sub.f k (nm A) (nm C)) (subR A C) := by
  have := subN (nm_canon A) (nm_canon C) (Nat.lt_trans h1 (by decide))
  rwa [val_nm, val_nm] at this
theorem refcmpV (A C : Nat) (h1 : nl A < 40000) : Ev (fun k => apostilleref7_Cmp.f k (nm A) (nm C)) (cmpv A C) := by
  have := refcmp (nm_canon A) (nm_canon C) (Nat.lt_trans h1 (by decide))
  rwa [val_nm, val_nm] at this

theorem maddV (A C M : Nat) (h1 : nl A < 30000) (h2 : nl C < 30000) (h3 : nl M < 30000) : Ev (fun k => mod_Add.f k (nm A) (nm C) (nm M)) (mr (A + C) M) := by
  unfold mod_Add.f
  refine Ev.bind (f := fun k t => (mod_rest.f k t (nm M)).bind fun bt => some (bt.1, bt.2)) (addV A C (by omega) (by omega)) ?_
  have := nl_add A C 30000 (by omega) (by omega)
  exact Ev.bind (f := fun _ bt => some (bt.1, bt.2)) (restV (A + C) M (by omega) (by omega)) (Ev.now _)
theorem mmulV (A C M : Nat) (h1 : nl A < 30000) (h2 : nl C < 30000) (h3 : nl M < 30000) : Ev (fun k => mod_Mul.f k (nm A) (nm C) (nm M)) (mr (A * C) M) := by
  unfold mod_Mul.f
  refine Ev.bind (f := fun k t => (mod_rest.f k t (nm M)).bind fun bt => some (bt.1, bt.2)) (mulV A C (by omega) (by omega)) ?_
  have := nl_mul A C
  exact Ev.bind (f := fun _ bt => some (bt.1, bt.2)) (restV (A * C) M (by omega) (by omega)) (Ev.now _)
/-- a difference that goes round -/
def sv (A C M : Nat) : Nat := if C % M ≤ A % M then A % M - C % M else A % M + M - C % M
def ms (A C M : Nat) : List Int × Bool := if M = 0 then ([], false) else (nm (sv A C M), true)
theorem msubV (A C M : Nat) (h1 : nl A < 30000) (h2 : nl C < 30000) (h3 : nl M < 30000) : Ev (fun k => mod_Sub.f k (nm A) (nm C) (nm M)) (ms A C M) := by
  unfold mod_Sub.f
  rcases Nat.eq_zero_or_pos M with h | h
  · refine Ev.bind (f := fun k bt455 => _) (restV A M (by omega) (by omega)) ?_
    rw [mr_zero h]
    unfold ms
    rw [if_pos h]
    exact Ev.congr (f := fun _ => some (([] : List Int), false)) (fun k => if_neg (by decide)) (Ev.now _)
  · refine Ev.bind (f := fun k bt455 => _) (restV A M (by omega) (by omega)) ?_
    rw [mr_pos h]
    refine Ev.congr (fun k => if_pos rfl) ?_
    refine Ev.bind (f := fun k bt459 => _) (restV C M (by omega) (by omega)) ?_
    rw [mr_pos h]
    have hA := nl_mod A M h
    have hC := nl_mod C M h
    refine Ev.bind (f := fun k bt463 => _) (subV (A % M) (C % M) (by omega)) ?_
    unfold ms
    rw [if_neg (by omega)]
    by_cases hc : C % M ≤ A % M
    · have e1 : subR (A % M) (C % M) = (nm (A % M - C % M), true) := if_neg (by omega)
      have e2 : sv A C M = A % M - C % M := if_pos hc
      rw [e1, e2]
      exact Ev.congr (f := fun _ => some (nm (A % M - C % M), true)) (fun k => if_pos rfl) (Ev.now _)
    · have e1 : subR (A % M) (C % M) = ([], false) := if_pos (by omega)
      have e2 : sv A C M = A % M + M - C % M := if_neg hc
      have e3 : subR (A % M + M) (C % M) = (nm (A % M + M - C % M), true) := if_neg (by have := Nat.mod_lt C h; omega)
      rw [e1, e2]
      refine Ev.congr (fun k => if_neg (by decide)) ?_
      refine Ev.bind (f := fun k t467 => _) (addV (A % M) M (by omega) (by omega)) ?_
      have hs := nl_add (A % M) M 30000 (by omega) (by omega)
      have := subV (A % M + M) (C % M) (by omega)
      rw [e3] at this
      exact Ev.bind (f := fun _ bt => some (bt.1, bt.2)) this (Ev.now _)
/-! powers -/
theorem bit_of (V i : Nat) : V / 4294967296 ^ (i / 32) % 4294967296 / 2 ^ (i % 32) % 2 = V / 2 ^ i % 2 := by
  have e : (4294967296 : Nat) ^ (i / 32) = 2 ^ (32 * (i / 32)) := by rw [Nat.pow_mul]
  have h1 : ∀ Z r : Nat, r < 32 → Z % 4294967296 / 2 ^ r % 2 = Z / 2 ^ r % 2 := by
    intro Z r hr
    have a := Nat.testBit_mod_two_pow Z 32 r
    rw [Nat.testBit_eq_decide_div_mod_eq, Nat.testBit_eq_decide_div_mod_eq] at a
    have e32 : (2 : Nat) ^ 32 = 4294967296 := by decide
    rw [e32] at a
    simp only [hr, decide_true, Bool.true_and, decide_eq_decide] at a
    generalize Z % 4294967296 / 2 ^ r = x at a ⊢
    generalize Z / 2 ^ r = y at a ⊢
    omega
  rw [h1 _ _ (Nat.mod_lt _ (by decide)), e, Nat.div_div_eq_div_mul, ← Nat.pow_add, Nat.div_add_mod]
theorem ex_bit (e i : Nat) (hi : i / 32 < nl e) :
    (Go.bits .and .u32 (shr .u32 (rd (nm e) ((i / 32 : Nat) : Int)) ((i % 32 : Nat) : Int)) 1 = 1) = (e / 2 ^ i % 2 = 1) := by
  have h1 := dg_lt (nm_W e) (i / 32)
  have e1 : shr .u32 ((dg (nm e) (i / 32) : Nat) : Int) ((i % 32 : Nat) : Int) = ((dg (nm e) (i / 32) / 2 ^ (i % 32) : Nat) : Int) := (back_ar (dg (nm e) (i / 32)) 0 (i % 32) h1 (by decide) (Nat.mod_lt _ (by decide))).1
  have h2 : dg (nm e) (i / 32) / 2 ^ (i % 32) < 4294967296 := Nat.lt_of_le_of_lt (Nat.div_le_self _ _) h1
  have e2 : Go.bits .and .u32 ((dg (nm e) (i / 32) / 2 ^ (i % 32) : Nat) : Int) 1 = ((dg (nm e) (i / 32) / 2 ^ (i % 32) % 2 : Nat) : Int) := by
    have := u32_and_nat (dg (nm e) (i / 32) / 2 ^ (i % 32)) 1 h2 (by decide)
    rw [Nat.and_one_is_mod] at this
    exact this
  rw [rd_dg (nm_W e), e1, e2, dg_val (nm_W e), val_nm, bit_of]
  have h3 := Nat.mod_lt (e / 2 ^ i) (show 0 < 2 by decide)
  generalize e / 2 ^ i % 2 = z at h3 ⊢
  apply propext
  omega
theorem half (e i : Nat) : e / 2 ^ i = 2 * (e / 2 ^ (i + 1)) + e / 2 ^ i % 2 := by
  rw [Nat.pow_succ, ← Nat.div_div_eq_div_mul]
  exact (Nat.div_add_mod _ _).symm
theorem pow_two_mod (a x m : Nat) : (a ^ x % m) * (a ^ x % m) % m = a ^ (2 * x) % m := by rw [← Nat.mul_mod, ← Nat.pow_add, Nat.two_mul]
theorem pow_succ_mod (a x m : Nat) : (a ^ x % m) * a % m = a ^ (x + 1) % m := by rw [Nat.pow_succ, Nat.mul_mod, Nat.mod_mod, ← Nat.mul_mod]
theorem bl_nl (e i : Nat) (h : i < bl e) : i / 32 < nl e := by
  have h1 : bl e ≤ 32 * nl e := by
    rw [bl_le, Nat.pow_mul]
    exact nm_len_le
  omega
theorem mexp_l0 (a e m : Nat) (hm : 0 < m) (h1 : nl a < 30000) (h2 : nl e < 30000) (h3 : nl m < 30000) : ∀ p : Nat, p ≤ bl e →
    Ev (fun k => mod_Exp.l0 k (nm a) (nm e) (nm m) (nm (a ^ (e / 2 ^ p) % m)) ((p : Int) - 1)) (nm (a ^ e % m), true) := by
  have hb : bl e ≤ 32 * nl e := by
    rw [bl_le, Nat.pow_mul]
    exact nm_len_le
  intro p
  induction p with
  | zero =>
    intro hp
    rw [Nat.pow_zero, Nat.div_one]
    refine Ev.step (f := fun _ => some (nm (a ^ e % m), true)) (fun k => ?_) (Ev.now _)
    simp only [mod_Exp.l0]
    exact if_neg (by decide)
  | succ i ih =>
    intro hp
    have w : ((i + 1 : Nat) : Int) - 1 = (i : Int) := by omega
    have hi := bl_nl e i (by omega)
    have c1 : (i : Int) ≥ 0 := Int.natCast_nonneg _
    have d1 : Int.tdiv (i : Int) 32 = ((i / 32 : Nat) : Int) := rfl
    have d2 : Int.tmod (i : Int) 32 = ((i % 32 : Nat) : Int) := rfl
    have w1 : wrap64 ((i / 32 : Nat) : Int) = ((i / 32 : Nat) : Int) := w64 _ (by omega) (by omega)
    have w2 : wrap64 ((i : Int) - 1) = (i : Int) - 1 := by clear w1; exact w64 _ (by omega) (by omega)
    have c2 : (0 : Int) ≤ ((i / 32 : Nat) : Int) := Int.natCast_nonneg _
    have c3 : ((i / 32 : Nat) : Int) < ((nm e).length : Int) := Int.ofNat_lt.mpr hi
    have c4 : (0 : Int) ≤ ((i % 32 : Nat) : Int) := Int.natCast_nonneg _
    have hx := nl_mod (a ^ (e / 2 ^ (i + 1))) m hm
    have hy := nl_mod (a ^ (2 * (e / 2 ^ (i + 1)))) m hm
    have ih' := ih (by omega)
    have hh := half e i
    refine Ev.step (f := fun k => (mod_Mul.f k (nm (a ^ (e / 2 ^ (i + 1)) % m)) (nm (a ^ (e / 2 ^ (i + 1)) % m)) (nm m)).bind fun bt => if e / 2 ^ i % 2 = 1 then (mod_Mul.f k bt.1 (nm a) (nm m)).bind fun bt2 => mod_Exp.l0 k (nm a) (nm e) (nm m) bt2.1 ((i : Int) - 1) else mod_Exp.l0 k (nm a) (nm e) (nm m) bt.1 ((i : Int) - 1)) (fun k => ?_) ?_
    · simp only [mod_Exp.l0, w, d1, d2, w1, w2]
      rw [if_pos c1]
      simp only [if_pos c2, if_pos c3, if_pos c4, ex_bit e i hi]
    · have m1 := mmulV (a ^ (e / 2 ^ (i + 1)) % m) (a ^ (e / 2 ^ (i + 1)) % m) m (by clear w1 w2; omega) (by clear w1 w2; omega) h3
      rw [mr_pos hm, pow_two_mod] at m1
      refine Ev.bind (f := fun k bt => if e / 2 ^ i % 2 = 1 then (mod_Mul.f k bt.1 (nm a) (nm m)).bind fun bt2 => mod_Exp.l0 k (nm a) (nm e) (nm m) bt2.1 ((i : Int) - 1) else mod_Exp.l0 k (nm a) (nm e) (nm m) bt.1 ((i : Int) - 1)) m1 ?_
      by_cases hbit : e / 2 ^ i % 2 = 1
      · refine Ev.congr (fun k => if_pos hbit) ?_
        have m2 := mmulV (a ^ (2 * (e / 2 ^ (i + 1))) % m) a m (by clear w1 w2; omega) h1 h3
        rw [mr_pos hm, pow_succ_mod] at m2
        rw [hbit] at hh
        rw [hh] at ih'
        exact Ev.bind (f := fun k bt2 => mod_Exp.l0 k (nm a) (nm e) (nm m) bt2.1 ((i : Int) - 1)) m2 ih'
      · refine Ev.congr (fun k => if_neg hbit) ?_
        have h0 : e / 2 ^ i % 2 = 0 := by
          have := Nat.mod_lt (e / 2 ^ i) (show 0 < 2 by decide)
          omega
        rw [h0, Nat.add_zero] at hh
        rw [hh] at ih'
        exact ih'
/-- a power that goes round, or nothing by 0 -/
theorem mexpV (a e m : Nat) (h1 : nl a < 30000) (h2 : nl e < 30000) (h3 : nl m < 30000) : Ev (fun k => mod_Exp.f k (nm a) (nm e) (nm m)) (mr (a ^ e) m) := by
  unfold mod_Exp.f
  rw [← nm_one]
  have n1 : nl 1 < 100000 := by unfold nl; rw [nm_one]; decide
  refine Ev.bind (f := fun k bt252 => _) (restV 1 m n1 (by omega)) ?_
  rcases Nat.eq_zero_or_pos m with h | h
  · rw [mr_zero h, mr_zero h]
    exact Ev.congr (f := fun _ => some (([] : List Int), false)) (fun k => if_neg (by decide)) (Ev.now _)
  · rw [mr_pos h, mr_pos h]
    refine Ev.congr (fun k => if_pos rfl) ?_
    refine Ev.bind (f := fun k bt256 => _) (restV a m (by omega) (by omega)) ?_
    rw [mr_pos h]
    refine Ev.bind (f := fun k t260 => _) (g := fun _ => nat_Bits.f (nm e)) (Ev.congr (fun _ => bitsN (Nat.lt_trans h2 (by decide))) (Ev.now _)) ?_
    have hb : bl e ≤ 32 * nl e := by
      rw [bl_le, Nat.pow_mul]
      exact nm_len_le
    have w : wrap64 ((bl e : Int) - 1) = (bl e : Int) - 1 := w64 _ (by omega) (by omega)
    have hx := nl_mod a m h
    have := mexp_l0 (a % m) e m h (by clear w; omega) h2 h3 (bl e) (Nat.le_refl _)
    rw [Nat.div_eq_of_lt ((bl_le e (bl e)).mp (Nat.le_refl _)), Nat.pow_zero, ← Nat.pow_mod] at this
    rw [w]
    exact this
end Go.Proofs.Ytgdkbfipjeinjaa.V
