/- Times, plainly: years, months, digits. Conditions: none. -/
import Derived.Test.YthmdefgepnkgiaaD7
namespace Go.Proofs.Ythmdefgepnkgiaa.Eng
open Go
set_option linter.unusedSimpArgs false
theorem bindG_some {R α : Type} (x : α) (K : α → Option R) : bindG (some x) K = K x := rfl
theorem wrap8 {x : Int} (h : 0 ≤ x) (h2 : x < 256) : IntKind.u8.wrap x = x := by rw [IntKind.wrap_u8]; omega
theorem tdivE {x : Int} (h : 0 ≤ x) (k : Int) : Int.tdiv x k = x / k := Int.tdiv_eq_ediv_of_nonneg h
theorem tmodE {x : Int} (h : 0 ≤ x) (k : Int) : Int.tmod x k = x % k := Int.tmod_eq_emod_of_nonneg h
theorem eqI_dec (x y : Int) : eqI x y = decide (x = y) := by unfold eqI; rw [Bool.eq_iff_iff]; simp
def leap (y : Int) : Bool := eqI (y % 4) 0 && (!eqI (y % 100) 0 || eqI (y % 400) 0)
theorem leap_iff (y : Int) : leap y = true ↔ y % 4 = 0 ∧ (¬ y % 100 = 0 ∨ y % 400 = 0) := by
  simp [leap, eqI_dec]
theorem isLeap_F (M N : Nat) (y : Int) (h : 0 ≤ y) : when_isLeap_F M N y = some (leap y) := by
  unfold when_isLeap_F when_isLeap_D when_isLeap_B leap
  rw [tmodE h, tmodE h, tmodE h]
  cases eqI (y % 4) 0 <;> cases eqI (y % 100) 0 <;> cases eqI (y % 400) 0 <;> rfl
theorem long_F (M N : Nat) (y : Int) (h : 0 ≤ y) : ref14_long_F M N y = some (leap y) := by
  unfold ref14_long_F ref14_long_D ref14_long_B
  rw [tmodE h, tmodE h, tmodE h]
  cases h1 : leap y
  · have : ¬ (y % 4 = 0 ∧ (¬ y % 100 = 0 ∨ y % 400 = 0)) := by rw [← leap_iff, h1]; simp
    rw [eqI_dec, eqI_dec, eqI_dec]
    by_cases a : y % 4 = 0 <;> by_cases b : y % 100 = 0 <;> by_cases c : y % 400 = 0 <;> simp only [a, b, c] <;> first | rfl | (exfalso; omega)
  · have := (leap_iff y).1 h1
    rw [eqI_dec, eqI_dec, eqI_dec]
    by_cases a : y % 4 = 0 <;> by_cases b : y % 100 = 0 <;> by_cases c : y % 400 = 0 <;> simp only [a, b, c] <;> first | rfl | (exfalso; omega)
/-- Days ahead of a year, from the year 1 on. -/
def A (y : Int) : Int := (y - 1) * 365 + (y - 1) / 4 - (y - 1) / 100 + (y - 1) / 400
theorem ahead_F (M N : Nat) (y : Int) (h : 1 ≤ y) (h2 : y ≤ 1000000) : when_ahead_F M N y = some (A y) := by
  unfold when_ahead_F when_ahead_D when_ahead_B
  rw [wrap64 (x := y - 1) (by omega) (by omega), tdivE (by omega), tdivE (by omega), tdivE (by omega)]
  rw [wrap64 (x := (y - 1) * 365) (by omega) (by omega), wrap64 (x := (y - 1) / 4) (by omega) (by omega), wrap64 (x := (y - 1) / 100) (by omega) (by omega), wrap64 (x := (y - 1) / 400) (by omega) (by omega)]
  rw [wrap64 (x := (y - 1) * 365 + (y - 1) / 4) (by omega) (by omega), wrap64 (x := (y - 1) * 365 + (y - 1) / 4 - (y - 1) / 100) (by omega) (by omega), wrap64 (x := (y - 1) * 365 + (y - 1) / 4 - (y - 1) / 100 + (y - 1) / 400) (by omega) (by omega)]
  rfl
theorem A_succ (y : Int) : A (y + 1) = A y + 365 + (if leap y then 1 else 0) := by
  unfold A
  cases h : leap y
  · have : ¬ (y % 4 = 0 ∧ (¬ y % 100 = 0 ∨ y % 400 = 0)) := by rw [← leap_iff, h]; simp
    simp only [Bool.false_eq_true, if_false]
    omega
  · have := (leap_iff y).1 h
    simp only [if_true]
    omega
theorem A_mono : ∀ (n : Nat) (y : Int), A y + 365 * n ≤ A (y + n)
  | 0, y => by simp
  | n + 1, y => by
    have h1 := A_mono n y
    have h2 := A_succ (y + n)
    have e : y + ((n + 1 : Nat) : Int) = y + n + 1 := by omega
    rw [e, h2]
    split <;> omega
theorem A_lt {a b : Int} (h : a < b) : A a + 365 ≤ A b := by
  have := A_mono (b - a).toNat a
  have e : a + ((b - a).toNat : Int) = b := by omega
  rw [e] at this
  omega
theorem A_uniq {a b l : Int} (h1 : A a ≤ l) (h2 : l < A (a + 1)) (h3 : A b ≤ l) (h4 : l < A (b + 1)) : a = b := by
  rcases Int.lt_trichotomy a b with h | h | h
  · have : A (a + 1) ≤ A b := by
      by_cases e : a + 1 = b
      · rw [e]; exact Int.le_refl _
      · have := A_lt (show a + 1 < b by omega); omega
    omega
  · exact h
  · have : A (b + 1) ≤ A a := by
      by_cases e : b + 1 = a
      · rw [e]; exact Int.le_refl _
      · have := A_lt (show b + 1 < a by omega); omega
    omega
/-! ### Months -/
def mdays (y m : Int) : Int := bif eqI m 2 then (bif leap y then 29 else 28) else bif eqI m 4 then 30 else bif eqI m 6 then 30 else bif eqI m 9 then 30 else bif eqI m 11 then 30 else 31
theorem days_F (M N : Nat) (y m : Int) (h : 0 ≤ y) : when_days_F M N y m = some (mdays y m) := by
  unfold when_days_F when_days_D when_days_B mdays
  rw [isLeap_F M N y h, bindG_some]
  cases eqI m 2 <;> cases leap y <;> cases eqI m 4 <;> cases eqI m 6 <;> cases eqI m 9 <;> cases eqI m 11 <;> rfl
theorem rdays_F (M N : Nat) (y : Int) (m : Nat) (h : 0 ≤ y) (h1 : 1 ≤ m) (h2 : m ≤ 12) : ref14_days_F M N y m = some (mdays y m) := by
  unfold ref14_days_F ref14_days_D ref14_days_B mdays
  rw [long_F M N y h, bindG_some]
  have : m = 1 ∨ m = 2 ∨ m = 3 ∨ m = 4 ∨ m = 5 ∨ m = 6 ∨ m = 7 ∨ m = 8 ∨ m = 9 ∨ m = 10 ∨ m = 11 ∨ m = 12 := by omega
  rcases this with rfl | rfl | rfl | rfl | rfl | rfl | rfl | rfl | rfl | rfl | rfl | rfl <;> cases leap y <;> rfl
theorem mdays_pos (y m : Int) : 28 ≤ mdays y m ∧ mdays y m ≤ 31 := by
  unfold mdays
  cases eqI m 2 <;> cases leap y <;> cases eqI m 4 <;> cases eqI m 6 <;> cases eqI m 9 <;> cases eqI m 11 <;> simp
/-- Days ahead of a month. -/
def Sm (y : Int) : Nat → Int
  | 0 => 0
  | m + 1 => Sm y m + mdays y ((m + 1 : Nat) : Int)
theorem Sm_year (y : Int) : Sm y 12 = 365 + (if leap y then 1 else 0) := by
  cases h : leap y <;> simp [Sm, mdays, h, eqI]
theorem Sm_mono (y : Int) : ∀ (k m : Nat), Sm y m + 28 * k ≤ Sm y (m + k)
  | 0, m => by simp
  | k + 1, m => by
    have h1 := Sm_mono y k m
    have h2 := (mdays_pos y ((m + k + 1 : Nat) : Int)).1
    show Sm y m + 28 * ((k + 1 : Nat) : Int) ≤ Sm y (m + k) + mdays y ((m + k + 1 : Nat) : Int)
    omega
end Go.Proofs.Ythmdefgepnkgiaa.Eng
