/- Dates, plainly: both texts' rounds. Conditions: none. -/
import Derived.Test.YthmdefgepnkgiaaP14a
namespace Go.Proofs.Ythmdefgepnkgiaa.Eng
open Go
set_option linter.unusedSimpArgs false
theorem year_loop {R : Type} (M N : Nat) (k0 : Int → Int → Int → Option R) (Y l s : Int) (hY : Y ≤ 10000) (h1 : A Y ≤ l) (h2 : l < A (Y + 1)) : ∀ (n : Nat) (y : Int), 1 ≤ y → y ≤ Y → Y - y < n →
    when_Date_l0 M (when_Is_F M N) (when_ahead_F M N) (when_days_F M N) k0 n y l s = k0 Y l s
  | 0, _, _, _, h => by omega
  | n + 1, y, hy, hyY, hn => by
    show when_Date_s0 _ _ _ _ _ _ _ _ _ = _
    unfold when_Date_s0
    rw [wrap64 (x := y + 1) (by omega) (by omega), ahead_F M N (y + 1) (by omega) (by omega), bindG_some]
    by_cases e : y = Y
    · subst e
      rw [leI_false (by omega)]
      rfl
    · have : A (y + 1) ≤ A Y := by
        by_cases e2 : y + 1 = Y
        · rw [e2]; exact Int.le_refl _
        · have := A_lt (show y + 1 < Y by omega); omega
      rw [leI_true (by omega), cond_true]
      exact year_loop M N k0 Y l s hY h1 h2 n (y + 1) (by omega) (by omega) (by omega)
theorem month_loop {R : Type} (M N : Nat) (k0 : Int → Int → Int → Int → Option R) (Y D s : Int) (J : Nat) (hY : 0 ≤ Y) (hJ : J < 12) (hD : 0 ≤ D) (hD2 : D ≤ 1000) (h1 : Sm Y J ≤ D) (h2 : D < Sm Y (J + 1)) : ∀ (n j : Nat), j ≤ J → J - j < n →
    when_Date_l2 M (when_Is_F M N) (when_ahead_F M N) (when_days_F M N) k0 n Y ((j + 1 : Nat) : Int) (D - Sm Y j) s = k0 Y ((J + 1 : Nat) : Int) (D - Sm Y J) s
  | 0, _, _, h => by omega
  | n + 1, j, hj, hn => by
    show when_Date_s2 _ _ _ _ _ _ _ _ _ _ = _
    unfold when_Date_s2
    rw [days_F M N Y _ hY, bindG_some]
    have hs : Sm Y (j + 1) = Sm Y j + mdays Y ((j + 1 : Nat) : Int) := rfl
    have hb := mdays_pos Y ((j + 1 : Nat) : Int)
    by_cases e : j = J
    · subst e
      rw [leI_false (by omega)]
      rfl
    · have hm := Sm_mono Y (J - (j + 1)) (j + 1)
      rw [show j + 1 + (J - (j + 1)) = J by omega] at hm
      have h0 := Sm_mono Y j 0
      rw [Nat.zero_add] at h0
      have h00 : Sm Y 0 = 0 := rfl
      rw [leI_true (by omega), cond_true, bindG_some]
      rw [wrap64 (x := ((j + 1 : Nat) : Int) + 1) (by omega) (by omega), wrap64 (x := D - Sm Y j - mdays Y ((j + 1 : Nat) : Int)) (by omega) (by omega)]
      have e1 : ((j + 1 : Nat) : Int) + 1 = ((j + 1 + 1 : Nat) : Int) := by omega
      have e2 : D - Sm Y j - mdays Y ((j + 1 : Nat) : Int) = D - Sm Y (j + 1) := by omega
      rw [e1, e2]
      exact month_loop M N k0 Y D s J hY hJ hD hD2 h1 h2 n (j + 1) (by omega) (by omega)
theorem ryear_loop {R : Type} (M N : Nat) (k0 : Int → Int → Int → Int → Int → Int → Int → Int → Int → Option R) (Y l s : Int) (hY : Y ≤ 10000) (h1 : A Y ≤ l) (h2 : l < A (Y + 1)) (hl : l ≤ 10000000) (z1 z2 z3 z4 z5 z6 : Int) : ∀ (n : Nat) (y : Int), 1 ≤ y → y ≤ Y → Y - y < n →
    ref14_Date_l0 M (ref14_Is_F M N) (ref14_long_F M N) (ref14_days_F M N) k0 n (l - A y) s y z1 z2 z3 z4 z5 z6 = k0 (l - A Y) s Y z1 z2 z3 z4 z5 z6
  | 0, _, _, _, h => by omega
  | n + 1, y, hy, hyY, hn => by
    show ref14_Date_s0 _ _ _ _ _ _ _ _ _ _ _ _ _ _ _ = _
    unfold ref14_Date_s0
    have hs := A_succ y
    have h0 : 0 ≤ A y := by
      have := A_mono (y - 1).toNat 1
      have e : (1 : Int) + ((y - 1).toNat : Int) = y := by omega
      rw [e] at this
      have : A 1 = 0 := by decide
      omega
    rw [long_F M N y (by omega)]
    simp only [bindG_some]
    by_cases e : y = Y
    · subst e
      cases hlp : leap y
      · rw [hlp] at hs
        simp only [Bool.false_eq_true, if_false] at hs
        rw [leI_false (by omega), cond_false, leI_false (by omega)]
        rfl
      · rw [hlp] at hs
        simp only [if_true] at hs
        rw [leI_false (by omega), cond_false]
        cases leI 365 (l - A y) <;> rfl
    · have hle : A (y + 1) ≤ A Y := by
        by_cases e2 : y + 1 = Y
        · rw [e2]; exact Int.le_refl _
        · have := A_lt (show y + 1 < Y by omega); omega
      have ih := ryear_loop M N k0 Y l s hY h1 h2 hl z1 z2 z3 z4 z5 z6 n (y + 1) (by omega) (by omega) (by omega)
      rw [wrap64 (x := y + 1) (by omega) (by omega), wrap64 (x := l - A y - 365) (by omega) (by omega), wrap64 (x := l - A y - 365 - 1) (by omega) (by omega)]
      cases hlp : leap y
      · rw [hlp] at hs
        simp only [Bool.false_eq_true, if_false] at hs
        have e2 : l - A y - 365 = l - A (y + 1) := by omega
        rw [e2, leI_true (show 365 ≤ l - A y by omega)]
        cases leI 366 (l - A y) <;> exact ih
      · rw [hlp] at hs
        simp only [if_true] at hs
        have e2 : l - A y - 365 - 1 = l - A (y + 1) := by omega
        rw [e2, leI_true (show 366 ≤ l - A y by omega)]
        exact ih
theorem rmonth_loop {R : Type} (M N : Nat) (k0 : Int → Int → Int → Int → Int → Int → Int → Int → Int → Int → Option R) (Y D s : Int) (J : Nat) (hY : 0 ≤ Y) (hJ : J < 12) (hD : 0 ≤ D) (hD2 : D ≤ 1000) (h1 : Sm Y J ≤ D) (h2 : D < Sm Y (J + 1)) (z1 z2 z3 z4 z5 z6 : Int) : ∀ (n j : Nat), j ≤ J → J - j < n →
    ref14_Date_l2 M (ref14_Is_F M N) (ref14_long_F M N) (ref14_days_F M N) k0 n (D - Sm Y j) s Y ((j + 1 : Nat) : Int) z1 z2 z3 z4 z5 z6 = k0 (D - Sm Y J) s Y ((J + 1 : Nat) : Int) z1 z2 z3 z4 z5 z6
  | 0, _, _, h => by omega
  | n + 1, j, hj, hn => by
    show ref14_Date_s2 _ _ _ _ _ _ _ _ _ _ _ _ _ _ _ _ = _
    unfold ref14_Date_s2
    rw [rdays_F M N Y (j + 1) hY (by omega) (by omega), bindG_some]
    have hs : Sm Y (j + 1) = Sm Y j + mdays Y ((j + 1 : Nat) : Int) := rfl
    have hb := mdays_pos Y ((j + 1 : Nat) : Int)
    by_cases e : j = J
    · subst e
      rw [leI_false (by omega)]
      rfl
    · have hm := Sm_mono Y (J - (j + 1)) (j + 1)
      rw [show j + 1 + (J - (j + 1)) = J by omega] at hm
      have h0 := Sm_mono Y j 0
      rw [Nat.zero_add] at h0
      have h00 : Sm Y 0 = 0 := rfl
      rw [leI_true (by omega), cond_true, bindG_some]
      rw [wrap64 (x := ((j + 1 : Nat) : Int) + 1) (by omega) (by omega), wrap64 (x := D - Sm Y j - mdays Y ((j + 1 : Nat) : Int)) (by omega) (by omega)]
      have e1 : ((j + 1 : Nat) : Int) + 1 = ((j + 1 + 1 : Nat) : Int) := by omega
      have e2 : D - Sm Y j - mdays Y ((j + 1 : Nat) : Int) = D - Sm Y (j + 1) := by omega
      rw [e1, e2]
      exact rmonth_loop M N k0 Y D s J hY hJ hD hD2 h1 h2 z1 z2 z3 z4 z5 z6 n (j + 1) (by omega) (by omega)
/-- A time that may be. -/
def okT (t : Int) : Bool := leI (-631152000) t && leI t 253402300799
theorem okT_iff (t : Int) : okT t = true ↔ -631152000 ≤ t ∧ t ≤ 253402300799 := by simp [okT, leI_eq]
theorem Is_F (M N : Nat) (t : Int) : when_Is_F M N t = some (okT t) := by
  unfold when_Is_F when_Is_D when_Is_B okT
  cases leI (-631152000) t <;> rfl
theorem rIs_F (M N : Nat) (t : Int) : ref14_Is_F M N t = some (okT t) := by
  unfold ref14_Is_F ref14_Is_D ref14_Is_B okT
  cases leI (-631152000) t <;> rfl
/-- Days and seconds from the year 1 on, and from the year 1950 on. -/
def dayT (t : Int) : Int := 711857 + (t + 631152000) / 86400
def secT (t : Int) : Int := (t + 631152000) % 86400
structure DateOf (t Y : Int) (J : Nat) : Prop where
  y0 : 1950 ≤ Y
  y1 : Y ≤ 9999
  a : A Y ≤ dayT t
  b : dayT t < A (Y + 1)
  j : J < 12
  c : Sm Y J ≤ dayT t - A Y
  d : dayT t - A Y < Sm Y (J + 1)
abbrev D6 := Int × Int × Int × Int × Int × Int
def dateR (t Y : Int) (J : Nat) : D6 := (Y, ((J + 1 : Nat) : Int), dayT t - A Y - Sm Y J + 1, secT t / 3600, secT t % 3600 / 60, secT t % 60)
theorem year_ex (l : Int) : ∀ n : Nat, A 1950 ≤ l → l < A (1950 + n) → ∃ Y : Int, 1950 ≤ Y ∧ Y < 1950 + n ∧ A Y ≤ l ∧ l < A (Y + 1)
  | 0, h1, h2 => by simp at h2; omega
  | n + 1, h1, h2 => by
    by_cases h : l < A (1950 + n)
    · obtain ⟨Y, a, b, c, d⟩ := year_ex l n h1 h
      exact ⟨Y, a, by omega, c, d⟩
    · exact ⟨1950 + n, by omega, by omega, by omega, by
        rw [show (1950 : Int) + ((n + 1 : Nat) : Int) = 1950 + n + 1 by omega] at h2; exact h2⟩
theorem month_ex (Y D : Int) : ∀ n : Nat, 0 ≤ D → D < Sm Y n → ∃ J, J < n ∧ Sm Y J ≤ D ∧ D < Sm Y (J + 1)
  | 0, h1, h2 => by simp [Sm] at h2; omega
  | n + 1, h1, h2 => by
    by_cases h : D < Sm Y n
    · obtain ⟨J, a, b, c⟩ := month_ex Y D n h1 h
      exact ⟨J, by omega, b, c⟩
    · exact ⟨n, by omega, by omega, h2⟩
theorem A1950 : A 1950 = 711857 := by decide
theorem A10000 : A 10000 = 3652059 := by decide
theorem date_ex {t : Int} (h : okT t = true) : ∃ Y J, DateOf t Y J := by
  rw [okT_iff] at h
  have h1 := A1950
  have h2 := A10000
  have hd : 711857 ≤ dayT t ∧ dayT t < 3652059 := by unfold dayT; omega
  obtain ⟨Y, a, b, c, d⟩ := year_ex (dayT t) 8050 (by omega) (by rw [show (1950 : Int) + ((8050 : Nat) : Int) = 10000 by rfl]; omega)
  have hs := A_succ Y
  have h12 := Sm_year Y
  obtain ⟨J, e, f, g⟩ := month_ex Y (dayT t - A Y) 12 (by omega) (by rw [h12]; omega)
  exact ⟨Y, J, ⟨a, by omega, c, d, e, f, g⟩⟩
theorem DateOf.day {t Y : Int} {J : Nat} (h : DateOf t Y J) : 0 ≤ dayT t - A Y ∧ dayT t - A Y ≤ 366 ∧ 711857 ≤ dayT t ∧ dayT t ≤ 3652059 := by
  have hs := A_succ Y
  have h1 := h.a
  have h2 := h.b
  have h3 := h.y0
  have h4 := h.y1
  have e1 := A_mono (Y - 1950).toNat 1950
  have e2 : (1950 : Int) + ((Y - 1950).toNat : Int) = Y := by omega
  rw [e2, A1950] at e1
  have e3 := A_mono (9999 - Y).toNat (Y + 1)
  have e4 : Y + 1 + ((9999 - Y).toNat : Int) = 10000 := by omega
  rw [e4, A10000] at e3
  refine ⟨by omega, ?_, by omega, by omega⟩
  rw [hs] at h2
  split at h2 <;> omega
theorem Date_F (M N : Nat) (hM : 10001 < M) {t Y : Int} {J : Nat} (ht : okT t = true) (h : DateOf t Y J) : when_Date_F M N t = some (dateR t Y J) := by
  unfold when_Date_F when_Date_D when_Date_B
  rw [Is_F, bindG_some, ht]
  have hr := (okT_iff t).1 ht
  have hd := h.day
  have ha : A 1970 = 719162 := by decide
  rw [ahead_F M N 1970 (by omega) (by omega), bindG_some, ha]
  simp only [Bool.not_true, cond_false]
  rw [wrap64 (x := 719162 * 86400) (by omega) (by omega), wrap64 (x := 719162 * 86400 + t) (by omega) (by omega)]
  have e1 : Int.tdiv (719162 * 86400 + t) 86400 = dayT t := by rw [tdivE (by omega)]; unfold dayT; omega
  have e2 : Int.tmod (719162 * 86400 + t) 86400 = secT t := by rw [tmodE (by omega)]; unfold secT; omega
  rw [e1, e2, wrap64 (x := dayT t) (by omega) (by omega), tdivE (by omega), wrap64 (x := dayT t / 366) (by omega) (by omega), wrap64 (x := dayT t / 366 + 1) (by omega) (by omega)]
  have hY := h.y0
  have hY1 := h.y1
  have hup : A (Y + 1) ≤ 366 * Y := by unfold A; omega
  have hb := h.b
  rw [year_loop M N _ Y (dayT t) (secT t) (by omega) h.a h.b M _ (by omega) (by omega) (by omega)]
  rw [ahead_F M N Y (by omega) (by omega), bindG_some, wrap64 (x := dayT t - A Y) (by omega) (by omega)]
  have hm := month_loop M N (fun w24 w25 w26 w27 => some (AV.tup [(false, [CV.d (DV.int IntKind.i64 w24)]), (false, [CV.d (DV.int IntKind.i64 w25)]), (false, [CV.d (DV.int IntKind.i64 (IntKind.wrap IntKind.i64 (w26 + 1)))]), (false, [CV.d (DV.int IntKind.i64 (IntKind.wrap IntKind.i64 (Int.tdiv w27 3600)))]), (false, [CV.d (DV.int IntKind.i64 (IntKind.wrap IntKind.i64 (Int.tdiv (Int.tmod w27 3600) 60)))]), (false, [CV.d (DV.int IntKind.i64 (Int.tmod w27 60))])], ([] : List (List CV)))) Y (dayT t - A Y) (secT t) J (by omega) h.j hd.1 (by omega) h.c h.d M 0 (by omega) (by have := h.j; omega)
  have e0 : dayT t - A Y - Sm Y 0 = dayT t - A Y := by show dayT t - A Y - 0 = _; omega
  rw [e0] at hm
  have e3 : ((0 + 1 : Nat) : Int) = 1 := rfl
  rw [e3] at hm
  rw [hm]
  have hs0 : 0 ≤ secT t := by unfold secT; omega
  have hs1 : secT t < 86400 := by unfold secT; omega
  have hc := h.c
  have h0 := Sm_mono Y J 0
  rw [Nat.zero_add] at h0
  have h00 : Sm Y 0 = 0 := rfl
  rw [tdivE hs0, tmodE hs0, tmodE hs0, tdivE (by omega), wrap64 (x := dayT t - A Y - Sm Y J + 1) (by omega) (by omega), wrap64 (x := secT t / 3600) (by omega) (by omega), wrap64 (x := secT t % 3600 / 60) (by omega) (by omega)]
  rfl
end Go.Proofs.Ythmdefgepnkgiaa.Eng
