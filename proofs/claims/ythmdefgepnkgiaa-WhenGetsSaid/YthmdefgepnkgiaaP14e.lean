/- Things as times, plainly: what digits come to; a time is told again. Conditions: none. -/
import Derived.Test.YthmdefgepnkgiaaP14d
namespace Go.Proofs.Ythmdefgepnkgiaa.Eng
open Go
set_option linter.unusedSimpArgs false
set_option maxRecDepth 100000
abbrev R2 := Int × Bool
theorem tail_chk (M N : Nat) (hM : 10001 < M) (t tag : Int) (body : List Int) (hb : body.length ≤ 1000) :
    (bindG (when_Time_F M N t) fun r9 => bif !eqI r9.fst tag then (some (AV.tup [(false, [CV.d (DV.int IntKind.i64 0)]), (false, [CV.d (DV.bool false)])], ([] : List (List CV)))) else (bif leN (List.length r9.snd.fst) 140737488355328 then (bif leN (List.length body) 140737488355328 then (bif !eqS (bytesOf r9.snd.fst) (bytesOf body) then (some (AV.tup [(false, [CV.d (DV.int IntKind.i64 0)]), (false, [CV.d (DV.bool false)])], [])) else (some (AV.tup [(false, [CV.d (DV.int IntKind.i64 t)]), (false, [CV.d (DV.bool true)])], []))) else (none)) else (none))) =
      some (AV.tup [(false, [CV.d (DV.int IntKind.i64 (chk t tag body).1)]), (false, [CV.d (DV.bool (chk t tag body).2)])], []) := by
  rw [Time_X M N hM, bindG_some, leN_true (by have := time_len t; omega), leN_true (by omega)]
  unfold chk
  cases eqI (timeX t).1 tag <;> cases eqS (bytesOf (timeX t).2.1) (bytesOf body) <;> rfl
theorem Get7 (M N : Nat) (hM : 10001 < M) (c a m d h i s z : Int) (hc : 0 ≤ c ∧ c ≤ 99) (ha : 0 ≤ a ∧ a ≤ 99) (hm : 0 ≤ m ∧ m ≤ 99) (hd : 0 ≤ d ∧ d ≤ 99) (hh : 0 ≤ h ∧ h ≤ 99) (hi : 0 ≤ i ∧ i ≤ 99) (hs : 0 ≤ s ∧ s ≤ 99) :
    when_Get_F M N 24 (flat [c, a, m, d, h, i, s] ++ [z]) [] = some (bif ltI (c * 100 + a) 1 then (0, false) else chk (unixP (c * 100 + a) m d h i s) 24 (flat [c, a, m, d, h, i, s] ++ [z])) := by
  unfold when_Get_F when_Get_D when_Get_B
  have hl : (flat [c, a, m, d, h, i, s] ++ [z]).length = 15 := rfl
  rw [cut_flat _ z (by simp), numbers_flat M N _ (by simp; omega) (by simp), bindG_some]
  have e1 : IntKind.wrap IntKind.i64 (IntKind.wrap IntKind.i64 (c * 100) + a) = c * 100 + a := by
    rw [wrap64 (x := c * 100) (by omega) (by omega), wrap64 (by omega) (by omega)]
  show ((bif ltI (IntKind.wrap IntKind.i64 (IntKind.wrap IntKind.i64 (c * 100) + a)) 1 then some (AV.tup [(false, [CV.d (DV.int IntKind.i64 0)]), (false, [CV.d (DV.bool false)])], []) else
    bindG (when_of_F M N (IntKind.wrap IntKind.i64 (IntKind.wrap IntKind.i64 (c * 100) + a)) [m, d, h, i, s]) fun r8 => bindG (when_Time_F M N r8) fun r9 => bif !eqI r9.fst 24 then (some (AV.tup [(false, [CV.d (DV.int IntKind.i64 0)]), (false, [CV.d (DV.bool false)])], ([] : List (List CV)))) else (bif leN (List.length r9.snd.fst) 140737488355328 then (bif leN (List.length (flat [c, a, m, d, h, i, s] ++ [z])) 140737488355328 then (bif !eqS (bytesOf r9.snd.fst) (bytesOf (flat [c, a, m, d, h, i, s] ++ [z])) then (some (AV.tup [(false, [CV.d (DV.int IntKind.i64 0)]), (false, [CV.d (DV.bool false)])], [])) else (some (AV.tup [(false, [CV.d (DV.int IntKind.i64 r8)]), (false, [CV.d (DV.bool true)])], []))) else (none)) else (none))).bind when_Get_dec : Option R2) = _
  rw [e1]
  by_cases hy : c * 100 + a < 1
  · rw [ltI_true hy]; rfl
  · rw [ltI_false hy, of_F M N (by omega) (c * 100 + a) m d h i s (by omega) hm hd hh hi hs, bindG_some, cond_false, tail_chk M N hM _ _ _ (by rw [hl]; omega)]
    rfl
theorem Get6 (M N : Nat) (hM : 10001 < M) (tag a m d h i s z : Int) (ht : tag ≠ 24) (ha : 0 ≤ a ∧ a ≤ 99) (hm : 0 ≤ m ∧ m ≤ 99) (hd : 0 ≤ d ∧ d ≤ 99) (hh : 0 ≤ h ∧ h ≤ 99) (hi : 0 ≤ i ∧ i ≤ 99) (hs : 0 ≤ s ∧ s ≤ 99) :
    when_Get_F M N tag (flat [a, m, d, h, i, s] ++ [z]) [] = some (chk (unixP (bif ltI a 50 then a + 2000 else a + 1900) m d h i s) tag (flat [a, m, d, h, i, s] ++ [z])) := by
  unfold when_Get_F when_Get_D when_Get_B
  have hl : (flat [a, m, d, h, i, s] ++ [z]).length = 13 := rfl
  have htg : eqI tag 24 = false := by rw [eqI_dec]; exact decide_eq_false ht
  rw [cut_flat _ z (by simp), numbers_flat M N _ (by simp; omega) (by simp), bindG_some, htg]
  have key : ∀ y : Int, 1 ≤ y → y ≤ 9999 → ((bif ltI y 1 then some (AV.tup [(false, [CV.d (DV.int IntKind.i64 0)]), (false, [CV.d (DV.bool false)])], []) else
    bindG (when_of_F M N y [m, d, h, i, s]) fun r8 => bindG (when_Time_F M N r8) fun r9 => bif !eqI r9.fst tag then (some (AV.tup [(false, [CV.d (DV.int IntKind.i64 0)]), (false, [CV.d (DV.bool false)])], ([] : List (List CV)))) else (bif leN (List.length r9.snd.fst) 140737488355328 then (bif leN (List.length (flat [a, m, d, h, i, s] ++ [z])) 140737488355328 then (bif !eqS (bytesOf r9.snd.fst) (bytesOf (flat [a, m, d, h, i, s] ++ [z])) then (some (AV.tup [(false, [CV.d (DV.int IntKind.i64 0)]), (false, [CV.d (DV.bool false)])], [])) else (some (AV.tup [(false, [CV.d (DV.int IntKind.i64 r8)]), (false, [CV.d (DV.bool true)])], []))) else (none)) else (none))).bind when_Get_dec : Option R2) = some (chk (unixP y m d h i s) tag (flat [a, m, d, h, i, s] ++ [z])) := by
    intro y h1 h2
    rw [ltI_false (by omega), of_F M N (by omega) y m d h i s ⟨h1, h2⟩ hm hd hh hi hs, bindG_some, cond_false, tail_chk M N hM _ _ _ (by rw [hl]; omega)]
    rfl
  have e1 : IntKind.wrap IntKind.i64 (a + 2000) = a + 2000 := wrap64 (by omega) (by omega)
  have e2 : IntKind.wrap IntKind.i64 (a + 1900) = a + 1900 := wrap64 (by omega) (by omega)
  have n0 : nth [a, m, d, h, i, s] 0 = fun (K : Int → Option Res) => K a := by funext K; rfl
  have c0 : ltI 0 ((([] : List (List DV)).length : Nat) : Int) = false := rfl
  have c1 : eqI (((flat [a, m, d, h, i, s] ++ [z]).length : Nat) : Int) 0 = false := rfl
  have c2 : ltI ((([a, m, d, h, i, s] : List Int).length : Nat) : Int) 6 = false := rfl
  rw [c0, c1]
  simp only [c2, n0, Bool.not_true, cond_false]
  by_cases h50 : a < 50
  · have := key (a + 2000) (by omega) (by omega)
    rw [ltI_true h50, e1]
    simp only [cond_true]
    exact Eq.trans rfl this
  · have := key (a + 1900) (by omega) (by omega)
    rw [ltI_false h50, e2]
    simp only [cond_false]
    exact Eq.trans rfl this
/-- A time's thing, as digits. -/
theorem timeN_flat (r : D6) (hs : Small6 r) : timeN r = bif leI 2050 r.1 then (24, flat [r.1 / 100, r.1 % 100, r.2.1, r.2.2.1, r.2.2.2.1, r.2.2.2.2.1, r.2.2.2.2.2] ++ [90], []) else (23, flat [r.1 % 100, r.2.1, r.2.2.1, r.2.2.2.1, r.2.2.2.2.1, r.2.2.2.2.2] ++ [90], []) := by
  obtain ⟨y, m, d, h, i, s⟩ := r
  have e : tw y = tw (y % 100) := by
    have := hs.y
    simp only at this
    unfold tw
    rw [show y % 100 / 10 % 10 = y / 10 % 10 by omega, show y % 100 % 10 = y % 10 by omega]
  unfold timeN tailB
  simp only
  rw [e]
  cases leI 2050 y <;> rfl
theorem Get_time (M N : Nat) (hM : 10001 < M) (t : Int) (ht : okT t = true) : when_Get_F M N (timeX t).1 (timeX t).2.1 (timeX t).2.2 = some (t, true) := by
  obtain ⟨Y, J, h1, h2⟩ := dateX_ok ht
  have hs := small6 h1
  have hu := unix_date ht h1
  have hx : timeX t = timeN (dateR t Y J) := by unfold timeX; rw [ht, h2]; rfl
  have hy0 := h1.y0
  have hy1 := h1.y1
  have hyy : (dateR t Y J).1 = Y := rfl
  have hchk : ∀ tag body, tag = (timeX t).1 → body = (timeX t).2.1 → chk t tag body = (t, true) := by
    rintro tag body rfl rfl
    unfold chk
    rw [eqS_self, eqI_dec, decide_eq_true rfl]
    rfl
  have hf := timeN_flat _ hs
  by_cases h50 : 2050 ≤ Y
  · rw [hyy, leI_true h50, cond_true] at hf
    rw [hx, hf]
    simp only
    rw [Get7 M N hM _ _ _ _ _ _ _ _ (by omega) (by omega) hs.m hs.d hs.h hs.i hs.s]
    have e : Y / 100 * 100 + Y % 100 = Y := by omega
    rw [e, ltI_false (by omega), cond_false]
    rw [hyy] at hu
    rw [hu, hchk 24 _ (by rw [hx, hf]) (by rw [hx, hf])]
  · rw [hyy, leI_false h50, cond_false] at hf
    rw [hx, hf]
    simp only
    rw [Get6 M N hM _ _ _ _ _ _ _ _ (by omega) (by omega) hs.m hs.d hs.h hs.i hs.s]
    have e : (bif ltI (Y % 100) 50 then Y % 100 + 2000 else Y % 100 + 1900) = Y := by
      by_cases h5 : Y % 100 < 50
      · rw [ltI_true h5]; show Y % 100 + 2000 = Y; omega
      · rw [ltI_false h5]; show Y % 100 + 1900 = Y; omega
    rw [e]
    rw [hyy] at hu
    rw [hu, hchk 23 _ (by rw [hx, hf]) (by rw [hx, hf])]
theorem Get_none (M N : Nat) (tag : Int) : when_Get_F M N tag [] [] = some (0, false) := rfl
theorem Same_self (M N : Nat) (tag : Int) (b : List Int) (hb : b.length ≤ 1000) (hM : 1 ≤ M) : ref12_Same_F M (N + 1) tag b [] tag b [] = some true := by
  obtain ⟨M', rfl⟩ : ∃ k, M = k + 1 := ⟨M - 1, by omega⟩
  show ((ref12_Same_B _ _ _ _ _ _ _ _).bind _ : Option Bool) = _
  unfold ref12_Same_B
  rw [eqI_dec, decide_eq_true rfl, eqS_self, leN_true (by omega)]
  rfl
theorem date_true (M N : Nat) (hM : 10001 < M) (t : Int) : law14_date_F M N t = some true := by
  unfold law14_date_F law14_date_D law14_date_B
  rw [Date_X M N hM, bindG_some, rDate_X M N hM, bindG_some]
  simp only [eqI_dec, decide_eq_true, Bool.and_self]
  rfl
theorem date_zero : DateOf 0 1970 0 := ⟨by omega, by omega, by decide, by decide, by omega, by decide, by decide⟩
theorem time_zero : timeX 0 = (23, [55, 48, 48, 49, 48, 49, 48, 48, 48, 48, 48, 48, 90], []) := by
  have ht : okT 0 = true := rfl
  obtain ⟨Y, J, h1, h2⟩ := dateX_ok ht
  have hY : Y = 1970 := A_uniq h1.a h1.b date_zero.a date_zero.b
  subst hY
  have hJ : J = 0 := by
    have := h1.c
    have e : dayT 0 - A 1970 = 0 := by decide
    rw [e] at this
    have := Sm_mono 1970 J 0
    rw [Nat.zero_add] at this
    have h00 : Sm 1970 0 = 0 := rfl
    omega
  subst hJ
  unfold timeX
  rw [ht, h2]
  rfl
theorem known_true (M N : Nat) (hM : 10001 < M) : law14_known_F M N = some true := by
  unfold law14_known_F law14_known_D law14_known_B
  rw [Time_X M N hM, bindG_some, Get_time M N hM 0 rfl, bindG_some, time_zero]
  simp only
  rw [eqS_self, Is_F, bindG_some]
  rfl
theorem WhenTimes_true (M N : Nat) (hM : 10001 < M) (t : Int) : law14_WhenTimes_F M (N + 1) t = some true := by
  unfold law14_WhenTimes_F law14_WhenTimes_D law14_WhenTimes_B
  rw [Time_X M _ hM, bindG_some, rIs_F, bindG_some, Is_F, bindG_some, rTime_X M _ hM, bindG_some]
  have h3 : (timeX t).2.2 = [] := by
    unfold timeX timeN
    cases okT t
    · rfl
    · cases leI 2050 (dateX t).1 <;> rfl
  rw [h3, Same_self M N _ _ (by have := time_len t; omega) (by omega), bindG_some, date_true M _ hM, bindG_some, known_true M _ hM]
  cases ht : okT t
  · have h4 : (timeX t).2.1 = [] := by unfold timeX; rw [ht]; rfl
    rw [h4, Get_none]
    rfl
  · have hg := Get_time M (N + 1) hM t ht
    rw [h3] at hg
    rw [hg]
    simp only [bindG_some]
    rw [eqI_dec, decide_eq_true rfl]
    rfl
end Go.Proofs.Ythmdefgepnkgiaa.Eng
