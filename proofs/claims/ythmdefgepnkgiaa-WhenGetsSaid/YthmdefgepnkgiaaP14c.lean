/- Times as things, plainly. Conditions: none. -/
import Derived.Test.YthmdefgepnkgiaaP14b
namespace Go.Proofs.Ythmdefgepnkgiaa.Eng
open Go
set_option linter.unusedSimpArgs false
set_option maxRecDepth 100000
theorem sec_b (t : Int) : 0 ≤ secT t ∧ secT t < 86400 := by unfold secT; omega
theorem DateOf.dm {t Y : Int} {J : Nat} (h : DateOf t Y J) : 0 ≤ dayT t - A Y - Sm Y J ∧ dayT t - A Y - Sm Y J < 31 ∧ dayT t - A Y - Sm Y J < mdays Y ((J + 1 : Nat) : Int) ∧ 0 ≤ Sm Y J ∧ Sm Y J ≤ 366 := by
  have h1 := h.c
  have h2 := h.d
  have h3 := mdays_pos Y ((J + 1 : Nat) : Int)
  have hs : Sm Y (J + 1) = Sm Y J + mdays Y ((J + 1 : Nat) : Int) := rfl
  have h0 := Sm_mono Y J 0
  rw [Nat.zero_add] at h0
  have h00 : Sm Y 0 = 0 := rfl
  have h4 := h.day
  omega
theorem rDate_F (M N : Nat) (hM : 10001 < M) {t Y : Int} {J : Nat} (ht : okT t = true) (h : DateOf t Y J) : ref14_Date_F M N t = some (dateR t Y J) := by
  unfold ref14_Date_F ref14_Date_D ref14_Date_B
  rw [rIs_F, bindG_some, ht]
  have hr := (okT_iff t).1 ht
  have hd := h.day
  have hdm := h.dm
  have hY := h.y0
  have hY1 := h.y1
  have hs := sec_b t
  have ha := A1950
  simp only [Bool.not_true, cond_false]
  rw [wrap64 (x := t + 631152000) (by omega) (by omega), tdivE (by omega), tmodE (by omega)]
  have e1 : (t + 631152000) / 86400 = dayT t - A 1950 := by unfold dayT; omega
  have e2 : (t + 631152000) % 86400 = secT t := rfl
  rw [e1, e2, wrap64 (x := dayT t - A 1950) (by omega) (by omega)]
  rw [ryear_loop M N _ Y (dayT t) (secT t) (by omega) h.a h.b (by omega) 0 0 0 0 0 0 M 1950 (by omega) (by omega) (by omega)]
  have hm := rmonth_loop M N (fun w54 w55 w56 w57 w58 w59 w60 w61 w62 w63 => some (AV.one true [CV.d (DV.int IntKind.i64 w56), CV.d (DV.int IntKind.i64 w57), CV.d (DV.int IntKind.i64 (IntKind.wrap IntKind.i64 (w54 + 1))), CV.d (DV.int IntKind.i64 (IntKind.wrap IntKind.i64 (Int.tdiv w55 3600))), CV.d (DV.int IntKind.i64 (Int.tmod (IntKind.wrap IntKind.i64 (Int.tdiv w55 60)) 60)), CV.d (DV.int IntKind.i64 (Int.tmod w55 60))], ([] : List (List CV)))) Y (dayT t - A Y) (secT t) J (by omega) h.j hd.1 (by omega) h.c h.d 0 0 0 0 0 0 M 0 (by omega) (by have := h.j; omega)
  have e0 : dayT t - A Y - Sm Y 0 = dayT t - A Y := by show dayT t - A Y - 0 = _; omega
  rw [e0] at hm
  have e3 : ((0 + 1 : Nat) : Int) = 1 := rfl
  rw [e3] at hm
  rw [hm]
  rw [tdivE hs.1, tdivE hs.1, tmodE hs.1, wrap64 (x := secT t / 60) (by omega) (by omega), tmodE (by omega), wrap64 (x := dayT t - A Y - Sm Y J + 1) (by omega) (by omega), wrap64 (x := secT t / 3600) (by omega) (by omega)]
  have e4 : secT t / 60 % 60 = secT t % 3600 / 60 := by omega
  rw [e4]
  rfl
def tw (n : Int) : List Int := [48 + n / 10 % 10, 48 + n % 10]
theorem two_F (M N : Nat) (n : Int) (h : 0 ≤ n) (h2 : n ≤ 1000000) : when_two_F M N n = some (tw n) := by
  unfold when_two_F when_two_D when_two_B
  rw [tdivE h, tmodE h, wrap64 (x := n / 10) (by omega) (by omega), tmodE (by omega), wrap64 (x := 48 + n / 10 % 10) (by omega) (by omega), wrap64 (x := 48 + n % 10) (by omega) (by omega), wrap8 (x := 48 + n / 10 % 10) (by omega) (by omega), wrap8 (x := 48 + n % 10) (by omega) (by omega)]
  rfl
theorem rtwo_F (M N : Nat) (n : Int) (h : 0 ≤ n) (h2 : n ≤ 1000000) : ref14_two_F M N n = some (tw n) := by
  unfold ref14_two_F ref14_two_D ref14_two_B
  rw [tdivE h, tmodE h, wrap64 (x := n / 10) (by omega) (by omega), tmodE (by omega), wrap64 (x := 48 + n / 10 % 10) (by omega) (by omega), wrap64 (x := 48 + n % 10) (by omega) (by omega), wrap8 (x := 48 + n / 10 % 10) (by omega) (by omega), wrap8 (x := 48 + n % 10) (by omega) (by omega)]
  rfl
abbrev N3 := Int × List Int × List (List DV)
/-- A time's thing. -/
def tailB (r : D6) : List Int := tw r.2.1 ++ (tw r.2.2.1 ++ (tw r.2.2.2.1 ++ (tw r.2.2.2.2.1 ++ (tw r.2.2.2.2.2 ++ [90]))))
def timeN (r : D6) : N3 := bif leI 2050 r.1 then (24, tw (r.1 / 100) ++ (tw r.1 ++ tailB r), []) else (23, tw r.1 ++ tailB r, [])
structure Small6 (r : D6) : Prop where
  y : 0 ≤ r.1 ∧ r.1 ≤ 10000
  m : 0 ≤ r.2.1 ∧ r.2.1 ≤ 99
  d : 0 ≤ r.2.2.1 ∧ r.2.2.1 ≤ 99
  h : 0 ≤ r.2.2.2.1 ∧ r.2.2.2.1 ≤ 99
  i : 0 ≤ r.2.2.2.2.1 ∧ r.2.2.2.2.1 ≤ 99
  s : 0 ≤ r.2.2.2.2.2 ∧ r.2.2.2.2.2 ≤ 99
theorem small6 {t Y : Int} {J : Nat} (h : DateOf t Y J) : Small6 (dateR t Y J) := by
  have h1 := h.y0
  have h2 := h.y1
  have h3 := h.j
  have h4 := h.dm
  have h5 := sec_b t
  exact ⟨⟨by show 0 ≤ Y; omega, by show Y ≤ 10000; omega⟩, ⟨by show (0 : Int) ≤ ((J + 1 : Nat) : Int); omega, by show ((J + 1 : Nat) : Int) ≤ 99; omega⟩, ⟨by show 0 ≤ dayT t - A Y - Sm Y J + 1; omega, by show dayT t - A Y - Sm Y J + 1 ≤ 99; omega⟩,
    ⟨by show 0 ≤ secT t / 3600; omega, by show secT t / 3600 ≤ 99; omega⟩, ⟨by show 0 ≤ secT t % 3600 / 60; omega, by show secT t % 3600 / 60 ≤ 99; omega⟩, ⟨by show 0 ≤ secT t % 60; omega, by show secT t % 60 ≤ 99; omega⟩⟩
theorem Time_of (M N : Nat) (t : Int) (r : D6) (ht : okT t = true) (hr : when_Date_F M N t = some r) (hs : Small6 r) : when_Time_F M N t = some (timeN r) := by
  unfold when_Time_F when_Time_D when_Time_B
  obtain ⟨y, m, d, h, i, s⟩ := r
  have a1 := hs.y; have a2 := hs.m; have a3 := hs.d; have a4 := hs.h; have a5 := hs.i; have a6 := hs.s
  simp only at a1 a2 a3 a4 a5 a6
  rw [Is_F, bindG_some, ht, hr, bindG_some]
  simp only [Bool.not_true, cond_false]
  rw [two_F M N y (by omega) (by omega), bindG_some, tdivE (by omega), wrap64 (x := y / 100) (by omega) (by omega), two_F M N (y / 100) (by omega) (by omega), two_F M N m (by omega) (by omega), two_F M N d (by omega) (by omega), two_F M N h (by omega) (by omega), two_F M N i (by omega) (by omega), two_F M N s (by omega) (by omega)]
  simp only [timeN]
  cases leI 2050 y <;> rfl
theorem rTime_of (M N : Nat) (t : Int) (r : D6) (ht : okT t = true) (hr : ref14_Date_F M N t = some r) (hs : Small6 r) : ref14_Time_F M N t = some (timeN r) := by
  unfold ref14_Time_F ref14_Time_D ref14_Time_B
  obtain ⟨y, m, d, h, i, s⟩ := r
  have a1 := hs.y; have a2 := hs.m; have a3 := hs.d; have a4 := hs.h; have a5 := hs.i; have a6 := hs.s
  simp only at a1 a2 a3 a4 a5 a6
  rw [rIs_F, bindG_some, ht, hr, bindG_some]
  simp only [Bool.not_true, cond_false]
  rw [tdivE (by omega), wrap64 (x := y / 100) (by omega) (by omega), rtwo_F M N (y / 100) (by omega) (by omega), rtwo_F M N y (by omega) (by omega), rtwo_F M N m (by omega) (by omega), rtwo_F M N d (by omega) (by omega), rtwo_F M N h (by omega) (by omega), rtwo_F M N i (by omega) (by omega), rtwo_F M N s (by omega) (by omega)]
  simp only [timeN]
  cases leI 2050 y <;> rfl
theorem Time_no (M N : Nat) (t : Int) (ht : okT t = false) : when_Time_F M N t = some (0, [], []) := by
  unfold when_Time_F when_Time_D when_Time_B
  rw [Is_F, bindG_some, ht]
  rfl
theorem rTime_no (M N : Nat) (t : Int) (ht : okT t = false) : ref14_Time_F M N t = some (0, [], []) := by
  unfold ref14_Time_F ref14_Time_D ref14_Time_B
  rw [rIs_F, bindG_some, ht]
  rfl
theorem Date_no (M N : Nat) (t : Int) (ht : okT t = false) : when_Date_F M N t = some (0, 0, 0, 0, 0, 0) := by
  unfold when_Date_F when_Date_D when_Date_B
  rw [Is_F, bindG_some, ht]
  rfl
theorem rDate_no (M N : Nat) (t : Int) (ht : okT t = false) : ref14_Date_F M N t = some (0, 0, 0, 0, 0, 0) := by
  unfold ref14_Date_F ref14_Date_D ref14_Date_B
  rw [rIs_F, bindG_some, ht]
  rfl
end Go.Proofs.Ythmdefgepnkgiaa.Eng
