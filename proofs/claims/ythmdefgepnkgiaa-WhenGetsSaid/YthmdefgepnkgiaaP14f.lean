/- A second more is a later date. Conditions: none. -/
import Derived.Test.YthmdefgepnkgiaaP14e
namespace Go.Proofs.Ythmdefgepnkgiaa.Eng
open Go
set_option linter.unusedSimpArgs false
set_option maxRecDepth 100000
theorem later_year {t u Y Z : Int} {J K : Nat} (htu : t ≤ u) (h1 : DateOf t Y J) (h2 : DateOf u Z K) : Y ≤ Z := by
  have hd : dayT t ≤ dayT u := by unfold dayT; omega
  rcases Int.lt_or_le Z Y with h | h
  · have : A (Z + 1) ≤ A Y := by
      by_cases e : Z + 1 = Y
      · rw [e]; exact Int.le_refl _
      · have := A_lt (show Z + 1 < Y by omega); omega
    have := h1.a
    have := h2.b
    omega
  · exact h
theorem later_month {t u Y : Int} {J K : Nat} (htu : t ≤ u) (h1 : DateOf t Y J) (h2 : DateOf u Y K) : J ≤ K := by
  have hd : dayT t ≤ dayT u := by unfold dayT; omega
  rcases Nat.lt_or_ge K J with h | h
  · have := Sm_mono Y (J - (K + 1)) (K + 1)
    rw [show K + 1 + (J - (K + 1)) = J by omega] at this
    have := h1.c
    have := h2.d
    omega
  · exact h
theorem WhenRises_true (M N : Nat) (hM : 10001 < M) (t more : Int) : law14_WhenRises_F M (N + 1) t more = some true := by
  unfold law14_WhenRises_F law14_WhenRises_D law14_WhenRises_B
  rw [rIs_F, bindG_some]
  cases ht : okT t
  · rfl
  simp only [Bool.not_true, cond_false]
  by_cases hm : more < 1
  · rw [ltI_true hm]; rfl
  rw [ltI_false hm, cond_false]
  by_cases hm2 : 1099511627776 < more
  · rw [ltI_true hm2]; rfl
  rw [ltI_false hm2, cond_false]
  have hr := (okT_iff t).1 ht
  rw [wrap64 (x := t + more) (by omega) (by omega), rIs_F, bindG_some]
  cases hu : okT (t + more)
  · rfl
  simp only [Bool.not_true, cond_false]
  rw [Date_X M _ hM, bindG_some, Date_X M _ hM, bindG_some, date_true M _ hM, date_true M _ hM, known_true M _ hM]
  simp only [bindG_some, cond_true]
  obtain ⟨Y, J, h1, e1⟩ := dateX_ok ht
  obtain ⟨Z, K, h2, e2⟩ := dateX_ok hu
  rw [e1, e2]
  show (bif !eqI Y Z then bif ltI Y Z then some (AV.one false [CV.d (DV.bool true)], []) else some (AV.one false [CV.d (DV.bool false)], []) else
    bif !eqI ((J + 1 : Nat) : Int) ((K + 1 : Nat) : Int) then bif ltI ((J + 1 : Nat) : Int) ((K + 1 : Nat) : Int) then some (AV.one false [CV.d (DV.bool true)], []) else some (AV.one false [CV.d (DV.bool false)], []) else
    bif !eqI (dayT t - A Y - Sm Y J + 1) (dayT (t + more) - A Z - Sm Z K + 1) then bif ltI (dayT t - A Y - Sm Y J + 1) (dayT (t + more) - A Z - Sm Z K + 1) then some (AV.one false [CV.d (DV.bool true)], []) else some (AV.one false [CV.d (DV.bool false)], []) else
    bif !eqI (secT t / 3600) (secT (t + more) / 3600) then bif ltI (secT t / 3600) (secT (t + more) / 3600) then some (AV.one false [CV.d (DV.bool true)], []) else some (AV.one false [CV.d (DV.bool false)], []) else
    bif !eqI (secT t % 3600 / 60) (secT (t + more) % 3600 / 60) then bif ltI (secT t % 3600 / 60) (secT (t + more) % 3600 / 60) then some (AV.one false [CV.d (DV.bool true)], []) else some (AV.one false [CV.d (DV.bool false)], []) else
    bif !eqI (secT t % 60) (secT (t + more) % 60) then bif ltI (secT t % 60) (secT (t + more) % 60) then some (AV.one false [CV.d (DV.bool true)], []) else some (AV.one false [CV.d (DV.bool false)], []) else some (AV.one false [CV.d (DV.bool false)], ([] : List (List CV)))).bind law14_WhenRises_dec = some true
  have step : ∀ (x y : Int) (k : Option Res), x ≤ y → (x = y → k.bind law14_WhenRises_dec = some true) → (bif !eqI x y then bif ltI x y then some (AV.one false [CV.d (DV.bool true)], []) else some (AV.one false [CV.d (DV.bool false)], []) else k).bind law14_WhenRises_dec = some true := by
    intro x y k hle hk
    by_cases e : x = y
    · rw [eqI_dec, decide_eq_true e]
      exact hk e
    · rw [eqI_dec, decide_eq_false e, ltI_true (by omega)]
      rfl
  have hs1 := sec_b t
  have hs2 := sec_b (t + more)
  refine step _ _ _ (later_year (by omega) h1 h2) fun eY => ?_
  subst eY
  have hJ := later_month (by omega) h1 h2
  refine step _ _ _ (by omega) fun eJ => ?_
  obtain rfl : J = K := by omega
  have hd : dayT t ≤ dayT (t + more) := by unfold dayT; omega
  refine step _ _ _ (by omega) fun eD => ?_
  have hd2 : dayT t = dayT (t + more) := by omega
  have hsl : secT t < secT (t + more) := by unfold dayT at hd2; unfold secT; omega
  refine step _ _ _ (by omega) fun e4 => ?_
  refine step _ _ _ (by omega) fun e5 => ?_
  by_cases e6 : secT t % 60 = secT (t + more) % 60
  · exfalso; omega
  · rw [eqI_dec, decide_eq_false e6, ltI_true (by omega)]
    rfl
end Go.Proofs.Ythmdefgepnkgiaa.Eng
