/- Things as times, plainly: the reference's side. Conditions: none. -/
import Derived.Test.YthmdefgepnkgiaaP14f
namespace Go.Proofs.Ythmdefgepnkgiaa.Eng
open Go
set_option linter.unusedSimpArgs false
set_option maxRecDepth 100000
theorem nth_get {R α : Type} {l : List α} {j : Nat} {x : α} (h : l[j]? = some x) (K : α → Option R) : nth l (j : Int) K = K x := by
  unfold nth
  rw [leI_true (by omega)]
  show (match l[((j : Int)).toNat]? with | some x => K x | none => none) = K x
  rw [Int.toNat_natCast, h]
def numv : List Int → Int → Int
  | [], a => a
  | x :: r, a => bif ltI x 48 then -1 else bif ltI 57 x then -1 else numv r (a * 10 + x - 48)
theorem num_step {R : Type} (M : Nat) (k : Int → Option R) (n : Nat) (l : List Int) (acc : Int) (j : Nat) (x : Int) (hx : l[j]? = some x) (hacc : 0 ≤ acc ∧ acc ≤ 100000) (hj : j ≤ 1000) :
    ref14_number_l0 M k k (n + 1) l acc (j : Int) = bif ltI x 48 then k (-1) else bif ltI 57 x then k (-1) else ref14_number_l0 M k k n l (acc * 10 + x - 48) ((j + 1 : Nat) : Int) := by
  show ref14_number_s0 _ _ _ _ _ _ _ = _
  unfold ref14_number_s0
  have hl := (List.getElem?_eq_some_iff.1 hx).1
  rw [ltI_true (by omega), cond_true, nth_get hx]
  by_cases h1 : x < 48
  · rw [ltI_true h1]; rfl
  · rw [ltI_false h1, nth_get hx]
    by_cases h2 : 57 < x
    · rw [ltI_true h2]; rfl
    · rw [ltI_false h2, nth_get hx]
      rw [wrap64 (x := x) (by omega) (by omega), wrap64 (x := acc * 10) (by omega) (by omega), wrap64 (x := acc * 10 + x) (by omega) (by omega), wrap64 (x := acc * 10 + x - 48) (by omega) (by omega), wrap64 (x := (j : Int) + 1) (by omega) (by omega)]
      have e : (j : Int) + 1 = ((j + 1 : Nat) : Int) := by omega
      rw [e]
theorem num_end {R : Type} (M : Nat) (k : Int → Option R) (n : Nat) (l : List Int) (acc : Int) : ref14_number_l0 M k k (n + 1) l acc (l.length : Int) = k acc := by
  show ref14_number_s0 _ _ _ _ _ _ _ = _
  unfold ref14_number_s0
  rw [ltI_false (by omega)]
  rfl
theorem num_loop {R : Type} (M : Nat) (k : Int → Option R) (l : List Int) : ∀ (r : List Int) (n j : Nat) (acc : Int), l.drop j = r → r.length < n → j ≤ l.length → j + r.length ≤ 4 → 0 ≤ acc → (j = 0 → acc = 0) → (j = 1 → acc ≤ 9) → (j = 2 → acc ≤ 99) → (j = 3 → acc ≤ 999) → (j = 4 → acc ≤ 9999) →
    ref14_number_l0 M k k n l acc (j : Int) = k (numv r acc)
  | _, 0, _, _, _, h, _, _, _, _, _, _, _, _ => by omega
  | [], n + 1, j, acc, hd, _, hj, _, _, _, _, _, _, _ => by
    have : j = l.length := by
      have := congrArg List.length hd
      simp at this; omega
    subst this
    exact num_end M k n l acc
  | x :: r, n + 1, j, acc, hd, hn, hj, h4, h0, c0, c1, c2, c3, c4 => by
    obtain ⟨p1, p2⟩ := drop_get hd
    simp only [List.length_cons] at hn h4
    have hacc : acc ≤ 9999 := by omega
    rw [num_step M k n l acc j x p1 ⟨h0, by omega⟩ (by omega)]
    simp only [numv]
    by_cases h1 : x < 48
    · rw [ltI_true h1]; rfl
    · by_cases h2 : 57 < x
      · rw [ltI_false h1, ltI_true h2]; rfl
      · rw [ltI_false h1, ltI_false h2]
        simp only [cond_false]
        have hl := (List.getElem?_eq_some_iff.1 p1).1
        exact num_loop M k l r n (j + 1) (acc * 10 + x - 48) p2 (by omega) (by omega) (by omega) (by omega) (by omega) (by omega) (by omega) (by omega) (by omega)
theorem number_F (M N : Nat) (hM : 10 < M) (l : List Int) (hl : l.length ≤ 4) : ref14_number_F M N l = some (numv l 0) := by
  unfold ref14_number_F ref14_number_D ref14_number_B
  have := num_loop M (fun w => some (AV.one false [CV.d (DV.int IntKind.i64 w)], ([] : List (List CV)))) l l M 0 0 rfl (by omega) (by omega) (by omega) (by omega) (by omega) (by omega) (by omega) (by omega) (by omega)
  rw [show ((0 : Nat) : Int) = 0 from rfl] at this
  rw [this]
  rfl
theorem numv2 (x y : Int) : -1 ≤ numv [x, y] 0 ∧ numv [x, y] 0 ≤ 99 := by
  simp only [numv]
  by_cases h1 : x < 48
  · rw [ltI_true h1]; simp
  · by_cases h2 : 57 < x
    · rw [ltI_false h1, ltI_true h2]; simp
    · by_cases h3 : y < 48
      · rw [ltI_false h1, ltI_false h2, ltI_true h3]; simp
      · by_cases h4 : 57 < y
        · rw [ltI_false h1, ltI_false h2, ltI_false h3, ltI_true h4]; simp
        · rw [ltI_false h1, ltI_false h2, ltI_false h3, ltI_false h4]; simp only [cond_false]; omega
theorem numv4 (x y z w : Int) : -1 ≤ numv [x, y, z, w] 0 ∧ numv [x, y, z, w] 0 ≤ 9999 := by
  have e : numv [x, y, z, w] 0 = bif ltI x 48 then -1 else bif ltI 57 x then -1 else bif ltI y 48 then -1 else bif ltI 57 y then -1 else bif ltI z 48 then -1 else bif ltI 57 z then -1 else bif ltI w 48 then -1 else bif ltI 57 w then -1 else (((0 * 10 + x - 48) * 10 + y - 48) * 10 + z - 48) * 10 + w - 48 := rfl
  rw [e]
  simp only [ltI_eq]
  by_cases h1 : x < 48
  · rw [decide_eq_true h1]; simp
  rw [decide_eq_false h1]
  by_cases h2 : 57 < x
  · rw [decide_eq_true h2]; simp
  rw [decide_eq_false h2]
  by_cases h3 : y < 48
  · rw [decide_eq_true h3]; simp
  rw [decide_eq_false h3]
  by_cases h4 : 57 < y
  · rw [decide_eq_true h4]; simp
  rw [decide_eq_false h4]
  by_cases h5 : z < 48
  · rw [decide_eq_true h5]; simp
  rw [decide_eq_false h5]
  by_cases h6 : 57 < z
  · rw [decide_eq_true h6]; simp
  rw [decide_eq_false h6]
  by_cases h7 : w < 48
  · rw [decide_eq_true h7]; simp
  rw [decide_eq_false h7]
  by_cases h8 : 57 < w
  · rw [decide_eq_true h8]; simp
  rw [decide_eq_false h8]
  simp only [cond_false]
  omega
theorem numv_tw (n : Int) (h : 0 ≤ n ∧ n ≤ 99) : numv (tw n) 0 = n := by
  unfold tw
  simp only [numv]
  rw [ltI_false (by omega), ltI_false (by omega), ltI_false (by omega), ltI_false (by omega)]
  simp only [cond_false]
  omega
theorem numv_tw2 (n m : Int) (h : 0 ≤ n ∧ n ≤ 99) (h2 : 0 ≤ m ∧ m ≤ 99) : numv (tw n ++ tw m) 0 = n * 100 + m := by
  show numv [48 + n / 10 % 10, 48 + n % 10, 48 + m / 10 % 10, 48 + m % 10] 0 = _
  simp only [numv]
  rw [ltI_false (by omega), ltI_false (by omega), ltI_false (by omega), ltI_false (by omega), ltI_false (by omega), ltI_false (by omega), ltI_false (by omega), ltI_false (by omega)]
  simp only [cond_false]
  omega
theorem ryears {R : Type} (M N : Nat) (k0 : Int → Int → Int → List Int → List (List DV) → Int → Int → Int → Int → Int → Option R) (y a : Int) (b : List Int) (c : List (List DV)) (f0 f1 f2 f3 f4 : Int) (hy : y ≤ 10000) : ∀ (n : Nat) (x : Int), 1950 ≤ x → x ≤ y → y - x < n →
    ref14_Get_l2 M (ref14_number_F M N) (ref14_long_F M N) (ref14_days_F M N) (ref14_Time_F M N) k0 n y (A x - 711857) x a b c f0 f1 f2 f3 f4 = k0 y (A y - 711857) a b c f0 f1 f2 f3 f4
  | 0, _, _, _, h => by omega
  | n + 1, x, hx, hxy, hn => by
    show ref14_Get_s2 _ _ _ _ _ _ _ _ _ _ _ _ _ _ _ _ _ _ = _
    unfold ref14_Get_s2
    by_cases e : x = y
    · subst e
      rw [ltI_false (by omega)]
      rfl
    · have hA := A_le (show 1 ≤ x by omega) (show x ≤ 10000 by omega)
      have hs := A_succ x
      rw [ltI_true (by omega), cond_true, long_F M N x (by omega), bindG_some]
      have ih := ryears M N k0 y a b c f0 f1 f2 f3 f4 hy n (x + 1) (by omega) (by omega) (by omega)
      rw [wrap64 (x := x + 1) (by omega) (by omega), wrap64 (x := A x - 711857 + 365) (by omega) (by omega), wrap64 (x := A x - 711857 + 365 + 1) (by omega) (by omega)]
      cases hlp : leap x
      · rw [hlp] at hs
        simp only [Bool.false_eq_true, if_false] at hs
        rw [cond_false, show A x - 711857 + 365 = A (x + 1) - 711857 by omega]
        exact ih
      · rw [hlp] at hs
        simp only [if_true] at hs
        rw [cond_true, show A x - 711857 + 365 + 1 = A (x + 1) - 711857 by omega]
        exact ih
theorem rmonths {R : Type} (M N : Nat) (k0 : Int → Int → List Int → List (List DV) → Int → Int → Int → Int → Int → Option R) (y d0 a : Int) (b : List Int) (c : List (List DV)) (J : Nat) (f1 f2 f3 f4 : Int) (hy : 0 ≤ y) (hJ : J < 12) (hd : 0 ≤ d0 ∧ d0 ≤ 10000000) : ∀ (n j : Nat), j ≤ J → J - j < n →
    ref14_Get_l4 M (ref14_number_F M N) (ref14_long_F M N) (ref14_days_F M N) (ref14_Time_F M N) k0 n y (d0 + Sm y j) ((j + 1 : Nat) : Int) a b c ((J + 1 : Nat) : Int) f1 f2 f3 f4 = k0 (d0 + Sm y J) a b c ((J + 1 : Nat) : Int) f1 f2 f3 f4
  | 0, _, _, h => by omega
  | n + 1, j, hj, hn => by
    show ref14_Get_s4 _ _ _ _ _ _ _ _ _ _ _ _ _ _ _ _ _ _ = _
    unfold ref14_Get_s4
    by_cases e : j = J
    · subst e
      rw [ltI_false (by omega)]
      rfl
    · have hb := Sm_le y j
      have hb2 := mdays_pos y ((j + 1 : Nat) : Int)
      rw [ltI_true (by omega), cond_true, rdays_F M N y (j + 1) hy (by omega) (by omega), bindG_some, wrap64 (x := d0 + Sm y j + mdays y ((j + 1 : Nat) : Int)) (by omega) (by omega), wrap64 (x := ((j + 1 : Nat) : Int) + 1) (by omega) (by omega)]
      have e1 : d0 + Sm y j + mdays y ((j + 1 : Nat) : Int) = d0 + Sm y (j + 1) := by
        show _ = d0 + (Sm y j + mdays y ((j + 1 : Nat) : Int)); omega
      have e2 : ((j + 1 : Nat) : Int) + 1 = ((j + 1 + 1 : Nat) : Int) := by omega
      rw [e1, e2]
      exact rmonths M N k0 y d0 a b c J f1 f2 f3 f4 hy hJ hd n (j + 1) (by omega) (by omega)
end Go.Proofs.Ythmdefgepnkgiaa.Eng
