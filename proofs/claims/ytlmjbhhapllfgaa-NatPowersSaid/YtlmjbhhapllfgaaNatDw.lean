/- The division of numbers: digit by digit, by a guess that is at most one too great. -/
import Derived.Test.YtlmjbhhapllfgaaAx6
import Derived.Test.YtlmjbhhapllfgaaNatDv
namespace Go.Proofs.Ytlmjbhhapllfgaa.V
open Go.RowKit Go.Proofs.Ytlmjbhhapllfgaa.A Go.Proofs.YtlmjbhhapllfgaaW.PrintWords Go.Proofs.YtlmjbhhapllfgaaW.PrintLast
set_option linter.unusedVariables false
set_option linter.unusedSimpArgs false

/-! the guess -/
theorem gs_ar (q r v1 v2 u2 : Nat) (hr : r < 4294967296) (h1 : v1 < 4294967296) (h2 : v2 < 4294967296) (hu : u2 < 4294967296) (hq : q ≤ 4294967297) :
    (q < 4294967296 → IntKind.u64.wrap ((q : Int) * IntKind.u64.wrap (v2 : Int)) = ((q * v2 : Nat) : Int)) ∧
    Go.bits .or .u64 (IntKind.u64.wrap ((r : Int) * 4294967296)) (IntKind.u64.wrap (u2 : Int)) = ((r * 4294967296 + u2 : Nat) : Int) ∧
    IntKind.u64.wrap ((r : Int) + IntKind.u64.wrap (v1 : Int)) = ((r + v1 : Nat) : Int) ∧ (0 < q → IntKind.u64.wrap ((q : Int) - 1) = ((q - 1 : Nat) : Int)) := by
  have w2 : IntKind.u64.wrap (v2 : Int) = (v2 : Int) := by rw [wu64]; omega
  have w1 : IntKind.u64.wrap (v1 : Int) = (v1 : Int) := by rw [wu64]; omega
  have wu : IntKind.u64.wrap (u2 : Int) = (u2 : Int) := by rw [wu64]; omega
  have wr : IntKind.u64.wrap ((r : Int) * 4294967296) = (r : Int) * 4294967296 := by rw [wu64]; omega
  refine ⟨fun hq => ?_, ?_, ?_, fun h => ?_⟩
  · have : q * v2 ≤ 4294967295 * 4294967295 := Nat.mul_le_mul (by omega) (by omega)
    rw [w2, wu64, ← Int.natCast_mul]
    clear w1 w2 wu wr
    generalize q * v2 = z at *
    omega
  · rw [wr, wu, u64_join _ _ 32 (by omega) (by omega) (by omega) (by omega) (by omega) (by omega)]
    clear w1 w2 wu wr
    omega
  · rw [w1, wu64]; clear w1 w2 wu wr; omega
  · rw [wu64]; clear w1 w2 wu wr; omega
theorem guess_l0 {p v : List Int} (hp : W p) (hv : W v) (n : Nat) (hn : 2 ≤ n) (hln : v.length = n) (hlp : p.length = n + 1) (hnb : n < 1000000) (top qt : Nat)
    (htop : top < dg v (n - 1) * 4294967296 + 4294967296) (hqt : qt < 4294967296) (hqb : qt * (dg v (n - 1) * 4294967296 + dg v (n - 2)) ≤ top * 4294967296 + dg p (n - 2)) :
    ∀ (q r : Nat), q * dg v (n - 1) + r = top → r < 4294967296 → q ≤ 4294967297 → qt ≤ q →
    ∃ g : Nat, qt ≤ g ∧ g < 4294967296 ∧ g * (dg v (n - 1) * 4294967296 + dg v (n - 2)) ≤ top * 4294967296 + dg p (n - 2) ∧ Ev (fun k => nat_guess.l0 k p v (n : Int) (q : Int) (r : Int)) (g : Int) := by
  intro q
  induction q with
  | zero =>
    intro r h1 h2 h3 h4
    refine ⟨0, by omega, by omega, by simp, ?_⟩
    have hr1 := dg_lt hv (n - 2)
    obtain ⟨e1, e2, _, _⟩ := gs_ar 0 r (dg v (n - 1)) (dg v (n - 2)) (dg p (n - 2)) h2 (dg_lt hv _) (dg_lt hv _) (dg_lt hp _) (by omega)
    have e1 := e1 (by omega)
    have w : wrap64 ((n : Int) - 2) = ((n - 2 : Nat) : Int) := by clear e1 e2; rw [w64 _ (by omega) (by omega)]; omega
    have c1 : (0 : Int) ≤ ((n - 2 : Nat) : Int) := Int.natCast_nonneg _
    have c2 : ((n - 2 : Nat) : Int) < (v.length : Int) := by clear e1 e2 w; omega
    have c3 : ((n - 2 : Nat) : Int) < (p.length : Int) := by clear e1 e2 w; omega
    refine Ev.step (f := fun k => nat_guess.j1 k p v (n : Int) ((0 : Nat) : Int) (r : Int) false) (fun k => ?_) ?_
    · simp only [nat_guess.l0, w]
      rw [if_neg (by clear e1 e2 w; omega), if_pos c1, if_pos c2, if_pos c3, rd_dg hv, rd_dg hp, e1, e2]
      congr 1
      exact decide_eq_false (by clear e1 e2 w; omega)
    · refine Ev.step (f := fun _ => some ((0 : Nat) : Int)) (fun k => ?_) (Ev.now _)
      simp only [nat_guess.j1]
      rw [if_neg (by simp)]
  | succ q ih =>
    intro r h1 h2 h3 h4
    have hv1 := dg_lt hv (n - 1)
    have hv2 := dg_lt hv (n - 2)
    have hu2 := dg_lt hp (n - 2)
    have hm1 : (q + 1) * dg v (n - 1) = q * dg v (n - 1) + dg v (n - 1) := Nat.succ_mul _ _
    have hmb : (q + 1) * (dg v (n - 1) * 4294967296 + dg v (n - 2)) = (q * dg v (n - 1)) * 4294967296 + dg v (n - 1) * 4294967296 + (q * dg v (n - 2) + dg v (n - 2)) := by
      rw [Nat.mul_add, Nat.succ_mul, Nat.succ_mul, Nat.mul_assoc]
    have hmc : q * (dg v (n - 1) * 4294967296 + dg v (n - 2)) = (q * dg v (n - 1)) * 4294967296 + q * dg v (n - 2) := by rw [Nat.mul_add, Nat.mul_assoc]
    have hq2 : (q + 1) * dg v (n - 2) = q * dg v (n - 2) + dg v (n - 2) := Nat.succ_mul _ _
    have hqv2 : q * dg v (n - 2) ≤ 4294967296 * 4294967295 := Nat.mul_le_mul (by omega) (by omega)
    obtain ⟨e1, e2, e3, e4⟩ := gs_ar (q + 1) r (dg v (n - 1)) (dg v (n - 2)) (dg p (n - 2)) h2 hv1 hv2 hu2 h3
    have e4 := e4 (by omega)
    have w1 : wrap64 ((n : Int) - 1) = ((n - 1 : Nat) : Int) := by clear e1 e2 e3 e4; rw [w64 _ (by omega) (by omega)]; omega
    have w2 : wrap64 ((n : Int) - 2) = ((n - 2 : Nat) : Int) := by clear e1 e2 e3 e4 w1; rw [w64 _ (by omega) (by omega)]; omega
    have c1 : (0 : Int) ≤ ((n - 2 : Nat) : Int) := Int.natCast_nonneg _
    have c2 : ((n - 2 : Nat) : Int) < (v.length : Int) := by clear e1 e2 e3 e4 w1 w2; omega
    have c3 : ((n - 2 : Nat) : Int) < (p.length : Int) := by clear e1 e2 e3 e4 w1 w2; omega
    have c4 : (0 : Int) ≤ ((n - 1 : Nat) : Int) := Int.natCast_nonneg _
    have c5 : ((n - 1 : Nat) : Int) < (v.length : Int) := by clear e1 e2 e3 e4 w1 w2; omega
    -- one less, where it is too great
    have L : qt ≤ q → ∃ g : Nat, qt ≤ g ∧ g < 4294967296 ∧ g * (dg v (n - 1) * 4294967296 + dg v (n - 2)) ≤ top * 4294967296 + dg p (n - 2) ∧ Ev (fun k => nat_guess.j1 k p v (n : Int) ((q + 1 : Nat) : Int) (r : Int) true) (g : Int) := by
      intro hle
      rcases Nat.lt_or_ge (r + dg v (n - 1)) 4294967296 with hb | hb
      · obtain ⟨g, g1, g2, g3, g4⟩ := ih (r + dg v (n - 1)) (by clear e1 e2 e3 e4 w1 w2; omega) hb (by clear e1 e2 e3 e4 w1 w2; omega) hle
        refine ⟨g, g1, g2, g3, Ev.step (fun k => ?_) g4⟩
        simp only [nat_guess.j1, w1]
        rw [if_pos trivial, if_pos c4, if_pos c5, rd_dg hv, e3, if_neg (by clear e1 e2 e3 e4 w1 w2; omega), e4]
        rfl
      · have hq1 : q < 4294967296 := by
          have h6 : q * dg v (n - 1) < dg v (n - 1) * 4294967296 := by clear e1 e2 e3 e4 w1 w2; omega
          rw [Nat.mul_comm] at h6
          exact Nat.lt_of_mul_lt_mul_left h6
        refine ⟨q, hle, hq1, by rw [hmc]; clear e1 e2 e3 e4 w1 w2; omega, Ev.step (f := fun _ => some (q : Int)) (fun k => ?_) (Ev.now _)⟩
        simp only [nat_guess.j1, w1]
        rw [if_pos trivial, if_pos c4, if_pos c5, rd_dg hv, e3, if_pos (by clear e1 e2 e3 e4 w1 w2; omega), e4]
        rfl
    rcases Nat.lt_or_ge (q + 1) 4294967296 with hq | hq
    · have e1 := e1 hq
      by_cases hc : (q + 1) * dg v (n - 2) > r * 4294967296 + dg p (n - 2)
      · have hle : qt ≤ q := by
          rcases Nat.lt_or_ge q qt with h | h
          · have := Nat.mul_le_mul_right (dg v (n - 1) * 4294967296 + dg v (n - 2)) (show q + 1 ≤ qt from h)
            clear e1 e2 e3 e4 w1 w2 L
            omega
          · exact h
        obtain ⟨g, g1, g2, g3, g4⟩ := L hle
        refine ⟨g, g1, g2, g3, Ev.step (fun k => ?_) g4⟩
        simp only [nat_guess.l0, w2]
        rw [if_neg (by clear e1 e2 e3 e4 w1 w2 L; omega), if_pos c1, if_pos c2, if_pos c3, rd_dg hv, rd_dg hp, e1, e2]
        congr 1
        exact decide_eq_true (Int.ofNat_lt.mpr hc)
      · refine ⟨q + 1, h4, hq, by rw [hmb]; clear e1 e2 e3 e4 w1 w2 L; omega, Ev.step (f := fun k => nat_guess.j1 k p v (n : Int) ((q + 1 : Nat) : Int) (r : Int) false) (fun k => ?_) ?_⟩
        · simp only [nat_guess.l0, w2]
          rw [if_neg (by clear e1 e2 e3 e4 w1 w2 L; omega), if_pos c1, if_pos c2, if_pos c3, rd_dg hv, rd_dg hp, e1, e2]
          congr 1
          exact decide_eq_false (fun h => hc (Int.ofNat_lt.mp h))
        · refine Ev.step (f := fun _ => some ((q + 1 : Nat) : Int)) (fun k => ?_) (Ev.now _)
          simp only [nat_guess.j1]
          rw [if_neg (by simp)]
    · obtain ⟨g, g1, g2, g3, g4⟩ := L (by clear e1 e2 e3 e4 w1 w2 L; omega)
      refine ⟨g, g1, g2, g3, Ev.step (fun k => ?_) g4⟩
      simp only [nat_guess.l0]
      rw [if_pos (by clear e1 e2 e3 e4 w1 w2 L; omega)]
/-- what a guess is worth: with the whole numbers behind the first digits -/
theorem guess_high (P V t2 v2 z pr vr g : Nat) (hP : P = pr + z * t2) (hV : V = vr + z * v2) (hvr : vr < z) (hv2 : 4294967296 ≤ v2) (hg : g < 4294967296) (h : g * v2 ≤ t2) : g ≤ P / V + 1 := by
  have hVp : 0 < V := by
    have : z * 4294967296 ≤ z * v2 := Nat.mul_le_mul_left z hv2
    omega
  have h1 : g * V < P + V := by
    have e1 : g * V = g * vr + z * (g * v2) := by rw [hV, Nat.mul_add, Nat.mul_left_comm]
    have e2 : z * (g * v2) ≤ z * t2 := Nat.mul_le_mul_left z h
    have e3 : g * vr ≤ 4294967296 * z := Nat.mul_le_mul (by omega) (by omega)
    have e3' : g * vr < 4294967296 * z ∨ z = 0 := by
      rcases Nat.eq_zero_or_pos z with h0 | h0
      · exact Or.inr h0
      · refine Or.inl (Nat.lt_of_le_of_lt (Nat.mul_le_mul_left g (Nat.le_of_lt hvr)) (Nat.mul_lt_mul_of_pos_right hg h0))
    have e4 : z * 4294967296 ≤ z * v2 := Nat.mul_le_mul_left z hv2
    rcases e3' with e5 | e5
    · omega
    · omega
  have h2 : P < (P / V + 1) * V := by
    have := Nat.div_add_mod P V
    have h3 := Nat.mod_lt P hVp
    rw [Nat.add_mul, Nat.one_mul, Nat.mul_comm]
    omega
  rcases Nat.lt_or_ge (P / V + 1) g with h3 | h3
  · have h4 : (P / V + 1 + 1) * V ≤ g * V := Nat.mul_le_mul_right V h3
    rw [Nat.add_mul (P / V + 1), Nat.one_mul] at h4
    omega
  · exact h3
theorem guess_low (P V t2 v2 z pr vr : Nat) (hP : P = pr + z * t2) (hV : V = vr + z * v2) (hpr : pr < z) : P / V * v2 ≤ t2 := by
  have h1 : P / V * V ≤ P := Nat.div_mul_le_self _ _
  have h2 : z * (P / V * v2) ≤ P / V * V := by rw [hV, Nat.mul_add, Nat.mul_left_comm]; omega
  have h3 : z * (P / V * v2) < z * (t2 + 1) := by rw [Nat.mul_add, Nat.mul_one]; omega
  have := Nat.lt_of_mul_lt_mul_left h3
  omega
theorem gt_ar (a b v1 : Nat) (ha : a < 4294967296) (hb : b < 4294967296) (hv : 0 < v1) (hv1 : v1 < 4294967296) :
    Go.bits .or .u64 (IntKind.u64.wrap (IntKind.u64.wrap (a : Int) * 4294967296)) (IntKind.u64.wrap (b : Int)) = ((a * 4294967296 + b : Nat) : Int) ∧
    IntKind.u64.wrap (Int.tdiv ((a * 4294967296 + b : Nat) : Int) (IntKind.u64.wrap (v1 : Int))) = (((a * 4294967296 + b) / v1 : Nat) : Int) ∧
    Int.tmod ((a * 4294967296 + b : Nat) : Int) (IntKind.u64.wrap (v1 : Int)) = (((a * 4294967296 + b) % v1 : Nat) : Int) ∧ ¬ (IntKind.u64.wrap (v1 : Int)) = 0 := by
  have w1 : IntKind.u64.wrap (v1 : Int) = (v1 : Int) := by rw [wu64]; omega
  have wa : IntKind.u64.wrap (a : Int) = (a : Int) := by rw [wu64]; omega
  have wb : IntKind.u64.wrap (b : Int) = (b : Int) := by rw [wu64]; omega
  have wr : IntKind.u64.wrap ((a : Int) * 4294967296) = (a : Int) * 4294967296 := by rw [wu64]; omega
  refine ⟨?_, ?_, ?_, ?_⟩
  · rw [wa, wr, wb, u64_join _ _ 32 (by omega) (by omega) (by omega) (by omega) (by omega) (by omega)]
    clear w1 wa wb wr
    omega
  · rw [w1]
    have e : Int.tdiv ((a * 4294967296 + b : Nat) : Int) (v1 : Int) = (((a * 4294967296 + b) / v1 : Nat) : Int) := rfl
    rw [e, wu64]
    have := Nat.div_le_self (a * 4294967296 + b) v1
    clear w1 wa wb wr e
    generalize (a * 4294967296 + b) / v1 = z at *
    omega
  · rw [w1]; rfl
  · rw [w1]; clear w1 wa wb wr; omega
theorem three (z a b c : Nat) : z * ((a * 4294967296 + b) * 4294967296 + c) = z * c + 4294967296 * z * b + 4294967296 * (4294967296 * z) * a := by
  have e1 : z * ((a * 4294967296 + b) * 4294967296 + c) = (z * a * 4294967296 + z * b) * 4294967296 + z * c := by rw [Nat.mul_add, ← Nat.mul_assoc, Nat.mul_add, ← Nat.mul_assoc]
  have e2 : 4294967296 * z * b = 4294967296 * (z * b) := Nat.mul_assoc _ _ _
  have e3 : 4294967296 * (4294967296 * z) * a = 4294967296 * (4294967296 * (z * a)) := by rw [Nat.mul_assoc, Nat.mul_assoc]
  rw [e1, e2, e3]
  omega
theorem guessN {p v : List Int} (hp : W p) (hv : W v) (n : Nat) (hn : 2 ≤ n) (hln : v.length = n) (hlp : p.length = n + 1) (hnb : n < 1000000) (htopd : 2147483648 ≤ dg v (n - 1)) (hP : val p < val v * 4294967296) :
    ∃ g : Nat, val p / val v ≤ g ∧ g ≤ val p / val v + 1 ∧ g < 4294967296 ∧ Ev (fun k => nat_guess.f k p v) (g : Int) := by
  have hv1 := dg_lt hv (n - 1)
  have hv2 := dg_lt hv (n - 2)
  have hu0 := dg_lt hp n
  have hu1 := dg_lt hp (n - 1)
  have hu2 := dg_lt hp (n - 2)
  have a1 := take_dg hv (n - 2)
  have a2 := take_dg hv (n - 1)
  have b1 := take_dg hp (n - 2)
  have b2 := take_dg hp (n - 1)
  have b3 := take_dg hp n
  rw [show n - 2 + 1 = n - 1 by omega] at a1 b1
  rw [show n - 1 + 1 = n by omega] at a2 b2
  rw [List.take_of_length_le (by omega)] at a2
  rw [List.take_of_length_le (by omega)] at b3
  have ez : (4294967296 : Nat) ^ (n - 1) = 4294967296 * 4294967296 ^ (n - 2) := by rw [← pow_succ', show n - 2 + 1 = n - 1 by omega]
  have ez2 : (4294967296 : Nat) ^ n = 4294967296 * 4294967296 ^ (n - 1) := by rw [← pow_succ', show n - 1 + 1 = n by omega]
  have hV : val v = val (v.take (n - 2)) + 4294967296 ^ (n - 2) * (dg v (n - 1) * 4294967296 + dg v (n - 2)) := by
    rw [a2.1, a1.1, ez, Nat.mul_add, Nat.mul_comm 4294967296, Nat.mul_assoc, Nat.mul_comm 4294967296]
    omega
  have hPv : val p = val (p.take (n - 2)) + 4294967296 ^ (n - 2) * ((dg p n * 4294967296 + dg p (n - 1)) * 4294967296 + dg p (n - 2)) := by
    rw [b3.1, b2.1, b1.1, ez2, ez, three]
    omega
  have hvl := a1.2
  have hpl := b1.2
  have htop : dg p n * 4294967296 + dg p (n - 1) < dg v (n - 1) * 4294967296 + 4294967296 := by
    rcases Nat.lt_or_ge (dg v (n - 1)) (dg p n) with h | h
    · exfalso
      have h5 : 4294967296 ^ n * (dg v (n - 1) + 1) ≤ 4294967296 ^ n * dg p n := Nat.mul_le_mul_left _ h
      have h6 : val v < 4294967296 ^ (n - 1) * (dg v (n - 1) + 1) := by rw [a2.1, Nat.mul_add, Nat.mul_one]; have := a2.2; omega
      have h7 : val v * 4294967296 < 4294967296 ^ n * (dg v (n - 1) + 1) := by
        rw [ez2, Nat.mul_assoc, Nat.mul_comm (val v)]
        exact Nat.mul_lt_mul_of_pos_left h6 (by omega)
      have h8 := b3.1
      clear hV hPv a1 a2 b1 b2 b3 ez ez2 hvl hpl
      omega
    · omega
  have hqt : val p / val v < 4294967296 := by
    rw [Nat.div_lt_iff_lt_mul (by
      rcases Nat.eq_zero_or_pos (val v) with h | h
      · rw [h] at hP; omega
      · exact h), Nat.mul_comm]
    exact hP
  have hlow := guess_low _ _ _ _ _ _ _ hPv hV hpl
  have hpos : 0 < dg v (n - 1) := by omega
  have hdm := Nat.div_add_mod (dg p n * 4294967296 + dg p (n - 1)) (dg v (n - 1))
  have hml := Nat.mod_lt (dg p n * 4294967296 + dg p (n - 1)) hpos
  have hq0 : (dg p n * 4294967296 + dg p (n - 1)) / dg v (n - 1) ≤ 4294967297 := by
    rw [Nat.div_le_iff_le_mul_add_pred hpos]
    clear hV hPv a1 a2 b1 b2 b3 ez ez2 hvl hpl hlow hdm hml hqt
    omega
  have hge : val p / val v ≤ (dg p n * 4294967296 + dg p (n - 1)) / dg v (n - 1) := by
    rw [Nat.le_div_iff_mul_le hpos]
    have e1 : val p / val v * (dg v (n - 1) * 4294967296 + dg v (n - 2)) = val p / val v * dg v (n - 1) * 4294967296 + val p / val v * dg v (n - 2) := by rw [Nat.mul_add, Nat.mul_assoc]
    rw [e1] at hlow
    clear hV hPv a1 a2 b1 b2 b3 ez ez2 hvl hpl hdm hml hqt e1
    generalize val p / val v * dg v (n - 1) = x at *
    generalize val p / val v * dg v (n - 2) = y at *
    omega
  obtain ⟨g, g1, g2, g3, g4⟩ := guess_l0 hp hv n hn hln hlp hnb (dg p n * 4294967296 + dg p (n - 1)) (val p / val v) htop hqt hlow
    ((dg p n * 4294967296 + dg p (n - 1)) / dg v (n - 1)) ((dg p n * 4294967296 + dg p (n - 1)) % dg v (n - 1)) (by rw [Nat.mul_comm]; exact hdm) (Nat.lt_trans hml hv1) hq0 hge
  refine ⟨g, g1, guess_high _ _ _ _ _ _ _ g hPv hV hvl (by clear hV hPv a1 a2 b1 b2 b3 ez ez2 hvl hpl hdm hml hqt hlow hge; omega) g2 g3, g2, Ev.congr (fun k => ?_) g4⟩
  have c1 : (0 : Int) ≤ (n : Int) := Int.natCast_nonneg _
  have c2 : (n : Int) < (p.length : Int) := by rw [hlp]; clear hV hPv a1 a2 b1 b2 b3 ez ez2; omega
  have c3 : (0 : Int) ≤ ((n - 1 : Nat) : Int) := Int.natCast_nonneg _
  have c4 : ((n - 1 : Nat) : Int) < (p.length : Int) := by rw [hlp]; clear hV hPv a1 a2 b1 b2 b3 ez ez2; omega
  have c5 : ((n - 1 : Nat) : Int) < (n : Int) := by clear hV hPv a1 a2 b1 b2 b3 ez ez2; omega
  have w1 : wrap64 ((n : Int) - 1) = ((n - 1 : Nat) : Int) := by clear hV hPv a1 a2 b1 b2 b3 ez ez2; rw [w64 _ (by omega) (by omega)]; omega
  obtain ⟨t1, t2, t3, t4⟩ := gt_ar (dg p n) (dg p (n - 1)) (dg v (n - 1)) hu0 hu1 hpos hv1
  unfold nat_guess.f
  rw [hln, if_pos c1, if_pos c2, w1, if_pos c3, if_pos c4, if_pos c5, rd_dg hv (n - 1), rd_dg hp (n - 1), rd_dg hp n, if_neg t4, t1, t2, t3]
end Go.Proofs.Ytlmjbhhapllfgaa.V
