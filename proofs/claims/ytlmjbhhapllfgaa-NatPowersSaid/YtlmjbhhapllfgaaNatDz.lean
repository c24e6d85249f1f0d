/- The division of numbers: quotient and rest of any two. -/
import Derived.Test.YtlmjbhhapllfgaaAx1
import Derived.Test.YtlmjbhhapllfgaaAx4
import Derived.Test.YtlmjbhhapllfgaaAx5
import Derived.Test.YtlmjbhhapllfgaaAx9
import Derived.Test.YtlmjbhhapllfgaaNatDy
namespace Go.Proofs.Ytlmjbhhapllfgaa.V
open Go.RowKit Go.Proofs.Ytlmjbhhapllfgaa.A Go.Proofs.YtlmjbhhapllfgaaW.PrintWords Go.Proofs.YtlmjbhhapllfgaaW.PrintLast
set_option linter.unusedVariables false
set_option linter.unusedSimpArgs false

theorem bl_two (t : Nat) (h0 : 0 < t) (h : t < 4294967296) : bl t ≤ 32 ∧ 1 ≤ bl t ∧ 2 ^ (bl t - 1) ≤ t ∧ t < 2 ^ bl t := by
  have h1 : bl t ≤ 32 := (bl_le _ _).mpr h
  have h2 : ¬ bl t ≤ 0 := fun hh => by
    have := (bl_le t 0).mp hh
    omega
  have h3 : ¬ bl t ≤ bl t - 1 := by omega
  rw [bl_le] at h3
  exact ⟨h1, by omega, by omega, (bl_le _ _).mp (Nat.le_refl _)⟩
theorem lead (t : Nat) (h0 : 0 < t) (h : t < 4294967296) : ∃ s : Nat, s < 32 ∧ bits_LeadingZeros32.f (t : Int) = some (s : Int) ∧ 2147483648 ≤ t * 2 ^ s ∧ (t + 1) * 2 ^ s ≤ 4294967296 := by
  obtain ⟨h1, h2, h3, h4⟩ := bl_two t h0 h
  refine ⟨32 - bl t, by omega, ?_, ?_, ?_⟩
  · unfold bits_LeadingZeros32.f bits_Len32.f
    rw [if_pos (by omega), Option.bind_some, Int.toNat_natCast, bitLen_bl t (by omega), w64 _ (by omega) (by omega)]
    congr 1
    omega
  · have := Nat.mul_le_mul_right (2 ^ (32 - bl t)) h3
    rw [← Nat.pow_add, show bl t - 1 + (32 - bl t) = 31 by omega] at this
    exact this
  · have := Nat.mul_le_mul_right (2 ^ (32 - bl t)) (show t + 1 ≤ 2 ^ bl t from h4)
    rw [← Nat.pow_add, show bl t + (32 - bl t) = 32 by omega] at this
    exact this
theorem norm_num {b : List Int} (hb : Canon b) (n s : Nat) (hn : b.length = n + 1) (h1 : 2147483648 ≤ dg b n * 2 ^ s) (h2 : (dg b n + 1) * 2 ^ s ≤ 4294967296) :
    (nm (val b * 2 ^ s)).length = n + 1 ∧ 2147483648 ≤ dg (nm (val b * 2 ^ s)) n ∧ 2147483648 * 4294967296 ^ n ≤ val b * 2 ^ s := by
  have a := take_dg hb.1 n
  rw [List.take_of_length_le (by omega)] at a
  have g1 : 4294967296 ^ n * dg b n ≤ val b := by omega
  have g2 : val b < 4294967296 ^ n * (dg b n + 1) := by rw [Nat.mul_add, Nat.mul_one]; omega
  have l1 : 2147483648 * 4294967296 ^ n ≤ val b * 2 ^ s := by
    have e1 := Nat.mul_le_mul_right (2 ^ s) g1
    have e2 := Nat.mul_le_mul_left (4294967296 ^ n) h1
    rw [← Nat.mul_assoc] at e2
    rw [Nat.mul_comm 2147483648]
    omega
  have hp : 0 < 2 ^ s := Nat.pow_pos (by omega)
  have l2 : val b * 2 ^ s < 4294967296 ^ (n + 1) := by
    have e1 : val b * 2 ^ s < 4294967296 ^ n * (dg b n + 1) * 2 ^ s := Nat.mul_lt_mul_of_pos_right g2 hp
    have e2 := Nat.mul_le_mul_left (4294967296 ^ n) h2
    rw [← Nat.mul_assoc] at e2
    rw [Nat.pow_succ]
    omega
  have len : (nm (val b * 2 ^ s)).length = n + 1 := by
    have h3 := nm_len_lt l2
    rcases Nat.lt_or_ge (nm (val b * 2 ^ s)).length (n + 1) with h4 | h4
    · exfalso
      have h5 := nm_len_le (n := val b * 2 ^ s)
      have h6 : (4294967296 : Nat) ^ (nm (val b * 2 ^ s)).length ≤ 4294967296 ^ n := Nat.pow_le_pow_right (by omega) (by omega)
      have := pow_pos' n
      omega
    · omega
  refine ⟨len, ?_, l1⟩
  rw [dg_val (nm_W _), val_nm]
  have h7 : val b * 2 ^ s / 4294967296 ^ n < 4294967296 := by
    rw [Nat.div_lt_iff_lt_mul (pow_pos' n), ← pow_succ']; exact l2
  rw [Nat.mod_eq_of_lt h7, Nat.le_div_iff_mul_le (pow_pos' n)]
  exact l1
theorem divN {a b : List Int} (ha : Canon a) (hb : Canon b) (hla : a.length < 100000) (hlb : b.length < 100000) (h0 : 0 < b.length) : Ev (fun k => nat_Div.f k a b) (nm (val a / val b), nm (val a % val b), true) := by
  unfold nat_Div.f
  refine Ev.congr (fun k => if_neg (by omega)) ?_
  refine Ev.bind (f := fun k t386 => _) (cmpN ha hb (by omega)) ?_
  by_cases hlt : val a < val b
  · have hc : cmpv (val a) (val b) < 0 := by unfold cmpv; rw [if_neg (by omega), if_pos hlt]; decide
    rw [Nat.div_eq_of_lt hlt, Nat.mod_eq_of_lt hlt, nm_zero, ← canon_eq ha]
    refine Ev.congr (f := fun _ => some ([], a, true)) (fun k => ?_) (Ev.now _)
    rw [if_pos hc]
    unfold api_Nat_uint32.f
    rw [if_pos (by omega)]
    rfl
  · have hc : ¬ cmpv (val a) (val b) < 0 := by unfold cmpv; rw [if_neg hlt]; split <;> decide
    refine Ev.congr (fun k => if_neg hc) ?_
    have hll := canon_len_le ha hb (by omega)
    obtain ⟨n, hn⟩ : ∃ n, b.length = n + 1 := ⟨b.length - 1, by omega⟩
    have htd : 0 < dg b n := by
      have := hb.2 h0
      rw [hn, show (((n + 1 : Nat) : Int) - 1) = (n : Int) by omega, rd_dg hb.1] at this
      omega
    have htl := dg_lt hb.1 n
    rcases Nat.eq_zero_or_pos n with hz | hz
    · subst hz
      have hvb : val b = dg b 0 := by
        have := take_dg hb.1 0
        rw [List.take_of_length_le (by omega)] at this
        rw [this.1]; simp [val]
      refine Ev.congr (fun k => if_pos (by omega)) ?_
      refine Ev.congr (fun k => if_pos (by omega)) ?_
      have := shortN ha.1 (dg b 0) htd htl (by omega)
      have e : rd b 0 = (dg b 0 : Int) := rd_dg hb.1 0
      rw [e, hvb]
      exact Ev.bind (f := fun k bt391 => some (bt391.1, bt391.2, true)) this (Ev.now _)
    · refine Ev.congr (fun k => if_neg (by omega)) ?_
      have w1 : wrap64 ((b.length : Int) - 1) = (n : Int) := by rw [w64 _ (by omega) (by omega)]; omega
      obtain ⟨s, hs, el, q1, q2⟩ := lead (dg b n) htd htl
      obtain ⟨len, htop, hbig⟩ := norm_num hb n s hn q1 q2
      obtain ⟨ua, ua1, ua2, ua3, ua4⟩ := shiftedN ha.1 s hs (by omega)
      obtain ⟨ub, ub1, ub2, ub3, ub4⟩ := shiftedN hb.1 s hs (by omega)
      have hpl := plainf ub1 (by omega)
      rw [ub3] at hpl
      have w2 : wrap64 (wrap64 ((a.length : Int) - (b.length : Int)) + 1) = ((a.length - n : Nat) : Int) := by
        clear w1
        rw [w64 ((a.length : Int) - (b.length : Int)) (by omega) (by omega), w64 _ (by omega) (by omega)]; omega
      rw [w1]
      refine Ev.congr (fun k => if_pos (Int.natCast_nonneg _)) ?_
      refine Ev.congr (fun k => if_pos (by clear w1 w2; omega)) ?_
      have el2 : Ev (fun _ => bits_LeadingZeros32.f (rd b (n : Int))) (s : Int) := by
        have e : rd b (n : Int) = (dg b n : Int) := rd_dg hb.1 n
        rw [e, el]
        exact Ev.now _
      refine Ev.bind (f := fun k t398 => _) el2 ?_
      refine Ev.bind (f := fun k t399 => _) ua4 ?_
      refine Ev.bind (f := fun k t402 => _) ub4 ?_
      refine Ev.bind (f := fun k t405 => _) hpl ?_
      rw [w2]
      refine Ev.congr (fun k => if_pos (Int.natCast_nonneg _)) ?_
      refine Ev.congr (fun k => if_pos (by clear w1 w2; omega)) ?_
      refine Ev.bind (f := fun k y408 => _) (g := fun _ => some (List.replicate (((a.length - n : Nat) : Int)).toNat (0 : Int))) (Ev.now _) ?_
      rw [Int.toNat_natCast, List.length_replicate]
      have w3 : wrap64 (((a.length - n : Nat) : Int) - 1) = ((a.length - n : Nat) : Int) - 1 := w64 _ (by clear w1 w2; omega) (by clear w1 w2; omega)
      rw [w3]
      have hult : val ua < val (nm (val b * 2 ^ s)) * 4294967296 ^ (a.length - n) := by
        rw [ua3, val_nm]
        have e1 := val_lt ha.1
        have e2 : 2 ^ s ≤ 2147483648 := (pow2_lt s hs).1
        have e3 : val a * 2 ^ s < 4294967296 ^ a.length * 2147483648 := Nat.lt_of_le_of_lt (Nat.mul_le_mul_left _ e2) (Nat.mul_lt_mul_of_pos_right e1 (by decide))
        have e4 := Nat.mul_le_mul_right (4294967296 ^ (a.length - n)) hbig
        have e5 : 2147483648 * 4294967296 ^ n * 4294967296 ^ (a.length - n) = 4294967296 ^ a.length * 2147483648 := by
          rw [Nat.mul_assoc, ← Nat.pow_add, show n + (a.length - n) = a.length by clear w1 w2 w3; omega, Nat.mul_comm]
        rw [e5] at e4
        exact Nat.lt_of_lt_of_le e3 e4
      have := div_l0 (nm_W (val b * 2 ^ s)) s hs (by rw [len]; clear w1 w2 w3; omega) (by rw [len]; clear w1 w2 w3; omega) (by rw [len]; exact htop) (a.length + 1) (a.length - n) (val a * 2 ^ s) (by rw [len]; clear w1 w2 w3; omega) (by clear w1 w2 w3; omega)
        (a.length - n) (Nat.le_refl _) (List.replicate (a.length - n) 0) ua 0 (W_replicate _) (by simp) (by rw [val_replicate, Nat.mul_zero]) ua1 ua2 hult (by rw [ua3, Nat.mul_zero, Nat.mul_zero, Nat.add_zero])
      rw [val_nm, Nat.mul_div_mul_right _ _ (Nat.pow_pos (by decide)), Nat.mul_mod_mul_right, Nat.mul_div_cancel _ (Nat.pow_pos (by decide))] at this
      exact this
theorem div_none {a b : List Int} (h0 : b.length = 0) : Ev (fun k => nat_Div.f k a b) ([], [], false) := by
  unfold nat_Div.f
  exact Ev.congr (f := fun _ => some ([], [], false)) (fun k => by rw [if_pos (by omega)]) (Ev.now _)
end Go.Proofs.Ytlmjbhhapllfgaa.V
