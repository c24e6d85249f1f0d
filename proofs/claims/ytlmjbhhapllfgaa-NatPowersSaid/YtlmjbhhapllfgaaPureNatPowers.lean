/- Powers of two: their digits, quotients and bytes are what they are to be, for every two exponents. -/
import Derived.Test.YtlmjbhhapllfgaaAx2
import Derived.Test.YtlmjbhhapllfgaaAx13
import Derived.Test.YtlmjbhhapllfgaaAx20
import Derived.Test.YtlmjbhhapllfgaaAx21
import Derived.Test.YtlmjbhhapllfgaaNatDz
namespace Go.Proofs.Ytlmjbhhapllfgaa.Pure
open Go.RowKit Go.Proofs.Ytlmjbhhapllfgaa.A Go.Proofs.Ytlmjbhhapllfgaa.V Go.Proofs.YtlmjbhhapllfgaaW.PrintWords Go.Proofs.YtlmjbhhapllfgaaW.PrintLast
set_option linter.unusedVariables false
set_option linter.unusedSimpArgs false

theorem td32 (p : Nat) : Int.tdiv (p : Int) 32 = ((p / 32 : Nat) : Int) := rfl
theorem tm32 (p : Nat) : Int.tmod (p : Int) 32 = ((p % 32 : Nat) : Int) := rfl
theorem td8 (p : Nat) : Int.tdiv (p : Int) 8 = ((p / 8 : Nat) : Int) := rfl
theorem tm8 (p : Nat) : Int.tmod (p : Int) 8 = ((p % 8 : Nat) : Int) := rfl
theorem pw_ar (n : Nat) (hn : n ≤ 2000) :
    wrap64 ((n / 32 : Nat) : Int) = ((n / 32 : Nat) : Int) ∧ IntKind.u64.wrap ((n % 32 : Nat) : Int) = ((n % 32 : Nat) : Int) ∧ shl .u32 1 ((n % 32 : Nat) : Int) = ((2 ^ (n % 32) : Nat) : Int) ∧
    wrap64 ((n / 8 : Nat) : Int) = ((n / 8 : Nat) : Int) ∧ IntKind.u64.wrap ((n % 8 : Nat) : Int) = ((n % 8 : Nat) : Int) ∧ shl .u8 1 ((n % 8 : Nat) : Int) = ((2 ^ (n % 8) : Nat) : Int) := by
  have h32 := (pow2_lt (n % 32) (by omega)).1
  have h8 : 2 ^ (n % 8) ≤ 128 := Nat.le_trans (Nat.pow_le_pow_right (by omega) (show n % 8 ≤ 7 by omega)) (by decide)
  refine ⟨?_, ?_, ?_, ?_, ?_, ?_⟩
  · rw [w64 _ (by omega) (by omega)]
  · rw [wu64]; omega
  · unfold shl
    rw [wu32, show min ((n % 32 : Nat) : Int).toNat IntKind.u32.bits = n % 32 by simp [IntKind.bits]; omega]
    have : (1 : Int) * 2 ^ (n % 32) = ((2 ^ (n % 32) : Nat) : Int) := by simp
    rw [this]
    generalize 2 ^ (n % 32) = z at *
    omega
  · rw [w64 _ (by omega) (by omega)]
  · rw [wu64]; omega
  · unfold shl
    have w8 : ∀ m : Int, IntKind.u8.wrap m = m % 256 := fun m => by simp [IntKind.wrap, IntKind.bits, IntKind.signed]
    rw [w8, show min ((n % 8 : Nat) : Int).toNat IntKind.u8.bits = n % 8 by simp [IntKind.bits]; omega]
    have : (1 : Int) * 2 ^ (n % 8) = ((2 ^ (n % 8) : Nat) : Int) := by simp
    rw [this]
    generalize 2 ^ (n % 8) = z at *
    omega
theorem powerN (n : Nat) (hn : n ≤ 2000) : apostillelaw7_power.f (n : Int) = some (nm (2 ^ n)) ∧ (nm (2 ^ n)).length = n / 32 + 1 := by
  have h32 := pow2_lt (n % 32) (by omega)
  have hl : n / 32 < (List.replicate (n / 32 + 1) (0 : Int)).length := by simp
  have hw : W ((List.replicate (n / 32 + 1) (0 : Int)).set (n / 32) ((2 ^ (n % 32) : Nat) : Int)) := W_set (W_replicate _) _ _ (Int.natCast_nonneg _) (cast_lt _ (by omega))
  have hlen : ((List.replicate (n / 32 + 1) (0 : Int)).set (n / 32) ((2 ^ (n % 32) : Nat) : Int)).length = n / 32 + 1 := by simp
  have hv : val ((List.replicate (n / 32 + 1) (0 : Int)).set (n / 32) ((2 ^ (n % 32) : Nat) : Int)) = 2 ^ n := by
    have := val_dset (l := List.replicate (n / 32 + 1) (0 : Int)) (n / 32) (2 ^ (n % 32)) hl
    rw [dg_replicate, val_replicate, Nat.mul_zero, Nat.add_zero, Nat.zero_add] at this
    rw [this, pow32, ← Nat.pow_add, Nat.div_add_mod]
  have hc : Canon ((List.replicate (n / 32 + 1) (0 : Int)).set (n / 32) ((2 ^ (n % 32) : Nat) : Int)) := by
    refine ⟨hw, fun _ => ?_⟩
    rw [hlen, show (((n / 32 + 1 : Nat) : Int) - 1) = ((n / 32 : Nat) : Int) by omega, rd_set _ _ _ _ hl, if_pos rfl]
    omega
  have he := canon_eq hc
  rw [hv] at he
  refine ⟨?_, by rw [← he]; exact hlen⟩
  obtain ⟨w1, w2, w3, _⟩ := pw_ar n hn
  have w4 : wrap64 (((n / 32 : Nat) : Int) + 1) = ((n / 32 + 1 : Nat) : Int) := wsucc _ (by clear w1 w2 w3; omega)
  unfold apostillelaw7_power.f
  rw [td32, tm32, w1, w4, w2, w3, if_pos (Int.natCast_nonneg _), if_pos (by clear w1 w2 w3 w4; omega)]
  simp only [Option.bind_some, Int.toNat_natCast]
  rw [if_pos (Int.natCast_nonneg _), if_pos (Int.natCast_nonneg _), if_pos (by clear w1 w2 w3 w4; simp; omega), he]
theorem bl_pow (n : Nat) : bl (2 ^ n) = n + 1 := by
  have := bl_mul 1 0 n (by omega) (Nat.pow_pos (by omega))
  rw [Nat.mul_one, Nat.add_zero] at this
  rw [this]
  have : bl 1 = 1 := by rw [bl_pos (by omega)]; simp [bl_zero]
  rw [this]
theorem bl_pred (n : Nat) : bl (2 ^ n - 1) = n := by
  have h1 : bl (2 ^ n - 1) ≤ n := (bl_le _ _).mpr (by have : 0 < 2 ^ n := Nat.pow_pos (by omega); omega)
  rcases Nat.eq_zero_or_pos n with h | h
  · omega
  · have h2 : ¬ bl (2 ^ n - 1) ≤ n - 1 := by
      rw [bl_le]
      have e : 2 ^ n = 2 * 2 ^ (n - 1) := by rw [← Nat.pow_succ', show (n - 1).succ = n by omega]
      have : 0 < 2 ^ (n - 1) := Nat.pow_pos (by omega)
      omega
    omega
theorem first_byte (n : Nat) : 2 ^ n / 256 ^ (n / 8) % 256 = 2 ^ (n % 8) := by
  have e : 2 ^ n = 256 ^ (n / 8) * 2 ^ (n % 8) := by rw [pow8, ← Nat.pow_add, Nat.div_add_mod]
  have h8 : 2 ^ (n % 8) ≤ 128 := Nat.le_trans (Nat.pow_le_pow_right (by omega) (show n % 8 ≤ 7 by omega)) (by decide)
  rw [e, Nat.mul_div_cancel_left _ (Nat.pow_pos (by omega)), Nat.mod_eq_of_lt (by omega)]
theorem sub_ar (n m : Nat) (hn : n ≤ 2000) (hm : m ≤ n) : wrap64 ((n : Int) - (m : Int)) = ((n - m : Nat) : Int) := by rw [w64 _ (by omega) (by omega)]; omega
theorem NatPowers_j0 (n m : Nat) (hn : n ≤ 2000) (hm : m ≤ n) : Ev (fun k => apostillelaw7_NatPowers.j0 k (n : Int) (m : Int) false) true := by
  obtain ⟨p1, l1⟩ := powerN n hn
  obtain ⟨p2, l2⟩ := powerN m (by omega)
  obtain ⟨p3, l3⟩ := powerN (n - m) (by omega)
  have hA : (nm (2 ^ n)).length < 100000 ∧ (nm (2 ^ n)).length < 140737488355328 ∧ (nm (2 ^ n)).length < 35184372088832 := by rw [l1]; omega
  have hB : (nm (2 ^ m)).length < 100000 ∧ 0 < (nm (2 ^ m)).length ∧ (nm (2 ^ m)).length < 17592186044416 := by rw [l2]; omega
  have hC : (nm (2 ^ (n - m))).length < 17592186044416 ∧ (nm (2 ^ (n - m))).length < 140737488355328 := by rw [l3]; omega
  have hD : 0 < (nm (2 ^ n)).length ∧ (nm (2 ^ n)).length ≤ 256 := by rw [l1]; omega
  have q1 : ((n + 1 : Nat) : Int) > 8 * ((n / 8 : Nat) : Int) := by omega
  have q2 : ¬ (((n / 8 + 1 : Nat) : Int) < 0 ∨ ((n / 8 + 1 : Nat) : Int) > 2048 ∨ ((n + 1 : Nat) : Int) > 8 * ((n / 8 + 1 : Nat) : Int)) := by omega
  have q3 : n / 8 + 1 - 1 - 0 = n / 8 := by omega
  have q4 : n - m + m = n := by omega
  have e1 : 2 ^ n = 2 ^ (n - m) * 2 ^ m := by rw [← Nat.pow_add, q4]
  have hp : 0 < 2 ^ m := Nat.pow_pos (by omega)
  have hpn : 1 ≤ 2 ^ n := Nat.pow_pos (by omega)
  have hd := divN (nm_canon (2 ^ n)) (nm_canon (2 ^ m)) hA.1 hB.1 hB.2.1
  rw [val_nm, val_nm] at hd
  have hq : 2 ^ n / 2 ^ m = 2 ^ (n - m) := by rw [e1, Nat.mul_div_cancel _ hp]
  have hr : 2 ^ n % 2 ^ m = 0 := by rw [e1, Nat.mul_mod_left]
  rw [hq, hr, nm_zero] at hd
  have h1 : ([1] : List Int) = nm 1 := by rw [nm_pos (by omega), nm_zero]; rfl
  have hs := subN (nm_canon (2 ^ n)) (nm_canon 1) hA.2.2
  rw [val_nm, val_nm, ← h1] at hs
  have hs1 : subR (2 ^ n) 1 = (nm (2 ^ n - 1), true) := by unfold subR; rw [if_neg (Nat.not_lt.mpr hpn)]
  rw [hs1] at hs
  have hb1 := bytesN (V := 2 ^ n) hA.2.1 ((n / 8 : Nat) : Int)
  have hb1' : bytesR (2 ^ n) ((n / 8 : Nat) : Int) = ([], false) := by unfold bytesR; rw [bl_pow, if_pos (Or.inr (Or.inr q1))]
  rw [hb1'] at hb1
  have hb2 := bytesN (V := 2 ^ n) hA.2.1 ((n / 8 + 1 : Nat) : Int)
  have hb2' : bytesR (2 ^ n) ((n / 8 + 1 : Nat) : Int) = (bytesOf (2 ^ n) (n / 8 + 1), true) := by unfold bytesR; rw [bl_pow, if_neg q2, Int.toNat_natCast]
  rw [hb2'] at hb2
  have hx0 : rd (bytesOf (2 ^ n) (n / 8 + 1)) 0 = ((2 ^ (n % 8) : Nat) : Int) := by
    have := bytesOf_rd (2 ^ n) (n / 8 + 1) 0 (Nat.succ_pos _)
    rw [q3, first_byte] at this
    exact this
  have hbl := bytesOf_len (2 ^ n) (n / 8 + 1)
  have hpl : (nm (2 ^ n - 1)).length ≤ n / 32 + 1 := nm_len_lt (by
    have := nm_len_le (n := 2 ^ n)
    rw [l1] at this
    exact Nat.lt_of_le_of_lt (Nat.sub_le _ _) this)
  have hpl2 : (nm (2 ^ n - 1)).length < 140737488355328 := by
    clear e1 hp hpn hd hs hb1 hb2 hx0 hb1' hb2' hs1 hq hr
    omega
  have hmul := mulN (nm_W (2 ^ (n - m))) (nm_W (2 ^ m)) hC.1 hB.2.2
  rw [val_nm, val_nm, ← e1] at hmul
  have his : isb (nm (2 ^ n)) = true := by
    unfold isb
    have h9 := (nm_canon (2 ^ n)).2 hD.1
    simp only [Bool.and_eq_true, decide_eq_true_eq, Bool.or_eq_true]
    exact ⟨hD.2, Or.inr h9⟩
  obtain ⟨_, _, _, w1, w2, w3⟩ := pw_ar n hn
  have w4 : wrap64 (((n / 8 : Nat) : Int) + 1) = ((n / 8 + 1 : Nat) : Int) := wsucc _ (Nat.lt_of_le_of_lt (Nat.div_le_self _ _) (Nat.lt_of_le_of_lt hn (by decide)))
  have w5 : wrap64 ((n : Int) + 1) = ((n + 1 : Nat) : Int) := wsucc _ (Nat.lt_of_le_of_lt hn (by decide))
  have w6 : wrap64 ((n : Int) - (m : Int)) = ((n - m : Nat) : Int) := sub_ar n m hn hm
  have hbits := bitsN (V := 2 ^ n) hA.2.1
  rw [bl_pow] at hbits
  have hbits2 := bitsN (V := 2 ^ n - 1) hpl2
  rw [bl_pred] at hbits2
  have his2 := refisN (l := nm (2 ^ n)) hA.2.1
  rw [his] at his2
  have hsm1 := hA.2.1
  have hsm3 := hC.2
  clear hq hr e1 hpl hp hpn
  have c1 : ((bytesOf (2 ^ n) (n / 8 + 1)).length : Int) > 0 := by rw [hbl]; exact Int.natCast_pos.mpr (Nat.succ_pos _)
  refine Ev.step (fun k => by simp only [apostillelaw7_NatPowers.j0]; rw [if_neg (by simp)]) ?_
  refine Ev.bind (f := fun k t530 => _) (g := fun _ => apostillelaw7_power.f (n : Int)) (by rw [p1]; exact Ev.now _) ?_
  refine Ev.bind (f := fun k t533 => _) (g := fun _ => apostillelaw7_power.f (m : Int)) (by rw [p2]; exact Ev.now _) ?_
  refine Ev.bind (f := fun k bt536 => _) hd ?_
  refine Ev.bind (f := fun k bt546 => _) hs ?_
  rw [td8, w1, w4]
  refine Ev.bind (f := fun k bt550 => _) hb1 ?_
  refine Ev.bind (f := fun k bt554 => _) hb2 ?_
  refine Ev.bind (f := fun k t558 => _) (g := fun _ => nat_Bits.f (nm (2 ^ n))) (by rw [hbits]; exact Ev.now _) ?_
  rw [w5, w6]
  refine Ev.congr (fun k => if_pos rfl) ?_
  refine Ev.congr (fun k => if_pos rfl) ?_
  refine Ev.bind (f := fun k t559 => _) (g := fun _ => apostillelaw7_power.f ((n - m : Nat) : Int)) (by rw [p3]; exact Ev.now _) ?_
  refine Ev.bind (f := fun k t562 => _) (same_self hsm3) ?_
  refine Ev.congr (fun k => if_pos rfl) ?_
  refine Ev.congr (fun k => if_pos rfl) ?_
  refine Ev.congr (fun k => if_pos rfl) ?_
  refine Ev.bind (f := fun k t563 => _) (g := fun _ => nat_Bits.f (nm (2 ^ n - 1))) (by rw [hbits2]; exact Ev.now _) ?_
  refine Ev.congr (fun k => if_pos rfl) ?_
  refine Ev.congr (fun k => if_neg (by simp)) ?_
  refine Ev.congr (fun k => if_pos rfl) ?_
  refine Ev.congr (fun k => if_pos c1) ?_
  refine Ev.congr (fun k => if_pos c1) ?_
  rw [tm8, w2, w3, hx0]
  refine Ev.congr (fun k => if_pos (Int.natCast_nonneg _)) ?_
  refine Ev.congr (fun k => if_pos rfl) ?_
  refine Ev.bind (f := fun k t565 => _) hmul ?_
  refine Ev.bind (f := fun k t568 => _) (same_self hsm1) ?_
  refine Ev.congr (fun k => if_pos rfl) ?_
  refine Ev.bind (f := fun k t569 => _) (g := fun _ => apostilleref7_Is.f (nm (2 ^ n))) (by rw [his2]; exact Ev.now _) ?_
  exact Ev.congr (fun k => if_pos rfl) known1
theorem NatPowers : apostillelaw7_NatPowers.Pure := by
  intro a0 a1 _ _
  apply Ev.rounds
  have hT : Ev (fun k => apostillelaw7_NatPowers.j0 k a0 a1 true) true := Ev.step (f := fun _ => some true) (fun k => by simp only [apostillelaw7_NatPowers.j0, if_true]) (Ev.now _)
  unfold apostillelaw7_NatPowers.f
  by_cases h0 : a0 < 0
  · exact Ev.congr (fun k => if_pos h0) hT
  · refine Ev.congr (fun k => if_neg h0) ?_
    by_cases h1 : a0 > 2000
    · exact Ev.congr (fun k => if_pos h1) hT
    · refine Ev.congr (fun k => if_neg h1) ?_
      by_cases h2 : a1 < 0
      · exact Ev.congr (fun k => if_pos h2) hT
      · refine Ev.congr (fun k => if_neg h2) ?_
        by_cases h3 : a1 > a0
        · rw [decide_eq_true h3]; exact hT
        · rw [decide_eq_false h3]
          have := NatPowers_j0 a0.toNat a1.toNat (by omega) (by omega)
          rwa [Int.toNat_of_nonneg (by omega), Int.toNat_of_nonneg (by omega)] at this
end Go.Proofs.Ytlmjbhhapllfgaa.Pure
