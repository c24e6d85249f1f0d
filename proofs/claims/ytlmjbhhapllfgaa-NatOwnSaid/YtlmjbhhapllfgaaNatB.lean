/- Numbers by their values. -/
import Derived.Test.YtlmjbhhapllfgaaAx1
import Derived.Test.YtlmjbhhapllfgaaAx4
import Derived.Test.YtlmjbhhapllfgaaAx5
import Derived.Test.YtlmjbhhapllfgaaAx6
import Derived.Test.YtlmjbhhapllfgaaAx7
import Derived.Test.YtlmjbhhapllfgaaAx8
import Derived.Test.YtlmjbhhapllfgaaAx9
import Derived.Test.YtlmjbhhapllfgaaNatA
import Derived.Laws.BitsAll
namespace Go.Proofs.Ytlmjbhhapllfgaa.V
open Go.RowKit Go.Proofs.Ytlmjbhhapllfgaa.A Go.Proofs.YtlmjbhhapllfgaaW.PrintWords Go.Proofs.YtlmjbhhapllfgaaW.PrintLast
set_option linter.unusedVariables false
set_option linter.unusedSimpArgs false

theorem dg_val {l : List Int} (hw : W l) (j : Nat) : dg l j = val l / 4294967296 ^ j % 4294967296 := by
  by_cases h : j < l.length
  · have := rd_val hw j h
    unfold dg
    rw [this]; rfl
  · rw [dg_over l j (by omega), val_over hw j (by omega)]
theorem val_of_dg {l : List Int} (hw : W l) (V : Nat) (hV : V < 4294967296 ^ l.length) (h : ∀ j, j < l.length → dg l j = V / 4294967296 ^ j % 4294967296) : val l = V := by
  have H : ∀ i, i ≤ l.length → val (l.take i) = V % 4294967296 ^ i := by
    intro i
    induction i with
    | zero => intro _; simp [val, Nat.mod_one]
    | succ i ih =>
      intro hi
      rw [(take_dg hw i).1, ih (by omega), h i (by omega), Nat.mod_pow_succ]
  have := H l.length (Nat.le_refl _)
  rwa [List.take_of_length_le (Nat.le_refl _), Nat.mod_eq_of_lt hV] at this
theorem or_low (c m n : Nat) (hc : c < 2 ^ n) : c ||| (2 ^ n * m) = c + 2 ^ n * m := by rw [Nat.or_comm, ← Nat.two_pow_add_eq_or_of_lt hc, Nat.add_comm]
theorem two32 (n : Nat) (h : n < 32) : (4294967296 : Nat) = 2 ^ (32 - n) * 2 ^ n := by rw [← Nat.pow_add, show 32 - n + n = 32 by omega]
theorem pow2_lt (n : Nat) (h : n < 32) : 2 ^ n ≤ 2147483648 ∧ 0 < 2 ^ n := ⟨Nat.le_trans (Nat.pow_le_pow_right (by omega) (show n ≤ 31 by omega)) (by decide), Nat.pow_pos (by omega)⟩

/-! shifted -/
theorem shl_ar (x n c : Nat) (hx : x < 4294967296) (hn : n < 32) (hc : c < 2 ^ n) :
    shl .u64 (IntKind.u64.wrap (x : Int)) (n : Int) = ((x * 2 ^ n : Nat) : Int) ∧ (x * 2 ^ n) / 4294967296 < 2 ^ n ∧
    Go.bits .or .u32 (c : Int) (((x * 2 ^ n : Nat) : Int) % 4294967296) = ((c + (x * 2 ^ n) % 4294967296 : Nat) : Int) ∧ c + (x * 2 ^ n) % 4294967296 < 4294967296 ∧
    ((x * 2 ^ n : Nat) : Int) / 4294967296 % 4294967296 = (((x * 2 ^ n) / 4294967296 : Nat) : Int) := by
  obtain ⟨h1, h2⟩ := pow2_lt n hn
  have e := two32 n hn
  have hm : (x * 2 ^ n) % 4294967296 = 2 ^ n * (x % 2 ^ (32 - n)) := by
    conv => lhs; rw [e]
    rw [Nat.mul_mod_mul_right, Nat.mul_comm]
  have hd : (x * 2 ^ n) / 4294967296 < 2 ^ n := by
    rw [Nat.div_lt_iff_lt_mul (by omega), Nat.mul_comm (2 ^ n)]
    exact Nat.mul_lt_mul_of_pos_right hx h2
  have hb : x * 2 ^ n ≤ 4294967295 * 2147483648 := Nat.mul_le_mul (by omega) h1
  have hs : c + (x * 2 ^ n) % 4294967296 < 4294967296 := by
    rw [hm]
    have h5 : x % 2 ^ (32 - n) + 1 ≤ 2 ^ (32 - n) := Nat.mod_lt _ (Nat.pow_pos (by omega))
    have h6 := Nat.mul_le_mul_left (2 ^ n) h5
    rw [Nat.mul_add, Nat.mul_one, Nat.mul_comm (2 ^ n) (2 ^ (32 - n)), ← e] at h6
    omega
  refine ⟨?_, hd, ?_, hs, ?_⟩
  · have wx : IntKind.u64.wrap (x : Int) = (x : Int) := by rw [wu64]; omega
    have : (x : Int) * 2 ^ n = ((x * 2 ^ n : Nat) : Int) := by simp
    unfold shl
    rw [wx, show min (n : Int).toNat IntKind.u64.bits = n by simp [IntKind.bits]; omega, this, wu64]
    clear wx this
    generalize x * 2 ^ n = z at *
    omega
  · have e1 : ((x * 2 ^ n : Nat) : Int) % 4294967296 = (((x * 2 ^ n) % 4294967296 : Nat) : Int) := by omega
    rw [e1, u32_or_nat c _ (by omega) (Nat.mod_lt _ (by omega)), hm, or_low _ _ _ hc]
  · generalize x * 2 ^ n = z at *
    omega
theorem shifted_val (z s x B r d c u : Nat) (hz : u = s) (hd : B * d + r = x) : (u + z * (c + r)) - z * c + (B * z) * d = s + z * x := by
  subst hz
  rw [← hd, Nat.mul_add, Nat.mul_add]
  have : B * z * d = z * (B * d) := by rw [Nat.mul_comm B z, Nat.mul_assoc]
  omega
theorem shifted_l0 {a : List Int} (ha : W a) (n : Nat) (hn : n < 32) (hl : a.length < 17592186044416) : ∀ (d i : Nat), i + d = a.length → ∀ x : List Int, W x → x.length = a.length + 1 → (∀ j, i < j → dg x j = 0) → dg x i < 2 ^ n → val x = val (a.take i) * 2 ^ n →
    ∃ r : List Int, W r ∧ r.length = a.length + 1 ∧ val r = val a * 2 ^ n ∧ Ev (fun k => nat_shifted.l0 k (n : Int) x a (a.length : Int) (i : Int)) r := by
  intro d
  induction d with
  | zero =>
    intro i hi x hw hx _ _ hv
    obtain rfl : i = a.length := by omega
    rw [List.take_of_length_le (Nat.le_refl _)] at hv
    refine ⟨x, hw, hx, hv, Ev.step (f := fun _ => some x) (fun k => ?_) (Ev.now _)⟩
    simp only [nat_shifted.l0]
    rw [if_neg (by omega)]
  | succ d ih =>
    intro i hi x hw hx hz hc hv
    have hx1 := dg_lt ha i
    obtain ⟨e1, h1, e2, h2, e3⟩ := shl_ar (dg a i) n (dg x i) hx1 hn hc
    have c1 : (i : Int) < (a.length : Int) := by clear e1 e2 e3; omega
    have c2 : (0 : Int) ≤ (i : Int) := by clear e1 e2 e3; omega
    have c3 : (0 : Int) ≤ (n : Int) := by clear e1 e2 e3; omega
    have c4 : (i : Int) < (x.length : Int) := by clear e1 e2 e3; omega
    have c5 : (0 : Int) ≤ ((i + 1 : Nat) : Int) := by clear e1 e2 e3; omega
    have c6 : ((i + 1 : Nat) : Int) < (x.length : Int) := by clear e1 e2 e3; omega
    have hi4 : i < x.length := by clear e1 e2 e3; omega
    have hi5 : i + 1 < x.length := by clear e1 e2 e3; omega
    have hbi : i < 4611686018427387904 := by clear e1 e2 e3; omega
    have h2' := (pow2_lt n hn).1
    have hlt : dg a i * 2 ^ n / 4294967296 < 4294967296 := by clear e1 e2 e3; omega
    let x1 := x.set i ((dg x i + (dg a i * 2 ^ n) % 4294967296 : Nat) : Int)
    have hx1l : x1.length = a.length + 1 := by show (x.set _ _).length = _; rw [List.length_set]; exact hx
    have hw1 : W x1 := W_set hw _ _ (Int.natCast_nonneg _) (by clear e1 e2 e3; omega)
    have hd1 : dg x1 (i + 1) = 0 := by show dg (x.set _ _) _ = _; rw [dg_set _ _ _ _ hi4, if_neg (by clear e1 e2 e3; omega), hz _ (by clear e1 e2 e3; omega)]
    have hv1 := val_dset (l := x) i (dg x i + (dg a i * 2 ^ n) % 4294967296) hi4
    have hv2 := val_dset (l := x1) (i + 1) (dg a i * 2 ^ n / 4294967296) (by rw [hx1l]; clear e1 e2 e3; omega)
    rw [hd1, Nat.mul_zero, Nat.add_zero, pow_succ'] at hv2
    obtain ⟨r, q1, q2, q3, q4⟩ := ih (i + 1) (by clear e1 e2 e3; omega) (x1.set (i + 1) ((dg a i * 2 ^ n / 4294967296 : Nat) : Int)) (W_set hw1 _ _ (Int.natCast_nonneg _) (by clear e1 e2 e3; omega)) (by rw [List.length_set]; exact hx1l)
      (fun j hj => by
        rw [dg_set _ _ _ _ (by rw [hx1l]; clear e1 e2 e3; omega), if_neg (by clear e1 e2 e3; omega)]
        show dg (x.set _ _) _ = _
        rw [dg_set _ _ _ _ hi4, if_neg (by clear e1 e2 e3; omega), hz j (by clear e1 e2 e3; omega)])
      (by rw [dg_set _ _ _ _ (by rw [hx1l]; clear e1 e2 e3; omega), if_pos rfl]; exact h1)
      (by
        rw [hv2, (take_dg ha i).1, Nat.add_mul]
        have hdm := Nat.div_add_mod (dg a i * 2 ^ n) 4294967296
        have := shifted_val (4294967296 ^ i) (val (a.take i) * 2 ^ n) (dg a i * 2 ^ n) 4294967296 ((dg a i * 2 ^ n) % 4294967296) (dg a i * 2 ^ n / 4294967296) (dg x i) (val x) hv hdm
        have h9 : val x1 = val x + 4294967296 ^ i * (dg x i + dg a i * 2 ^ n % 4294967296) - 4294967296 ^ i * dg x i := by
          show val (x.set _ _) = _
          clear e1 e2 e3
          omega
        rw [h9, this, Nat.mul_assoc])
    refine ⟨r, q1, q2, q3, Ev.step (fun k => ?_) q4⟩
    simp only [nat_shifted.l0]
    rw [if_pos c1, if_pos c2, if_pos c1, if_pos c3, if_pos c4, wsucc i hbi, if_pos c5, if_pos c6, rd_dg ha, rd_dg hw, e1, e2, e3]
    rfl
theorem shiftedN {a : List Int} (ha : W a) (n : Nat) (hn : n < 32) (hl : a.length < 17592186044416) :
    ∃ r : List Int, W r ∧ r.length = a.length + 1 ∧ val r = val a * 2 ^ n ∧ Ev (fun k => nat_shifted.f k a (n : Int)) r := by
  obtain ⟨r, h1, h2, h3, h4⟩ := shifted_l0 ha n hn hl a.length 0 (by omega) (List.replicate (a.length + 1) 0) (W_replicate _) (by simp) (fun j _ => dg_replicate _ j) (by rw [dg_replicate]; exact (pow2_lt n hn).2) (by rw [val_replicate]; simp [val])
  refine ⟨r, h1, h2, h3, Ev.congr (fun k => ?_) h4⟩
  unfold nat_shifted.f
  rw [wsucc a.length (by omega), if_pos (by omega), if_pos (by omega)]
  rfl

/-! back -/
theorem back_dg (V i n : Nat) (hn : n < 32) : V / 2 ^ n / 4294967296 ^ i % 4294967296 = V / 4294967296 ^ i % 4294967296 / 2 ^ n + 2 ^ (32 - n) * (V / 4294967296 ^ (i + 1) % 4294967296 % 2 ^ n) := by
  have e := two32 n hn
  have hp := (pow2_lt n hn).2
  rw [Nat.div_div_eq_div_mul, Nat.mul_comm, ← Nat.div_div_eq_div_mul, Nat.pow_succ, ← Nat.div_div_eq_div_mul]
  generalize V / 4294967296 ^ i = z
  have h1 := Nat.div_add_mod z 4294967296
  have hx := Nat.mod_lt z (show 0 < 4294967296 by omega)
  generalize z / 4294967296 = z' at h1 ⊢
  generalize z % 4294967296 = x at h1 hx ⊢
  have h2 : z = x + 2 ^ n * (2 ^ (32 - n) * z') := by rw [← h1, ← Nat.mul_assoc, Nat.mul_comm (2 ^ n), ← e]; omega
  have h3 : z / 2 ^ n = x / 2 ^ n + 2 ^ (32 - n) * z' := by rw [h2, Nat.add_mul_div_left _ _ hp]
  have hq : 0 < 2 ^ (32 - n) := Nat.pow_pos (by omega)
  have h4 : x / 2 ^ n < 2 ^ (32 - n) := by rw [Nat.div_lt_iff_lt_mul hp, ← e]; exact hx
  have h5 : z' % 4294967296 % 2 ^ n = z' % 2 ^ n := by rw [Nat.mod_mod_of_dvd]; rw [e]; exact Nat.dvd_mul_left _ _
  rw [h5, h3]
  conv => lhs; rw [e]
  rw [Nat.mod_mul, Nat.add_mul_mod_self_left, Nat.mod_eq_of_lt h4, Nat.add_mul_div_left _ _ hq, Nat.div_eq_of_lt h4, Nat.zero_add]
theorem back_ar (x y n : Nat) (hx : x < 4294967296) (hy : y < 4294967296) (hn : n < 32) :
    shr .u32 (x : Int) (n : Int) = ((x / 2 ^ n : Nat) : Int) ∧
    shr .u64 (IntKind.u64.wrap (IntKind.u64.wrap (y : Int) * 4294967296)) (n : Int) % 4294967296 = ((2 ^ (32 - n) * (y % 2 ^ n) : Nat) : Int) ∧
    Go.bits .or .u32 ((x / 2 ^ n : Nat) : Int) ((2 ^ (32 - n) * (y % 2 ^ n) : Nat) : Int) = ((x / 2 ^ n + 2 ^ (32 - n) * (y % 2 ^ n) : Nat) : Int) ∧ x / 2 ^ n + 2 ^ (32 - n) * (y % 2 ^ n) < 4294967296 := by
  have e := two32 n hn
  obtain ⟨h1, hp⟩ := pow2_lt n hn
  have hq : 0 < 2 ^ (32 - n) := Nat.pow_pos (by omega)
  have h4 : x / 2 ^ n < 2 ^ (32 - n) := by rw [Nat.div_lt_iff_lt_mul hp, ← e]; exact hx
  have h5 : y % 2 ^ n + 1 ≤ 2 ^ n := Nat.mod_lt _ hp
  have h6 := Nat.mul_le_mul_left (2 ^ (32 - n)) h5
  rw [Nat.mul_add, Nat.mul_one, ← e] at h6
  have h7 : y * 4294967296 / 2 ^ n % 4294967296 = 2 ^ (32 - n) * (y % 2 ^ n) := by
    conv => lhs; lhs; rw [e]
    rw [← Nat.mul_assoc, Nat.mul_div_cancel _ hp, Nat.mul_comm y]
    conv => lhs; rw [e]
    rw [Nat.mul_mod_mul_left]
  refine ⟨?_, ?_, ?_, by omega⟩
  · unfold shr
    rw [show min (n : Int).toNat IntKind.u32.bits = n by simp [IntKind.bits]; omega]
    simp
  · unfold shr
    rw [show min (n : Int).toNat IntKind.u64.bits = n by simp [IntKind.bits]; omega, wu64, wu64]
    have e2 : ((y : Int) % 18446744073709551616 * 4294967296) % 18446744073709551616 = ((y * 4294967296 : Nat) : Int) := by omega
    rw [e2, ← h7]
    simp
  · rw [u32_or_nat _ _ (by omega) (by omega), or_low _ _ _ h4]
def qd (V n j : Nat) : Nat := V / 2 ^ n / 4294967296 ^ j % 4294967296
theorem cast_lt (z : Nat) (h : z < 4294967296) : ((z : Nat) : Int) < 4294967296 := by omega
theorem back_l0 {a : List Int} (ha : W a) (n : Nat) (hn : n < 32) (hl : a.length < 17592186044416) : ∀ (d i : Nat), i + d = a.length → ∀ x : List Int, W x → x.length = a.length → (∀ j, j < i → dg x j = qd (val a) n j) →
    Ev (fun k => nat_back.l0 k a (n : Int) x a (a.length : Int) (i : Int)) (nm (val a / 2 ^ n)) := by
  intro d
  induction d with
  | zero =>
    intro i hi x hw hx hj
    obtain rfl : i = a.length := by omega
    have hv : val x = val a / 2 ^ n := val_of_dg hw _ (by rw [hx]; exact Nat.lt_of_le_of_lt (Nat.div_le_self _ _) (val_lt ha)) (fun j h => hj j (by omega))
    refine Ev.step (f := fun k => (nat_plain.f k x).bind fun t => some t) (fun k => ?_) ?_
    · simp only [nat_back.l0]
      rw [if_neg (by omega)]
    · rw [← hv]
      exact Ev.bind (f := fun _ t => some t) (plainf hw (by omega)) (Ev.now _)
  | succ d ih =>
    intro i hi x hw hx hj
    have hx1 := dg_lt ha i
    have hy1 := dg_lt ha (i + 1)
    have c1 : (i : Int) < (a.length : Int) := by omega
    have c2 : (0 : Int) ≤ (i : Int) := by omega
    have c3 : (0 : Int) ≤ (n : Int) := by omega
    have c4 : (i : Int) < (x.length : Int) := by omega
    have hi4 : i < x.length := by omega
    have hbi : i < 4611686018427387904 := by omega
    have hi3 : i + 1 + d = a.length := by omega
    have hlast : ∀ j, j < i + 1 → i ≠ j → j < i := fun j h1 h2 => by omega
    have hbd : qd (val a) n i = dg a i / 2 ^ n + 2 ^ (32 - n) * (dg a (i + 1) % 2 ^ n) := by rw [dg_val ha, dg_val ha]; exact back_dg (val a) i n hn
    obtain ⟨e1, e2, e3, h4⟩ := back_ar (dg a i) (dg a (i + 1)) n hx1 hy1 hn
    have hw1 : W (x.set i ((dg a i / 2 ^ n : Nat) : Int)) := W_set hw _ _ (Int.natCast_nonneg _) (cast_lt _ (Nat.lt_of_le_of_lt (Nat.div_le_self _ _) hx1))
    have hl1 : (x.set i ((dg a i / 2 ^ n : Nat) : Int)).length = a.length := by rw [List.length_set]; exact hx
    have hi5 : i < (x.set i ((dg a i / 2 ^ n : Nat) : Int)).length := by rw [List.length_set]; exact hi4
    rcases Nat.lt_or_ge (i + 1) a.length with h | h
    · have hrd : rd (x.set i ((dg a i / 2 ^ n : Nat) : Int)) (i : Int) = ((dg a i / 2 ^ n : Nat) : Int) := by rw [rd_set _ _ _ _ hi4, if_pos rfl]
      have c5 : ((i + 1 : Nat) : Int) < (a.length : Int) := Int.ofNat_lt.mpr h
      have c6 : (0 : Int) ≤ ((i + 1 : Nat) : Int) := Int.natCast_nonneg _
      refine Ev.step (fun k => ?_) (ih (i + 1) hi3 ((x.set i ((dg a i / 2 ^ n : Nat) : Int)).set i ((dg a i / 2 ^ n + 2 ^ (32 - n) * (dg a (i + 1) % 2 ^ n) : Nat) : Int)) (W_set hw1 _ _ (Int.natCast_nonneg _) (cast_lt _ h4)) (by rw [List.length_set]; exact hl1) (fun j hjl => ?_))
      · simp only [nat_back.l0]
        rw [if_pos c1, if_pos c2, if_pos c1, if_pos c3, if_pos c4, wsucc i hbi, rd_dg ha i, e1]
        simp only [Option.bind_some]
        rw [if_pos c5, if_pos c6, rd_dg ha (i + 1), e2]
        simp only [Int.toNat_natCast]
        rw [hrd, e3]
      · rw [dg_set _ _ _ _ hi5]
        by_cases he : i = j
        · subst he; rw [if_pos rfl]; exact hbd.symm
        · rw [if_neg he, dg_set _ _ _ _ hi4, if_neg he]; exact hj j (hlast j hjl he)
    · have c5 : ¬ ((i + 1 : Nat) : Int) < (a.length : Int) := fun hc => absurd (Int.ofNat_lt.mp hc) (Nat.not_lt.mpr h)
      refine Ev.step (fun k => ?_) (ih (i + 1) hi3 (x.set i ((dg a i / 2 ^ n : Nat) : Int)) hw1 hl1 (fun j hjl => ?_))
      · simp only [nat_back.l0]
        rw [if_pos c1, if_pos c2, if_pos c1, if_pos c3, if_pos c4, wsucc i hbi, rd_dg ha i, e1]
        simp only [Option.bind_some]
        rw [if_neg c5]
        simp only [Int.toNat_natCast]
      · rw [dg_set _ _ _ _ hi4]
        by_cases he : i = j
        · subst he
          rw [if_pos rfl, hbd, dg_over a (i + 1) h, Nat.zero_mod, Nat.mul_zero, Nat.add_zero]
        · rw [if_neg he]; exact hj j (hlast j hjl he)
theorem backN {a : List Int} (ha : W a) (n : Nat) (hn : n < 32) (hl : a.length < 17592186044416) : Ev (fun k => nat_back.f k a (n : Int)) (nm (val a / 2 ^ n)) := by
  have := back_l0 ha n hn hl a.length 0 (by omega) (List.replicate a.length 0) (W_replicate _) (by simp) (fun j h => absurd h (by omega))
  refine Ev.congr (fun k => ?_) this
  unfold nat_back.f
  rw [if_pos (by omega), if_pos (by omega)]
  rfl

/-! short -/
theorem div32 (x y b : Nat) (hx : x < b) (hy : y < 4294967296) (hb : b < 4294967296) : bits_Div32.f (x : Int) (y : Int) (b : Int) = some ((((x * 4294967296 + y) / b : Nat) : Int), (((x * 4294967296 + y) % b : Nat) : Int)) := by
  unfold bits_Div32.f
  rw [if_pos (by omega)]
  have e : (x : Int) * 4294967296 + (y : Int) = ((x * 4294967296 + y : Nat) : Int) := by omega
  rw [e]
  simp
theorem short_l0 {a : List Int} (ha : W a) (b : Nat) (hb0 : 0 < b) (hb : b < 4294967296) (hl : a.length < 17592186044416) : ∀ (p : Nat), p ≤ a.length → ∀ (q : List Int) (r Q : Nat), W q → q.length = a.length → r < b → val q = 4294967296 ^ p * Q → val a / 4294967296 ^ p = b * Q + r →
    Ev (fun k => nat_short.l0 k a (b : Int) q (r : Int) ((p : Int) - 1)) (nm (val a / b), nm (val a % b)) := by
  intro p
  induction p with
  | zero =>
    intro hp q r Q hw hq hr hv hd
    rw [Nat.pow_zero, Nat.one_mul] at hv
    rw [Nat.pow_zero, Nat.div_one] at hd
    have e1 : val a / b = val q := by rw [hd, hv, Nat.mul_add_div hb0, Nat.div_eq_of_lt hr, Nat.add_zero]
    have e2 : val a % b = r := by rw [hd, Nat.mul_add_mod, Nat.mod_eq_of_lt hr]
    have hwr : W [(r : Int)] := by intro x hx; have := List.mem_singleton.mp hx; omega
    have er : val [(r : Int)] = r := by simp [val]
    rw [e1, e2]
    refine Ev.step (f := fun k => (nat_plain.f k q).bind fun t333 => ((nat_plain.f k (([(r : Int)] : List Int))).bind fun t339 => (some (t333, t339)))) (fun k => ?_) ?_
    · simp only [nat_short.l0]
      rw [if_neg (by omega)]
    · refine Ev.bind (f := fun k t333 => (nat_plain.f k (([(r : Int)] : List Int))).bind fun t339 => some (t333, t339)) (plainf hw (by omega)) ?_
      have := plainf hwr (by simp)
      rw [er] at this
      exact Ev.bind (f := fun k t339 => some (nm (val q), t339)) this (Ev.now _)
  | succ i ih =>
    intro hp q r Q hw hq hr hv hd
    have hx1 := dg_lt ha i
    have w : ((i + 1 : Nat) : Int) - 1 = (i : Int) := by omega
    have hi : i < q.length := by omega
    have hq0 : dg q i = 0 := by
      rw [dg_val hw, hv, Nat.pow_succ, Nat.mul_assoc, Nat.mul_div_cancel_left _ (pow_pos' i), Nat.mul_mod_right]
    have hql : (r * 4294967296 + dg a i) / b < 4294967296 := by
      rw [Nat.div_lt_iff_lt_mul hb0]
      have := Nat.mul_le_mul_right 4294967296 (show r + 1 ≤ b from hr)
      omega
    have hrl : (r * 4294967296 + dg a i) % b < b := Nat.mod_lt _ hb0
    have hs := val_dset (l := q) i ((r * 4294967296 + dg a i) / b) hi
    rw [hq0, Nat.mul_zero, Nat.add_zero] at hs
    refine Ev.step (fun k => ?_) (ih (by omega) (q.set i (((r * 4294967296 + dg a i) / b : Nat) : Int)) ((r * 4294967296 + dg a i) % b) (4294967296 * Q + (r * 4294967296 + dg a i) / b) (W_set hw _ _ (Int.natCast_nonneg _) (by omega)) (by rw [List.length_set]; exact hq) hrl ?_ ?_)
    · simp only [nat_short.l0]
      rw [w, if_pos (by omega), if_pos (by omega), if_pos (by omega), rd_dg ha, div32 _ _ _ hr hx1 hb]
      simp only [Option.bind_some]
      rw [if_pos (by omega), w64 ((i : Int) - 1) (by omega) (by omega)]
      rfl
    · rw [hs, hv, Nat.mul_add, pow_succ', Nat.mul_assoc, Nat.mul_left_comm]
    · have e1 : val a / 4294967296 ^ i = 4294967296 * (val a / 4294967296 ^ (i + 1)) + dg a i := by
        rw [dg_val ha, Nat.pow_succ, ← Nat.div_div_eq_div_mul]
        exact (Nat.div_add_mod _ _).symm
      have e2 := Nat.div_add_mod (r * 4294967296 + dg a i) b
      rw [e1, hd, Nat.mul_add, Nat.mul_add]
      have e3 : 4294967296 * (b * Q) = b * (4294967296 * Q) := by rw [Nat.mul_left_comm]
      rw [e3]
      omega
theorem shortN {a : List Int} (ha : W a) (b : Nat) (hb0 : 0 < b) (hb : b < 4294967296) (hl : a.length < 17592186044416) : Ev (fun k => nat_short.f k a (b : Int)) (nm (val a / b), nm (val a % b)) := by
  have := short_l0 ha b hb0 hb hl a.length (Nat.le_refl _) (List.replicate a.length 0) 0 0 (W_replicate _) (by simp) hb0 (by rw [val_replicate]; simp) (by rw [val_over ha _ (Nat.le_refl _)]; simp)
  refine Ev.congr (fun k => ?_) this
  unfold nat_short.f
  rw [if_pos (by omega), if_pos (by omega), w64 _ (by omega) (by omega)]
  rfl
end Go.Proofs.Ytlmjbhhapllfgaa.V
namespace Go.Proofs.Ytlmjbhhapllfgaa.V
open Go.RowKit Go.Proofs.Ytlmjbhhapllfgaa.A Go.Proofs.YtlmjbhhapllfgaaW.PrintWords Go.Proofs.YtlmjbhhapllfgaaW.PrintLast
set_option linter.unusedVariables false
set_option linter.unusedSimpArgs false

/-! the guess -/
theorem gs_ar (q r v1 v2 u2 : Nat) (hr : r < 4294967296) (h1 : v1 < 4294967296) (h2 : v2 < 4294967296) (hu : u2 < 4294967296) (hq : q ≤ 4294967297) :
    (q < 4294967296 → IntKind.u64.wrap ((q : Int) * IntKind.u64.wrap (v2 : Int)) = ((q * v2 : Nat) : Int)) ∧
    Go.bits .or .u64 (IntKind.u64.wrap ((r : Int) * 4294967296)) (IntKind.u64.wrap (u2 : Int)) = ((r * 4294967296 + u2 : Nat) : Int) ∧
    IntKind.u64.wrap ((r : Int) + IntKind.u64.wrap (v1 : Int)) = ((r + v1 : Nat) : Int) ∧ (0 < q → IntKind.u64.wrap ((q : Int) - 1) = ((q - 1 : Nat) : Int)) := by
  have w2 : IntKind.u64.wrap (v2 : Int) = (v2 : Int) := by rw [wu64]; omega
  have w1 : IntKind.u64.wrap (v1 : Int) = (v1 : Int) := by rw [wu64]; omega
  have wu : IntKind.u64.wrap (u2 : Int) = (u2 : Int) := by rw [wu64]; omega
  have wr : IntKind.u64.wrap ((r : Int) * 4294967296) = (r : Int) * 4294967296 := by rw [wu64]; omega
  refine ⟨fun hq => ?_, ?_, ?_, fun h => ?_⟩
  · have : q * v2 ≤ 4294967295 * 4294967295 := Nat.mul_le_mul (by omega) (by omega)
    rw [w2, wu64, ← Int.natCast_mul]
    clear w1 w2 wu wr
    generalize q * v2 = z at *
    omega
  · rw [wr, wu, u64_join _ _ 32 (by omega) (by omega) (by omega) (by omega) (by omega) (by omega)]
    clear w1 w2 wu wr
    omega
  · rw [w1, wu64]; clear w1 w2 wu wr; omega
  · rw [wu64]; clear w1 w2 wu wr; omega
theorem guess_l0 {p v : List Int} (hp : W p) (hv : W v) (n : Nat) (hn : 2 ≤ n) (hln : v.length = n) (hlp : p.length = n + 1) (hnb : n < 1000000) (top qt : Nat)
    (htop : top < dg v (n - 1) * 4294967296 + 4294967296) (hqt : qt < 4294967296) (hqb : qt * (dg v (n - 1) * 4294967296 + dg v (n - 2)) ≤ top * 4294967296 + dg p (n - 2)) :
    ∀ (q r : Nat), q * dg v (n - 1) + r = top → r < 4294967296 → q ≤ 4294967297 → qt ≤ q →
    ∃ g : Nat, qt ≤ g ∧ g < 4294967296 ∧ g * (dg v (n - 1) * 4294967296 + dg v (n - 2)) ≤ top * 4294967296 + dg p (n - 2) ∧ Ev (fun k => nat_guess.l0 k p v (n : Int) (q : Int) (r : Int)) (g : Int) := by
  intro q
  induction q with
  | zero =>
    intro r h1 h2 h3 h4
    refine ⟨0, by omega, by omega, by simp, ?_⟩
    have hr1 := dg_lt hv (n - 2)
    obtain ⟨e1, e2, _, _⟩ := gs_ar 0 r (dg v (n - 1)) (dg v (n - 2)) (dg p (n - 2)) h2 (dg_lt hv _) (dg_lt hv _) (dg_lt hp _) (by omega)
    have e1 := e1 (by omega)
    have w : wrap64 ((n : Int) - 2) = ((n - 2 : Nat) : Int) := by clear e1 e2; rw [w64 _ (by omega) (by omega)]; omega
    have c1 : (0 : Int) ≤ ((n - 2 : Nat) : Int) := Int.natCast_nonneg _
    have c2 : ((n - 2 : Nat) : Int) < (v.length : Int) := by clear e1 e2 w; omega
    have c3 : ((n - 2 : Nat) : Int) < (p.length : Int) := by clear e1 e2 w; omega
    refine Ev.step (f := fun k => nat_guess.j1 k p v (n : Int) ((0 : Nat) : Int) (r : Int) false) (fun k => ?_) ?_
    · simp only [nat_guess.l0, w]
      rw [if_neg (by clear e1 e2 w; omega), if_pos c1, if_pos c2, if_pos c3, rd_dg hv, rd_dg hp, e1, e2]
      congr 1
      exact decide_eq_false (by clear e1 e2 w; omega)
    · refine Ev.step (f := fun _ => some ((0 : Nat) : Int)) (fun k => ?_) (Ev.now _)
      simp only [nat_guess.j1]
      rw [if_neg (by simp)]
  | succ q ih =>
    intro r h1 h2 h3 h4
    have hv1 := dg_lt hv (n - 1)
    have hv2 := dg_lt hv (n - 2)
    have hu2 := dg_lt hp (n - 2)
    have hm1 : (q + 1) * dg v (n - 1) = q * dg v (n - 1) + dg v (n - 1) := Nat.succ_mul _ _
    have hmb : (q + 1) * (dg v (n - 1) * 4294967296 + dg v (n - 2)) = (q * dg v (n - 1)) * 4294967296 + dg v (n - 1) * 4294967296 + (q * dg v (n - 2) + dg v (n - 2)) := by
      rw [Nat.mul_add, Nat.succ_mul, Nat.succ_mul, Nat.mul_assoc]
    have hmc : q * (dg v (n - 1) * 4294967296 + dg v (n - 2)) = (q * dg v (n - 1)) * 4294967296 + q * dg v (n - 2) := by rw [Nat.mul_add, Nat.mul_assoc]
    have hq2 : (q + 1) * dg v (n - 2) = q * dg v (n - 2) + dg v (n - 2) := Nat.succ_mul _ _
    have hqv2 : q * dg v (n - 2) ≤ 4294967296 * 4294967295 := Nat.mul_le_mul (by omega) (by omega)
    obtain ⟨e1, e2, e3, e4⟩ := gs_ar (q + 1) r (dg v (n - 1)) (dg v (n - 2)) (dg p (n - 2)) h2 hv1 hv2 hu2 h3
    have e4 := e4 (by omega)
    have w1 : wrap64 ((n : Int) - 1) = ((n - 1 : Nat) : Int) := by clear e1 e2 e3 e4; rw [w64 _ (by omega) (by omega)]; omega
    have w2 : wrap64 ((n : Int) - 2) = ((n - 2 : Nat) : Int) := by clear e1 e2 e3 e4 w1; rw [w64 _ (by omega) (by omega)]; omega
    have c1 : (0 : Int) ≤ ((n - 2 : Nat) : Int) := Int.natCast_nonneg _
    have c2 : ((n - 2 : Nat) : Int) < (v.length : Int) := by clear e1 e2 e3 e4 w1 w2; omega
    have c3 : ((n - 2 : Nat) : Int) < (p.length : Int) := by clear e1 e2 e3 e4 w1 w2; omega
    have c4 : (0 : Int) ≤ ((n - 1 : Nat) : Int) := Int.natCast_nonneg _
    have c5 : ((n - 1 : Nat) : Int) < (v.length : Int) := by clear e1 e2 e3 e4 w1 w2; omega
    -- one less, where it is too great
    have L : qt ≤ q → ∃ g : Nat, qt ≤ g ∧ g < 4294967296 ∧ g * (dg v (n - 1) * 4294967296 + dg v (n - 2)) ≤ top * 4294967296 + dg p (n - 2) ∧ Ev (fun k => nat_guess.j1 k p v (n : Int) ((q + 1 : Nat) : Int) (r : Int) true) (g : Int) := by
      intro hle
      rcases Nat.lt_or_ge (r + dg v (n - 1)) 4294967296 with hb | hb
      · obtain ⟨g, g1, g2, g3, g4⟩ := ih (r + dg v (n - 1)) (by clear e1 e2 e3 e4 w1 w2; omega) hb (by clear e1 e2 e3 e4 w1 w2; omega) hle
        refine ⟨g, g1, g2, g3, Ev.step (fun k => ?_) g4⟩
        simp only [nat_guess.j1, w1]
        rw [if_pos trivial, if_pos c4, if_pos c5, rd_dg hv, e3, if_neg (by clear e1 e2 e3 e4 w1 w2; omega), e4]
        rfl
      · have hq1 : q < 4294967296 := by
          have h6 : q * dg v (n - 1) < dg v (n - 1) * 4294967296 := by clear e1 e2 e3 e4 w1 w2; omega
          rw [Nat.mul_comm] at h6
          exact Nat.lt_of_mul_lt_mul_left h6
        refine ⟨q, hle, hq1, by rw [hmc]; clear e1 e2 e3 e4 w1 w2; omega, Ev.step (f := fun _ => some (q : Int)) (fun k => ?_) (Ev.now _)⟩
        simp only [nat_guess.j1, w1]
        rw [if_pos trivial, if_pos c4, if_pos c5, rd_dg hv, e3, if_pos (by clear e1 e2 e3 e4 w1 w2; omega), e4]
        rfl
    rcases Nat.lt_or_ge (q + 1) 4294967296 with hq | hq
    · have e1 := e1 hq
      by_cases hc : (q + 1) * dg v (n - 2) > r * 4294967296 + dg p (n - 2)
      · have hle : qt ≤ q := by
          rcases Nat.lt_or_ge q qt with h | h
          · have := Nat.mul_le_mul_right (dg v (n - 1) * 4294967296 + dg v (n - 2)) (show q + 1 ≤ qt from h)
            clear e1 e2 e3 e4 w1 w2 L
            omega
          · exact h
        obtain ⟨g, g1, g2, g3, g4⟩ := L hle
        refine ⟨g, g1, g2, g3, Ev.step (fun k => ?_) g4⟩
        simp only [nat_guess.l0, w2]
        rw [if_neg (by clear e1 e2 e3 e4 w1 w2 L; omega), if_pos c1, if_pos c2, if_pos c3, rd_dg hv, rd_dg hp, e1, e2]
        congr 1
        exact decide_eq_true (Int.ofNat_lt.mpr hc)
      · refine ⟨q + 1, h4, hq, by rw [hmb]; clear e1 e2 e3 e4 w1 w2 L; omega, Ev.step (f := fun k => nat_guess.j1 k p v (n : Int) ((q + 1 : Nat) : Int) (r : Int) false) (fun k => ?_) ?_⟩
        · simp only [nat_guess.l0, w2]
          rw [if_neg (by clear e1 e2 e3 e4 w1 w2 L; omega), if_pos c1, if_pos c2, if_pos c3, rd_dg hv, rd_dg hp, e1, e2]
          congr 1
          exact decide_eq_false (fun h => hc (Int.ofNat_lt.mp h))
        · refine Ev.step (f := fun _ => some ((q + 1 : Nat) : Int)) (fun k => ?_) (Ev.now _)
          simp only [nat_guess.j1]
          rw [if_neg (by simp)]
    · obtain ⟨g, g1, g2, g3, g4⟩ := L (by clear e1 e2 e3 e4 w1 w2 L; omega)
      refine ⟨g, g1, g2, g3, Ev.step (fun k => ?_) g4⟩
      simp only [nat_guess.l0]
      rw [if_pos (by clear e1 e2 e3 e4 w1 w2 L; omega)]
/-- what a guess is worth: with the whole numbers behind the first digits -/
theorem guess_high (P V t2 v2 z pr vr g : Nat) (hP : P = pr + z * t2) (hV : V = vr + z * v2) (hvr : vr < z) (hv2 : 4294967296 ≤ v2) (hg : g < 4294967296) (h : g * v2 ≤ t2) : g ≤ P / V + 1 := by
  have hVp : 0 < V := by
    have : z * 4294967296 ≤ z * v2 := Nat.mul_le_mul_left z hv2
    omega
  have h1 : g * V < P + V := by
    have e1 : g * V = g * vr + z * (g * v2) := by rw [hV, Nat.mul_add, Nat.mul_left_comm]
    have e2 : z * (g * v2) ≤ z * t2 := Nat.mul_le_mul_left z h
    have e3 : g * vr ≤ 4294967296 * z := Nat.mul_le_mul (by omega) (by omega)
    have e3' : g * vr < 4294967296 * z ∨ z = 0 := by
      rcases Nat.eq_zero_or_pos z with h0 | h0
      · exact Or.inr h0
      · refine Or.inl (Nat.lt_of_le_of_lt (Nat.mul_le_mul_left g (Nat.le_of_lt hvr)) (Nat.mul_lt_mul_of_pos_right hg h0))
    have e4 : z * 4294967296 ≤ z * v2 := Nat.mul_le_mul_left z hv2
    rcases e3' with e5 | e5
    · omega
    · omega
  have h2 : P < (P / V + 1) * V := by
    have := Nat.div_add_mod P V
    have h3 := Nat.mod_lt P hVp
    rw [Nat.add_mul, Nat.one_mul, Nat.mul_comm]
    omega
  rcases Nat.lt_or_ge (P / V + 1) g with h3 | h3
  · have h4 : (P / V + 1 + 1) * V ≤ g * V := Nat.mul_le_mul_right V h3
    rw [Nat.add_mul (P / V + 1), Nat.one_mul] at h4
    omega
  · exact h3
theorem guess_low (P V t2 v2 z pr vr : Nat) (hP : P = pr + z * t2) (hV : V = vr + z * v2) (hpr : pr < z) : P / V * v2 ≤ t2 := by
  have h1 : P / V * V ≤ P := Nat.div_mul_le_self _ _
  have h2 : z * (P / V * v2) ≤ P / V * V := by rw [hV, Nat.mul_add, Nat.mul_left_comm]; omega
  have h3 : z * (P / V * v2) < z * (t2 + 1) := by rw [Nat.mul_add, Nat.mul_one]; omega
  have := Nat.lt_of_mul_lt_mul_left h3
  omega
theorem gt_ar (a b v1 : Nat) (ha : a < 4294967296) (hb : b < 4294967296) (hv : 0 < v1) (hv1 : v1 < 4294967296) :
    Go.bits .or .u64 (IntKind.u64.wrap (IntKind.u64.wrap (a : Int) * 4294967296)) (IntKind.u64.wrap (b : Int)) = ((a * 4294967296 + b : Nat) : Int) ∧
    IntKind.u64.wrap (Int.tdiv ((a * 4294967296 + b : Nat) : Int) (IntKind.u64.wrap (v1 : Int))) = (((a * 4294967296 + b) / v1 : Nat) : Int) ∧
    Int.tmod ((a * 4294967296 + b : Nat) : Int) (IntKind.u64.wrap (v1 : Int)) = (((a * 4294967296 + b) % v1 : Nat) : Int) ∧ ¬ (IntKind.u64.wrap (v1 : Int)) = 0 := by
  have w1 : IntKind.u64.wrap (v1 : Int) = (v1 : Int) := by rw [wu64]; omega
  have wa : IntKind.u64.wrap (a : Int) = (a : Int) := by rw [wu64]; omega
  have wb : IntKind.u64.wrap (b : Int) = (b : Int) := by rw [wu64]; omega
  have wr : IntKind.u64.wrap ((a : Int) * 4294967296) = (a : Int) * 4294967296 := by rw [wu64]; omega
  refine ⟨?_, ?_, ?_, ?_⟩
  · rw [wa, wr, wb, u64_join _ _ 32 (by omega) (by omega) (by omega) (by omega) (by omega) (by omega)]
    clear w1 wa wb wr
    omega
  · rw [w1]
    have e : Int.tdiv ((a * 4294967296 + b : Nat) : Int) (v1 : Int) = (((a * 4294967296 + b) / v1 : Nat) : Int) := rfl
    rw [e, wu64]
    have := Nat.div_le_self (a * 4294967296 + b) v1
    clear w1 wa wb wr e
    generalize (a * 4294967296 + b) / v1 = z at *
    omega
  · rw [w1]; rfl
  · rw [w1]; clear w1 wa wb wr; omega
theorem three (z a b c : Nat) : z * ((a * 4294967296 + b) * 4294967296 + c) = z * c + 4294967296 * z * b + 4294967296 * (4294967296 * z) * a := by
  have e1 : z * ((a * 4294967296 + b) * 4294967296 + c) = (z * a * 4294967296 + z * b) * 4294967296 + z * c := by rw [Nat.mul_add, ← Nat.mul_assoc, Nat.mul_add, ← Nat.mul_assoc]
  have e2 : 4294967296 * z * b = 4294967296 * (z * b) := Nat.mul_assoc _ _ _
  have e3 : 4294967296 * (4294967296 * z) * a = 4294967296 * (4294967296 * (z * a)) := by rw [Nat.mul_assoc, Nat.mul_assoc]
  rw [e1, e2, e3]
  omega
theorem guessN {p v : List Int} (hp : W p) (hv : W v) (n : Nat) (hn : 2 ≤ n) (hln : v.length = n) (hlp : p.length = n + 1) (hnb : n < 1000000) (htopd : 2147483648 ≤ dg v (n - 1)) (hP : val p < val v * 4294967296) :
    ∃ g : Nat, val p / val v ≤ g ∧ g ≤ val p / val v + 1 ∧ g < 4294967296 ∧ Ev (fun k => nat_guess.f k p v) (g : Int) := by
  have hv1 := dg_lt hv (n - 1)
  have hv2 := dg_lt hv (n - 2)
  have hu0 := dg_lt hp n
  have hu1 := dg_lt hp (n - 1)
  have hu2 := dg_lt hp (n - 2)
  have a1 := take_dg hv (n - 2)
  have a2 := take_dg hv (n - 1)
  have b1 := take_dg hp (n - 2)
  have b2 := take_dg hp (n - 1)
  have b3 := take_dg hp n
  rw [show n - 2 + 1 = n - 1 by omega] at a1 b1
  rw [show n - 1 + 1 = n by omega] at a2 b2
  rw [List.take_of_length_le (by omega)] at a2
  rw [List.take_of_length_le (by omega)] at b3
  have ez : (4294967296 : Nat) ^ (n - 1) = 4294967296 * 4294967296 ^ (n - 2) := by rw [← pow_succ', show n - 2 + 1 = n - 1 by omega]
  have ez2 : (4294967296 : Nat) ^ n = 4294967296 * 4294967296 ^ (n - 1) := by rw [← pow_succ', show n - 1 + 1 = n by omega]
  have hV : val v = val (v.take (n - 2)) + 4294967296 ^ (n - 2) * (dg v (n - 1) * 4294967296 + dg v (n - 2)) := by
    rw [a2.1, a1.1, ez, Nat.mul_add, Nat.mul_comm 4294967296, Nat.mul_assoc, Nat.mul_comm 4294967296]
    omega
  have hPv : val p = val (p.take (n - 2)) + 4294967296 ^ (n - 2) * ((dg p n * 4294967296 + dg p (n - 1)) * 4294967296 + dg p (n - 2)) := by
    rw [b3.1, b2.1, b1.1, ez2, ez, three]
    omega
  have hvl := a1.2
  have hpl := b1.2
  have htop : dg p n * 4294967296 + dg p (n - 1) < dg v (n - 1) * 4294967296 + 4294967296 := by
    rcases Nat.lt_or_ge (dg v (n - 1)) (dg p n) with h | h
    · exfalso
      have h5 : 4294967296 ^ n * (dg v (n - 1) + 1) ≤ 4294967296 ^ n * dg p n := Nat.mul_le_mul_left _ h
      have h6 : val v < 4294967296 ^ (n - 1) * (dg v (n - 1) + 1) := by rw [a2.1, Nat.mul_add, Nat.mul_one]; have := a2.2; omega
      have h7 : val v * 4294967296 < 4294967296 ^ n * (dg v (n - 1) + 1) := by
        rw [ez2, Nat.mul_assoc, Nat.mul_comm (val v)]
        exact Nat.mul_lt_mul_of_pos_left h6 (by omega)
      have h8 := b3.1
      clear hV hPv a1 a2 b1 b2 b3 ez ez2 hvl hpl
      omega
    · omega
  have hqt : val p / val v < 4294967296 := by
    rw [Nat.div_lt_iff_lt_mul (by
      rcases Nat.eq_zero_or_pos (val v) with h | h
      · rw [h] at hP; omega
      · exact h), Nat.mul_comm]
    exact hP
  have hlow := guess_low _ _ _ _ _ _ _ hPv hV hpl
  have hpos : 0 < dg v (n - 1) := by omega
  have hdm := Nat.div_add_mod (dg p n * 4294967296 + dg p (n - 1)) (dg v (n - 1))
  have hml := Nat.mod_lt (dg p n * 4294967296 + dg p (n - 1)) hpos
  have hq0 : (dg p n * 4294967296 + dg p (n - 1)) / dg v (n - 1) ≤ 4294967297 := by
    rw [Nat.div_le_iff_le_mul_add_pred hpos]
    clear hV hPv a1 a2 b1 b2 b3 ez ez2 hvl hpl hlow hdm hml hqt
    omega
  have hge : val p / val v ≤ (dg p n * 4294967296 + dg p (n - 1)) / dg v (n - 1) := by
    rw [Nat.le_div_iff_mul_le hpos]
    have e1 : val p / val v * (dg v (n - 1) * 4294967296 + dg v (n - 2)) = val p / val v * dg v (n - 1) * 4294967296 + val p / val v * dg v (n - 2) := by rw [Nat.mul_add, Nat.mul_assoc]
    rw [e1] at hlow
    clear hV hPv a1 a2 b1 b2 b3 ez ez2 hvl hpl hdm hml hqt e1
    generalize val p / val v * dg v (n - 1) = x at *
    generalize val p / val v * dg v (n - 2) = y at *
    omega
  obtain ⟨g, g1, g2, g3, g4⟩ := guess_l0 hp hv n hn hln hlp hnb (dg p n * 4294967296 + dg p (n - 1)) (val p / val v) htop hqt hlow
    ((dg p n * 4294967296 + dg p (n - 1)) / dg v (n - 1)) ((dg p n * 4294967296 + dg p (n - 1)) % dg v (n - 1)) (by rw [Nat.mul_comm]; exact hdm) (Nat.lt_trans hml hv1) hq0 hge
  refine ⟨g, g1, guess_high _ _ _ _ _ _ _ g hPv hV hvl (by clear hV hPv a1 a2 b1 b2 b3 ez ez2 hvl hpl hdm hml hqt hlow hge; omega) g2 g3, g2, Ev.congr (fun k => ?_) g4⟩
  have c1 : (0 : Int) ≤ (n : Int) := Int.natCast_nonneg _
  have c2 : (n : Int) < (p.length : Int) := by rw [hlp]; clear hV hPv a1 a2 b1 b2 b3 ez ez2; omega
  have c3 : (0 : Int) ≤ ((n - 1 : Nat) : Int) := Int.natCast_nonneg _
  have c4 : ((n - 1 : Nat) : Int) < (p.length : Int) := by rw [hlp]; clear hV hPv a1 a2 b1 b2 b3 ez ez2; omega
  have c5 : ((n - 1 : Nat) : Int) < (n : Int) := by clear hV hPv a1 a2 b1 b2 b3 ez ez2; omega
  have w1 : wrap64 ((n : Int) - 1) = ((n - 1 : Nat) : Int) := by clear hV hPv a1 a2 b1 b2 b3 ez ez2; rw [w64 _ (by omega) (by omega)]; omega
  obtain ⟨t1, t2, t3, t4⟩ := gt_ar (dg p n) (dg p (n - 1)) (dg v (n - 1)) hu0 hu1 hpos hv1
  unfold nat_guess.f
  rw [hln, if_pos c1, if_pos c2, w1, if_pos c3, if_pos c4, if_pos c5, rd_dg hv (n - 1), rd_dg hp (n - 1), rd_dg hp n, if_neg t4, t1, t2, t3]
end Go.Proofs.Ytlmjbhhapllfgaa.V
namespace Go.Proofs.Ytlmjbhhapllfgaa.V
open Go.RowKit Go.Proofs.Ytlmjbhhapllfgaa.A Go.Proofs.YtlmjbhhapllfgaaW.PrintWords Go.Proofs.YtlmjbhhapllfgaaW.PrintLast
set_option linter.unusedVariables false
set_option linter.unusedSimpArgs false

theorem ls_ar (g y c : Nat) (hg : g < 4294967296) (hy : y < 4294967296) (hc : c < 4294967296) :
    IntKind.u64.wrap ((c : Int) + IntKind.u64.wrap ((g : Int) * IntKind.u64.wrap (y : Int))) = ((c + g * y : Nat) : Int) ∧
    ((c + g * y : Nat) : Int) % 4294967296 = (((c + g * y) % 4294967296 : Nat) : Int) ∧ ((c + g * y : Nat) : Int) / 4294967296 = (((c + g * y) / 4294967296 : Nat) : Int) ∧ (c + g * y) / 4294967296 < 4294967296 := by
  have hm : g * y ≤ 4294967295 * 4294967295 := Nat.mul_le_mul (by omega) (by omega)
  have wy : IntKind.u64.wrap (y : Int) = (y : Int) := by rw [wu64]; omega
  rw [wy, ← Int.natCast_mul]
  clear wy
  generalize g * y = z at *
  have wz : IntKind.u64.wrap (z : Int) = (z : Int) := by rw [wu64]; omega
  rw [wz, wu64]
  clear wz
  refine ⟨by omega, by omega, by omega, by omega⟩
theorem less_step (z X x' xi T b b' G c gv t q : Nat) (P : Nat) (h1 : X + G = P + z * (b + c)) (h2 : x' + T + b = xi + 4294967296 * b') (h3 : 4294967296 * q + T = c + gv) :
    (X + z * x' - z * xi) + (G + z * gv) + 0 = P + 4294967296 * z * (b' + q) ∨ X + z * x' < z * xi := by
  rcases Nat.lt_or_ge (X + z * x') (z * xi) with h | h
  · exact Or.inr h
  · left
    have e2 : z * (x' + T + b) = z * (xi + 4294967296 * b') := by rw [h2]
    have e3 : z * (4294967296 * q + T) = z * (c + gv) := by rw [h3]
    rw [Nat.mul_add, Nat.mul_add, Nat.mul_add] at e2
    rw [Nat.mul_add, Nat.mul_add] at e3
    rw [Nat.mul_add] at h1
    rw [Nat.mul_add (4294967296 * z)]
    have e4 : 4294967296 * z * b' = z * (4294967296 * b') := by rw [Nat.mul_comm 4294967296 z, Nat.mul_assoc]
    have e5 : 4294967296 * z * q = z * (4294967296 * q) := by rw [Nat.mul_comm 4294967296 z, Nat.mul_assoc]
    rw [e4, e5]
    omega
theorem sb_ar (x t b : Nat) (hx : x < 4294967296) (ht : t < 4294967296) (hb : b ≤ 1) : (x + 4294967296 - t - b) % 4294967296 + t + b = x + 4294967296 * (if x < t + b then 1 else 0) := by
  by_cases h : x < t + b
  · rw [if_pos h]; omega
  · rw [if_neg h]; omega
theorem less_l0 {p v : List Int} (hp : W p) (hv : W v) (g : Nat) (hg : g < 4294967296) (hl : p.length < 17592186044416) (hvl : v.length < p.length) : ∀ (d i : Nat), i + d = p.length → ∀ (x : List Int) (c b : Nat), b ≤ 1 → c < 4294967296 → W x → x.length = p.length → (∀ j, i ≤ j → dg x j = dg p j) → (v.length < i → c = 0) →
    val x + g * val (v.take i) = val p + 4294967296 ^ i * (b + c) →
    ∃ (x' : List Int) (b' : Nat), b' ≤ 1 ∧ W x' ∧ x'.length = p.length ∧ val x' + g * val v = val p + 4294967296 ^ p.length * b' ∧ Ev (fun k => nat_less.l0 k x v (g : Int) (c : Int) (b : Int) (p.length : Int) (i : Int)) (decide ((b' : Int) > 0), x') := by
  intro d
  induction d with
  | zero =>
    intro i hi x c b hb hc hw hx hz hc0 hv2
    obtain rfl : i = p.length := by omega
    rw [List.take_of_length_le (by omega), hc0 hvl, Nat.add_zero] at hv2
    refine ⟨x, b, hb, hw, hx, hv2, Ev.step (f := fun _ => some (decide ((b : Int) > 0), x)) (fun k => ?_) (Ev.now _)⟩
    simp only [nat_less.l0]
    rw [if_neg (by omega)]
  | succ d ih =>
    intro i hi x c b hb hc hw hx hz hc0 hv2
    have hx1 := dg_lt hw i
    have hy1 := dg_lt hv i
    have hi4 : i < x.length := by omega
    have c1 : (i : Int) < (p.length : Int) := by omega
    have c2 : (0 : Int) ≤ (i : Int) := by omega
    have c3 : (i : Int) < (x.length : Int) := by omega
    have hbi : i < 4611686018427387904 := by omega
    have hi3 : i + 1 + d = p.length := by omega
    have hcl : ∀ j, i + 1 ≤ j → i ≠ j ∧ i ≤ j := fun j h => by omega
    obtain ⟨e1, e2, e3, h4⟩ := ls_ar g (dg v i) c hg hy1 hc
    have htl : (c + g * dg v i) % 4294967296 < 4294967296 := Nat.mod_lt _ (by decide)
    have hb2 : (if dg x i < (c + g * dg v i) % 4294967296 + b then 1 else 0) ≤ 1 := by split <;> decide
    have hsb := sb_ar (dg x i) ((c + g * dg v i) % 4294967296) b hx1 htl hb
    have hxl : (dg x i + 4294967296 - (c + g * dg v i) % 4294967296 - b) % 4294967296 < 4294967296 := Nat.mod_lt _ (by decide)
    have hdm := Nat.div_add_mod (c + g * dg v i) 4294967296
    have hvs := val_dset (l := x) i ((dg x i + 4294967296 - (c + g * dg v i) % 4294967296 - b) % 4294967296) hi4
    have hst := less_step (4294967296 ^ i) (val x) ((dg x i + 4294967296 - (c + g * dg v i) % 4294967296 - b) % 4294967296) (dg x i) ((c + g * dg v i) % 4294967296) b (if dg x i < (c + g * dg v i) % 4294967296 + b then 1 else 0) (g * val (v.take i)) c (g * dg v i) 0 ((c + g * dg v i) / 4294967296) (val p) hv2 hsb hdm
    have hsub := sub32 (dg x i) ((c + g * dg v i) % 4294967296) b hx1 htl hb
    obtain ⟨x', b', q1, q2, q3, q4, q5⟩ := ih (i + 1) hi3 (x.set i (((dg x i + 4294967296 - (c + g * dg v i) % 4294967296 - b) % 4294967296 : Nat) : Int)) ((c + g * dg v i) / 4294967296) (if dg x i < (c + g * dg v i) % 4294967296 + b then 1 else 0) hb2 h4 (W_set hw _ _ (Int.natCast_nonneg _) (cast_lt _ hxl)) (by rw [List.length_set]; exact hx)
      (fun j hj => by rw [dg_set _ _ _ _ hi4, if_neg (hcl j hj).1]; exact hz j (hcl j hj).2)
      (fun h => by rw [dg_over v i (by omega), Nat.mul_zero, Nat.add_zero]; exact Nat.div_eq_of_lt hc)
      (by
        have e9 : g * val (v.take (i + 1)) = g * val (v.take i) + 4294967296 ^ i * (g * dg v i) := by rw [(take_dg hv i).1, Nat.mul_add, Nat.mul_left_comm]
        rw [e9, pow_succ']
        rcases hst with h | h
        · clear e1 e2 e3 hsub
          generalize 4294967296 ^ i * ((dg x i + 4294967296 - (c + g * dg v i) % 4294967296 - b) % 4294967296) = A1 at *
          generalize 4294967296 ^ i * dg x i = A2 at *
          generalize 4294967296 ^ i * (g * dg v i) = A3 at *
          omega
        · exfalso
          clear e1 e2 e3 hsub
          generalize 4294967296 ^ i * ((dg x i + 4294967296 - (c + g * dg v i) % 4294967296 - b) % 4294967296) = A1 at *
          generalize 4294967296 ^ i * dg x i = A2 at *
          omega)
    refine ⟨x', b', q1, q2, q3, q4, Ev.step (fun k => ?_) q5⟩
    simp only [nat_less.l0]
    rcases Nat.lt_or_ge i v.length with h | h
    · rw [if_pos c1, if_pos (Int.ofNat_lt.mpr h), if_pos c2, if_pos c3, wsucc i hbi, rd_dg hv i, rd_dg hw i, e1, e2, e3, hsub]
      rfl
    · have h0 : c + g * dg v i = c := by rw [dg_over v i h]; rfl
      rw [h0] at e2 e3 hsub
      rw [if_pos c1, if_neg (fun hh => absurd (Int.ofNat_lt.mp hh) (Nat.not_lt.mpr h)), if_pos c2, if_pos c3, wsucc i hbi, rd_dg hw i, e2, e3, hsub, h0]
      rfl
theorem more_step (z X x' xi y c q P G : Nat) (h1 : X + z * c = P + G) (h2 : 4294967296 * q + x' = xi + y + c) :
    (X + z * x' - z * xi) + 4294967296 * z * q = P + (G + z * y) ∨ X + z * x' < z * xi := by
  rcases Nat.lt_or_ge (X + z * x') (z * xi) with h | h
  · exact Or.inr h
  · left
    have e2 : z * (4294967296 * q + x') = z * (xi + y + c) := by rw [h2]
    rw [Nat.mul_add, Nat.mul_add, Nat.mul_add] at e2
    have e4 : 4294967296 * z * q = z * (4294967296 * q) := by rw [Nat.mul_comm 4294967296 z, Nat.mul_assoc]
    rw [e4]
    omega
theorem more_l0 {p v : List Int} (hp : W p) (hv : W v) (hl : p.length < 17592186044416) (hvl : v.length < p.length) : ∀ (d i : Nat), i + d = p.length → ∀ (x : List Int) (c : Nat), c ≤ 1 → W x → x.length = p.length → (∀ j, i ≤ j → dg x j = dg p j) →
    val x + 4294967296 ^ i * c = val p + val (v.take i) →
    ∃ (x' : List Int) (c' : Nat), c' ≤ 1 ∧ W x' ∧ x'.length = p.length ∧ val x' + 4294967296 ^ p.length * c' = val p + val v ∧ Ev (fun k => nat_more.l0 k x v (c : Int) (p.length : Int) (i : Int)) x' := by
  intro d
  induction d with
  | zero =>
    intro i hi x c hc hw hx hz hv2
    obtain rfl : i = p.length := by omega
    rw [List.take_of_length_le (by omega)] at hv2
    refine ⟨x, c, hc, hw, hx, hv2, Ev.step (f := fun _ => some x) (fun k => ?_) (Ev.now _)⟩
    simp only [nat_more.l0]
    rw [if_neg (by omega)]
  | succ d ih =>
    intro i hi x c hc hw hx hz hv2
    have hx1 := dg_lt hw i
    have hy1 := dg_lt hv i
    have hi4 : i < x.length := by omega
    have c1 : (i : Int) < (p.length : Int) := by omega
    have c2 : (0 : Int) ≤ (i : Int) := by omega
    have c3 : (i : Int) < (x.length : Int) := by omega
    have hbi : i < 4611686018427387904 := by omega
    have hi3 : i + 1 + d = p.length := by omega
    have hcl : ∀ j, i + 1 ≤ j → i ≠ j ∧ i ≤ j := fun j h => by omega
    have hc2 : (dg x i + dg v i + c) / 4294967296 ≤ 1 := by omega
    have hxl : (dg x i + dg v i + c) % 4294967296 < 4294967296 := Nat.mod_lt _ (by decide)
    have hdm := Nat.div_add_mod (dg x i + dg v i + c) 4294967296
    have hvs := val_dset (l := x) i ((dg x i + dg v i + c) % 4294967296) hi4
    have hst := more_step (4294967296 ^ i) (val x) ((dg x i + dg v i + c) % 4294967296) (dg x i) (dg v i) c ((dg x i + dg v i + c) / 4294967296) (val p) (val (v.take i)) hv2 hdm
    have hadd := add32 (dg x i) (dg v i) c hx1 hy1 hc
    obtain ⟨x', c', q1, q2, q3, q4, q5⟩ := ih (i + 1) hi3 (x.set i (((dg x i + dg v i + c) % 4294967296 : Nat) : Int)) ((dg x i + dg v i + c) / 4294967296) hc2 (W_set hw _ _ (Int.natCast_nonneg _) (cast_lt _ hxl)) (by rw [List.length_set]; exact hx)
      (fun j hj => by rw [dg_set _ _ _ _ hi4, if_neg (hcl j hj).1]; exact hz j (hcl j hj).2)
      (by
        rw [(take_dg hv i).1, pow_succ']
        clear hadd
        rcases hst with h | h
        · generalize 4294967296 ^ i * ((dg x i + dg v i + c) % 4294967296) = A1 at *
          generalize 4294967296 ^ i * dg x i = A2 at *
          omega
        · exfalso
          generalize 4294967296 ^ i * ((dg x i + dg v i + c) % 4294967296) = A1 at *
          generalize 4294967296 ^ i * dg x i = A2 at *
          omega)
    refine ⟨x', c', q1, q2, q3, q4, Ev.step (fun k => ?_) q5⟩
    simp only [nat_more.l0]
    rcases Nat.lt_or_ge i v.length with h | h
    · rw [if_pos c1, if_pos (Int.ofNat_lt.mpr h), if_pos c2, if_pos c3, wsucc i hbi, rd_dg hv i, rd_dg hw i, hadd]
      rfl
    · rw [if_pos c1, if_neg (fun hh => absurd (Int.ofNat_lt.mp hh) (Nat.not_lt.mpr h)), if_pos c2, if_pos c3, wsucc i hbi, rd_dg hw i, show (0 : Int) = (dg v i : Int) by rw [dg_over v i h]; rfl, hadd]
      rfl
theorem lessN {p v : List Int} (hp : W p) (hv : W v) (g : Nat) (hg : g < 4294967296) (hl : p.length < 17592186044416) (hvl : v.length < p.length) :
    ∃ (x' : List Int) (b' : Nat), b' ≤ 1 ∧ W x' ∧ x'.length = p.length ∧ val x' + g * val v = val p + 4294967296 ^ p.length * b' ∧ Ev (fun k => nat_less.f k p v (g : Int)) (decide ((b' : Int) > 0), x') :=
  less_l0 hp hv g hg hl hvl p.length 0 (by omega) p 0 0 (by omega) (by omega) hp rfl (fun _ _ => rfl) (fun _ => rfl) (by simp [val])
theorem moreN {p v : List Int} (hp : W p) (hv : W v) (hl : p.length < 17592186044416) (hvl : v.length < p.length) :
    ∃ (x' : List Int) (c' : Nat), c' ≤ 1 ∧ W x' ∧ x'.length = p.length ∧ val x' + 4294967296 ^ p.length * c' = val p + val v ∧ Ev (fun k => nat_more.f k p v) x' :=
  more_l0 hp hv hl hvl p.length 0 (by omega) p 0 (by omega) hp rfl (fun _ _ => rfl) (by simp [val])
end Go.Proofs.Ytlmjbhhapllfgaa.V
namespace Go.Proofs.Ytlmjbhhapllfgaa.V
open Go.RowKit Go.Proofs.Ytlmjbhhapllfgaa.A Go.Proofs.YtlmjbhhapllfgaaW.PrintWords Go.Proofs.YtlmjbhhapllfgaaW.PrintLast
set_option linter.unusedVariables false
set_option linter.unusedSimpArgs false

theorem W_drop {l : List Int} (h : W l) (n : Nat) : W (l.drop n) := fun x hx => h x (List.mem_of_mem_drop hx)
theorem W_append {a b : List Int} (ha : W a) (hb : W b) : W (a ++ b) := fun x hx => (List.mem_append.mp hx).elim (ha x) (hb x)
theorem val_cut (l : List Int) (i : Nat) (h : i ≤ l.length) : val l = val (l.take i) + 4294967296 ^ i * val (l.drop i) := by
  have := val_append (l.take i) (l.drop i)
  rw [List.take_append_drop, List.length_take, Nat.min_eq_left h] at this
  exact this
theorem partlen (l : List Int) (i m : Nat) (h : i + m ≤ l.length) : ((l.drop i).take m).length = m := by rw [List.length_take, List.length_drop]; omega
theorem step_num (U V lo P g R z : Nat) (hU : U = lo + z * P) (hlo : lo < z) (hP : P = R + g * V) (hR : R < V) : lo + z * R < V * z ∧ U = (lo + z * R) + z * (g * V) := by
  constructor
  · have : z * (R + 1) ≤ z * V := Nat.mul_le_mul_left z hR
    rw [Nat.mul_add, Nat.mul_one] at this
    rw [Nat.mul_comm V]
    omega
  · rw [hU, hP, Nat.mul_add]; omega
/-- one digit of the quotient -/
theorem div_step {u v : List Int} (hu : W u) (hv : W v) (i : Nat) (hn : 2 ≤ v.length) (hnb : v.length < 1000000) (hul : u.length < 1000000) (hb : i + v.length + 1 ≤ u.length) (htop : 2147483648 ≤ dg v (v.length - 1)) (hlt : val u < val v * 4294967296 ^ (i + 1)) :
    ∃ (u' : List Int) (g g0 : Nat), W u' ∧ u'.length = u.length ∧ g < 4294967296 ∧ val u' < val v * 4294967296 ^ i ∧ val u = val u' + 4294967296 ^ i * (g * val v) ∧
      Ev (fun k => nat_guess_at.f k u v (i : Int)) (g0 : Int) ∧ g0 < 4294967296 ∧
      ((g0 = g ∧ Ev (fun k => nat_less_at.f k u v (g0 : Int) (i : Int)) (false, u')) ∨
       (g0 = g + 1 ∧ ∃ u1 : List Int, Ev (fun k => nat_less_at.f k u v (g0 : Int) (i : Int)) (true, u1) ∧ Ev (fun k => nat_more_at.f k u1 v (i : Int)) u')) := by
  have hwp : W ((u.drop i).take (v.length + 1)) := W_take (W_drop hu i) _
  have hlp : ((u.drop i).take (v.length + 1)).length = v.length + 1 := partlen u i (v.length + 1) (by omega)
  have hd : val (u.drop i) = val ((u.drop i).take (v.length + 1)) + 4294967296 ^ (v.length + 1) * val (u.drop (i + (v.length + 1))) := by
    have := val_cut (u.drop i) (v.length + 1) (by rw [List.length_drop]; omega)
    rwa [List.drop_drop] at this
  have hc := val_cut u i (by omega)
  have hlo := take_lt hu i
  have hVl := val_lt hv
  have hz : val (u.drop (i + (v.length + 1))) = 0 := by
    rcases Nat.eq_zero_or_pos (val (u.drop (i + (v.length + 1)))) with h | h
    · exact h
    · exfalso
      have h1 : 4294967296 ^ (v.length + 1) ≤ val (u.drop i) := by
        have : 4294967296 ^ (v.length + 1) * 1 ≤ 4294967296 ^ (v.length + 1) * val (u.drop (i + (v.length + 1))) := Nat.mul_le_mul_left _ h
        omega
      have h2 : 4294967296 ^ i * 4294967296 ^ (v.length + 1) ≤ 4294967296 ^ i * val (u.drop i) := Nat.mul_le_mul_left _ h1
      have h3 : val v * 4294967296 ^ (i + 1) ≤ 4294967296 ^ v.length * 4294967296 ^ (i + 1) := Nat.mul_le_mul_right _ (Nat.le_of_lt hVl)
      have h4 : 4294967296 ^ v.length * 4294967296 ^ (i + 1) = 4294967296 ^ i * 4294967296 ^ (v.length + 1) := by rw [← Nat.pow_add, ← Nat.pow_add]; congr 1; omega
      rw [h4] at h3
      omega
  rw [hz, Nat.mul_zero, Nat.add_zero] at hd
  rw [hd] at hc
  have hPlt : val ((u.drop i).take (v.length + 1)) < val v * 4294967296 := by
    have h1 : 4294967296 ^ i * val ((u.drop i).take (v.length + 1)) < 4294967296 ^ i * (val v * 4294967296) := by
      have e : 4294967296 ^ i * (val v * 4294967296) = val v * 4294967296 ^ (i + 1) := by rw [pow_succ', Nat.mul_comm (4294967296 ^ i), Nat.mul_assoc]
      rw [e]
      omega
    exact Nat.lt_of_mul_lt_mul_left h1
  have hVp : 0 < val v := by
    rcases Nat.eq_zero_or_pos (val v) with h | h
    · rw [h] at hPlt; omega
    · exact h
  obtain ⟨g0, g1, g2, g3, g4⟩ := guessN hwp hv v.length hn rfl hlp hnb htop hPlt
  obtain ⟨x', b', l1, l2, l3, l4, l5⟩ := lessN hwp hv g0 g3 (by rw [hlp]; omega) (by rw [hlp]; omega)
  have hx'l := val_lt l2
  rw [l3, hlp] at hx'l
  rw [hlp] at l3 l4
  have eg : Ev (fun k => nat_guess_at.f k u v (i : Int)) (g0 : Int) := by
    refine Ev.congr (fun k => ?_) g4
    unfold nat_guess_at.f
    rw [if_pos (Int.natCast_nonneg _), Int.toNat_natCast, if_pos hb]
  have el : Ev (fun k => nat_less_at.f k u v (g0 : Int) (i : Int)) (decide ((b' : Int) > 0), u.take i ++ x' ++ u.drop (i + (v.length + 1))) := by
    refine Ev.congr (f := fun k => (nat_less.f k ((u.drop i).take (v.length + 1)) v (g0 : Int)).bind fun b => some (b.1, u.take i ++ b.2 ++ u.drop (i + (v.length + 1)))) (fun k => ?_) (Ev.bind (f := fun _ b => some (b.1, u.take i ++ b.2 ++ u.drop (i + (v.length + 1)))) l5 (Ev.now _))
    unfold nat_less_at.f
    rw [if_pos (Int.natCast_nonneg _), Int.toNat_natCast, if_pos hb]
  have hsp : ∀ y : List Int, y.length = v.length + 1 → (u.take i ++ y ++ u.drop (i + (v.length + 1))).length = u.length ∧ val (u.take i ++ y ++ u.drop (i + (v.length + 1))) = val (u.take i) + 4294967296 ^ i * val y := by
    intro y hy
    have htl : (u.take i).length = i := by rw [List.length_take]; omega
    refine ⟨by simp only [List.length_append, List.length_take, List.length_drop]; omega, ?_⟩
    rw [val_append, val_append, hz, Nat.mul_zero, Nat.add_zero, htl]
  have hdm := Nat.div_add_mod (val ((u.drop i).take (v.length + 1))) (val v)
  have hml := Nat.mod_lt (val ((u.drop i).take (v.length + 1))) hVp
  have hVlt : val v < 4294967296 ^ (v.length + 1) := Nat.lt_of_lt_of_le hVl (Nat.pow_le_pow_right (by omega) (by omega))
  obtain ⟨s1, s2⟩ := hsp x' l3
  rcases Nat.eq_zero_or_pos b' with hb0 | hb0
  · -- nothing was lent
    subst hb0
    rw [Nat.mul_zero, Nat.add_zero] at l4
    have hge : g0 = val ((u.drop i).take (v.length + 1)) / val v := by
      have : g0 ≤ val ((u.drop i).take (v.length + 1)) / val v := by rw [Nat.le_div_iff_mul_le hVp]; omega
      omega
    have hR : val x' < val v := by
      rw [Nat.mul_comm, ← hge] at hdm
      omega
    obtain ⟨n1, n2⟩ := step_num (val u) (val v) (val (u.take i)) (val ((u.drop i).take (v.length + 1))) g0 (val x') (4294967296 ^ i) hc hlo l4.symm hR
    refine ⟨_, g0, g0, W_append (W_append (W_take hu i) l2) (W_drop hu _), s1, g3, by rw [s2]; exact n1, by rw [s2]; exact n2, eg, g3, Or.inl ⟨rfl, ?_⟩⟩
    simpa using el
  · obtain rfl : b' = 1 := by omega
    rw [Nat.mul_one] at l4
    have hgt : val ((u.drop i).take (v.length + 1)) < g0 * val v := by omega
    have hge : g0 = val ((u.drop i).take (v.length + 1)) / val v + 1 := by
      have : val ((u.drop i).take (v.length + 1)) / val v < g0 := by rw [Nat.div_lt_iff_lt_mul hVp]; exact hgt
      omega
    have hgv : g0 * val v = val ((u.drop i).take (v.length + 1)) / val v * val v + val v := by rw [hge, Nat.succ_mul]
    have e1 : ((u.take i ++ x' ++ u.drop (i + (v.length + 1))).drop i).take (v.length + 1) = x' := by
      have htl : (u.take i).length = i := by rw [List.length_take]; omega
      rw [List.append_assoc, List.drop_append_of_le_length (by omega), List.drop_of_length_le (by omega), List.nil_append, List.take_append_of_le_length (by omega), List.take_of_length_le (by omega)]
    have e2 : (u.take i ++ x' ++ u.drop (i + (v.length + 1))).take i = u.take i := by
      have htl : (u.take i).length = i := by rw [List.length_take]; omega
      rw [List.append_assoc, List.take_append_of_le_length (by omega), List.take_of_length_le (by omega)]
    have e3 : (u.take i ++ x' ++ u.drop (i + (v.length + 1))).drop (i + (v.length + 1)) = u.drop (i + (v.length + 1)) := by
      have htl : (u.take i ++ x').length = i + (v.length + 1) := by rw [List.length_append, List.length_take]; omega
      rw [← htl, List.drop_left]
    obtain ⟨y', c', m1, m2, m3, m4, m5⟩ := moreN l2 hv (by rw [l3]; omega) (by rw [l3]; omega)
    rw [l3] at m3 m4
    have hy'l := val_lt m2
    rw [m3] at hy'l
    have hc1 : c' = 1 := by
      rcases Nat.eq_zero_or_pos c' with h | h
      · subst h
        rw [Nat.mul_zero, Nat.add_zero] at m4
        rw [Nat.mul_comm] at hdm
        omega
      · omega
    subst hc1
    rw [Nat.mul_one] at m4
    have hR : val y' < val v ∧ val ((u.drop i).take (v.length + 1)) = val y' + val ((u.drop i).take (v.length + 1)) / val v * val v := by
      rw [Nat.mul_comm] at hdm
      omega
    obtain ⟨t1, t2⟩ := hsp y' m3
    obtain ⟨n1, n2⟩ := step_num (val u) (val v) (val (u.take i)) (val ((u.drop i).take (v.length + 1))) (val ((u.drop i).take (v.length + 1)) / val v) (val y') (4294967296 ^ i) hc hlo hR.2 hR.1
    refine ⟨u.take i ++ y' ++ u.drop (i + (v.length + 1)), val ((u.drop i).take (v.length + 1)) / val v, g0, W_append (W_append (W_take hu i) m2) (W_drop hu _), t1, by omega, by rw [t2]; exact n1, by rw [t2]; exact n2, eg, g3, Or.inr ⟨hge, u.take i ++ x' ++ u.drop (i + (v.length + 1)), by simpa using el, ?_⟩⟩
    refine Ev.congr (f := fun k => (nat_more.f k x' v).bind fun b => some (u.take i ++ b ++ u.drop (i + (v.length + 1)))) (fun k => ?_) (Ev.bind (f := fun _ b => some (u.take i ++ b ++ u.drop (i + (v.length + 1)))) m5 (Ev.now _))
    unfold nat_more_at.f
    rw [if_pos (Int.natCast_nonneg _), Int.toNat_natCast, if_pos (by rw [s1]; exact hb), e1, e2, e3]
theorem div_l0 {v : List Int} (hv : W v) (s : Nat) (hs : s < 32) (hn : 2 ≤ v.length) (hnb : v.length < 1000000) (htop : 2147483648 ≤ dg v (v.length - 1)) (N m1 A' : Nat) (hN : N = m1 + v.length) (hNb : N < 1000000) :
    ∀ (p : Nat), p ≤ m1 → ∀ (q u : List Int) (Q : Nat), W q → q.length = m1 → val q = 4294967296 ^ p * Q → W u → u.length = N → val u < val v * 4294967296 ^ p → A' = val u + val v * (4294967296 ^ p * Q) →
    Ev (fun k => nat_Div.l0 k q (s : Int) u v ((p : Int) - 1)) (nm (A' / val v), nm (A' % val v / 2 ^ s), true) := by
  intro p
  induction p with
  | zero =>
    intro hp q u Q hwq hq hvq hwu hu hlt hA
    rw [Nat.pow_zero, Nat.one_mul] at hvq hA
    rw [Nat.pow_zero, Nat.mul_one] at hlt
    have hVp : 0 < val v := by omega
    have e1 : A' / val v = val q := by rw [hA, hvq, Nat.add_mul_div_left _ _ hVp, Nat.div_eq_of_lt hlt, Nat.zero_add]
    have e2 : A' % val v = val u := by rw [hA, Nat.add_mul_mod_self_left, Nat.mod_eq_of_lt hlt]
    have e3 : val (u.take v.length) = val u := by rw [val_take hwu, Nat.mod_eq_of_lt (Nat.lt_trans hlt (val_lt hv))]
    rw [e1, e2]
    refine Ev.step (f := fun k => (nat_plain.f k q).bind fun t => (nat_back.f k (u.take v.length) (s : Int)).bind fun t2 => some (t, t2, true)) (fun k => ?_) ?_
    · simp only [nat_Div.l0]
      rw [if_neg (by omega)]
      simp only [if_pos (show (0 : Int) ≤ (v.length : Int) from Int.natCast_nonneg _), if_pos (show (v.length : Int) ≤ (u.length : Int) by omega), Int.toNat_natCast]
    · refine Ev.bind (f := fun k t => (nat_back.f k (u.take v.length) (s : Int)).bind fun t2 => some (t, t2, true)) (plainf hwq (by omega)) ?_
      have := backN (W_take hwu v.length) s hs (by rw [List.length_take]; omega)
      rw [e3] at this
      exact Ev.bind (f := fun k t2 => some (nm (val q), t2, true)) this (Ev.now _)
  | succ i ih =>
    intro hp q u Q hwq hq hvq hwu hu hlt hA
    obtain ⟨u', g, g0, a1, a2, a3, a4, a5, a6, a7, a8⟩ := div_step hwu hv i hn hnb (by omega) (by omega) htop hlt
    have w : ((i + 1 : Nat) : Int) - 1 = (i : Int) := by omega
    have wi : wrap64 ((i : Int) - 1) = (i : Int) - 1 := w64 _ (by omega) (by omega)
    have hi : i < q.length := by omega
    have c1 : (i : Int) ≥ 0 := Int.natCast_nonneg _
    have c2 : (i : Int) < (q.length : Int) := Int.ofNat_lt.mpr hi
    have hq0 : dg q i = 0 := by
      rw [dg_val hwq, hvq, Nat.pow_succ, Nat.mul_assoc, Nat.mul_div_cancel_left _ (pow_pos' i), Nat.mul_mod_right]
    have hvs := val_dset (l := q) i g hi
    rw [hq0, Nat.mul_zero, Nat.add_zero, hvq, pow_succ'] at hvs
    have rest := ih (by omega) (q.set i (g : Int)) u' (4294967296 * Q + g) (W_set hwq _ _ (Int.natCast_nonneg _) (cast_lt _ a3)) (by rw [List.length_set]; exact hq)
      (by rw [hvs, Nat.mul_add, Nat.mul_assoc, Nat.mul_left_comm]) a1 (by rw [a2]; exact hu) a4
      (by
        have x1 : 4294967296 ^ i * (g * val v) = val v * (4294967296 ^ i * g) := by rw [Nat.mul_comm g, Nat.mul_left_comm]
        have x2 : val v * (4294967296 * 4294967296 ^ i * Q) = val v * (4294967296 ^ i * (4294967296 * Q)) := by rw [Nat.mul_comm 4294967296 (4294967296 ^ i), Nat.mul_assoc]
        have x3 : val v * (4294967296 ^ i * (4294967296 * Q + g)) = val v * (4294967296 ^ i * (4294967296 * Q)) + val v * (4294967296 ^ i * g) := by rw [Nat.mul_add, Nat.mul_add]
        rw [hA, a5, pow_succ', x1, x2, x3]
        omega)
    have hg0 : (g0 : Int) % 4294967296 = (g0 : Int) := by omega
    refine Ev.step (f := fun k => (nat_guess_at.f k u v (i : Int)).bind fun t421 => ((nat_less_at.f k u v t421 (i : Int)).bind fun bt422 => (if bt422.1 = true then ((nat_more_at.f k bt422.2 v (i : Int)).bind fun t424 => (nat_Div.l0 k (q.set i ((IntKind.u64.wrap (t421 - 1)) % 4294967296)) (s : Int) t424 v ((i : Int) - 1))) else (nat_Div.l0 k (q.set i (t421 % 4294967296)) (s : Int) bt422.2 v ((i : Int) - 1))))) (fun k => ?_) ?_
    · simp only [nat_Div.l0, w, wi]
      rw [if_pos c1]
      simp only [if_pos c1, if_pos c2, if_pos (show (0 : Int) ≤ (i : Int) from c1), Int.toNat_natCast]
    · refine Ev.bind (f := fun k t421 => ((nat_less_at.f k u v t421 (i : Int)).bind fun bt422 => (if bt422.1 = true then ((nat_more_at.f k bt422.2 v (i : Int)).bind fun t424 => (nat_Div.l0 k (q.set i ((IntKind.u64.wrap (t421 - 1)) % 4294967296)) (s : Int) t424 v ((i : Int) - 1))) else (nat_Div.l0 k (q.set i (t421 % 4294967296)) (s : Int) bt422.2 v ((i : Int) - 1))))) a6 ?_
      rcases a8 with ⟨rfl, b1⟩ | ⟨b0, u1, b1, b2⟩
      · refine Ev.bind (f := fun k bt422 => (if bt422.1 = true then ((nat_more_at.f k bt422.2 v (i : Int)).bind fun t424 => (nat_Div.l0 k (q.set i ((IntKind.u64.wrap ((g0 : Int) - 1)) % 4294967296)) (s : Int) t424 v ((i : Int) - 1))) else (nat_Div.l0 k (q.set i ((g0 : Int) % 4294967296)) (s : Int) bt422.2 v ((i : Int) - 1)))) b1 ?_
        refine Ev.congr (fun k => ?_) rest
        rw [if_neg (by simp), hg0]
      · refine Ev.bind (f := fun k bt422 => (if bt422.1 = true then ((nat_more_at.f k bt422.2 v (i : Int)).bind fun t424 => (nat_Div.l0 k (q.set i ((IntKind.u64.wrap ((g0 : Int) - 1)) % 4294967296)) (s : Int) t424 v ((i : Int) - 1))) else (nat_Div.l0 k (q.set i ((g0 : Int) % 4294967296)) (s : Int) bt422.2 v ((i : Int) - 1)))) b1 ?_
        have hw : (IntKind.u64.wrap ((g0 : Int) - 1)) % 4294967296 = (g : Int) := by rw [wu64]; omega
        refine Ev.congr (f := fun k => (nat_more_at.f k u1 v (i : Int)).bind fun t424 => (nat_Div.l0 k (q.set i (g : Int)) (s : Int) t424 v ((i : Int) - 1))) (fun k => ?_) (Ev.bind (f := fun k t424 => nat_Div.l0 k (q.set i (g : Int)) (s : Int) t424 v ((i : Int) - 1)) b2 rest)
        rw [if_pos rfl, hw]
end Go.Proofs.Ytlmjbhhapllfgaa.V
namespace Go.Proofs.Ytlmjbhhapllfgaa.V
open Go.RowKit Go.Proofs.Ytlmjbhhapllfgaa.A Go.Proofs.YtlmjbhhapllfgaaW.PrintWords Go.Proofs.YtlmjbhhapllfgaaW.PrintLast
set_option linter.unusedVariables false
set_option linter.unusedSimpArgs false

theorem bl_two (t : Nat) (h0 : 0 < t) (h : t < 4294967296) : bl t ≤ 32 ∧ 1 ≤ bl t ∧ 2 ^ (bl t - 1) ≤ t ∧ t < 2 ^ bl t := by
  have h1 : bl t ≤ 32 := (bl_le _ _).mpr h
  have h2 : ¬ bl t ≤ 0 := fun hh => by
    have := (bl_le t 0).mp hh
    omega
  have h3 : ¬ bl t ≤ bl t - 1 := by omega
  rw [bl_le] at h3
  exact ⟨h1, by omega, by omega, (bl_le _ _).mp (Nat.le_refl _)⟩
theorem lead (t : Nat) (h0 : 0 < t) (h : t < 4294967296) : ∃ s : Nat, s < 32 ∧ bits_LeadingZeros32.f (t : Int) = some (s : Int) ∧ 2147483648 ≤ t * 2 ^ s ∧ (t + 1) * 2 ^ s ≤ 4294967296 := by
  obtain ⟨h1, h2, h3, h4⟩ := bl_two t h0 h
  refine ⟨32 - bl t, by omega, ?_, ?_, ?_⟩
  · unfold bits_LeadingZeros32.f bits_Len32.f
    rw [if_pos (by omega), Option.bind_some, Int.toNat_natCast, bitLen_bl t (by omega), w64 _ (by omega) (by omega)]
    congr 1
    omega
  · have := Nat.mul_le_mul_right (2 ^ (32 - bl t)) h3
    rw [← Nat.pow_add, show bl t - 1 + (32 - bl t) = 31 by omega] at this
    exact this
  · have := Nat.mul_le_mul_right (2 ^ (32 - bl t)) (show t + 1 ≤ 2 ^ bl t from h4)
    rw [← Nat.pow_add, show bl t + (32 - bl t) = 32 by omega] at this
    exact this
theorem norm_num {b : List Int} (hb : Canon b) (n s : Nat) (hn : b.length = n + 1) (h1 : 2147483648 ≤ dg b n * 2 ^ s) (h2 : (dg b n + 1) * 2 ^ s ≤ 4294967296) :
    (nm (val b * 2 ^ s)).length = n + 1 ∧ 2147483648 ≤ dg (nm (val b * 2 ^ s)) n ∧ 2147483648 * 4294967296 ^ n ≤ val b * 2 ^ s := by
  have a := take_dg hb.1 n
  rw [List.take_of_length_le (by omega)] at a
  have g1 : 4294967296 ^ n * dg b n ≤ val b := by omega
  have g2 : val b < 4294967296 ^ n * (dg b n + 1) := by rw [Nat.mul_add, Nat.mul_one]; omega
  have l1 : 2147483648 * 4294967296 ^ n ≤ val b * 2 ^ s := by
    have e1 := Nat.mul_le_mul_right (2 ^ s) g1
    have e2 := Nat.mul_le_mul_left (4294967296 ^ n) h1
    rw [← Nat.mul_assoc] at e2
    rw [Nat.mul_comm 2147483648]
    omega
  have hp : 0 < 2 ^ s := Nat.pow_pos (by omega)
  have l2 : val b * 2 ^ s < 4294967296 ^ (n + 1) := by
    have e1 : val b * 2 ^ s < 4294967296 ^ n * (dg b n + 1) * 2 ^ s := Nat.mul_lt_mul_of_pos_right g2 hp
    have e2 := Nat.mul_le_mul_left (4294967296 ^ n) h2
    rw [← Nat.mul_assoc] at e2
    rw [Nat.pow_succ]
    omega
  have len : (nm (val b * 2 ^ s)).length = n + 1 := by
    have h3 := nm_len_lt l2
    rcases Nat.lt_or_ge (nm (val b * 2 ^ s)).length (n + 1) with h4 | h4
    · exfalso
      have h5 := nm_len_le (n := val b * 2 ^ s)
      have h6 : (4294967296 : Nat) ^ (nm (val b * 2 ^ s)).length ≤ 4294967296 ^ n := Nat.pow_le_pow_right (by omega) (by omega)
      have := pow_pos' n
      omega
    · omega
  refine ⟨len, ?_, l1⟩
  rw [dg_val (nm_W _), val_nm]
  have h7 : val b * 2 ^ s / 4294967296 ^ n < 4294967296 := by
    rw [Nat.div_lt_iff_lt_mul (pow_pos' n), ← pow_succ']; exact l2
  rw [Nat.mod_eq_of_lt h7, Nat.le_div_iff_mul_le (pow_pos' n)]
  exact l1
theorem divN {a b : List Int} (ha : Canon a) (hb : Canon b) (hla : a.length < 100000) (hlb : b.length < 100000) (h0 : 0 < b.length) : Ev (fun k => nat_Div.f k a b) (nm (val a / val b), nm (val a % val b), true) := by
  unfold nat_Div.f
  refine Ev.congr (fun k => if_neg (by omega)) ?_
  refine Ev.bind (f := fun k t386 => _) (cmpN ha hb (by omega)) ?_
  by_cases hlt : val a < val b
  · have hc : cmpv (val a) (val b) < 0 := by unfold cmpv; rw [if_neg (by omega), if_pos hlt]; decide
    rw [Nat.div_eq_of_lt hlt, Nat.mod_eq_of_lt hlt, nm_zero, ← canon_eq ha]
    refine Ev.congr (f := fun _ => some ([], a, true)) (fun k => ?_) (Ev.now _)
    rw [if_pos hc]
    unfold api_Nat_uint32.f
    rw [if_pos (by omega)]
    rfl
  · have hc : ¬ cmpv (val a) (val b) < 0 := by unfold cmpv; rw [if_neg hlt]; split <;> decide
    refine Ev.congr (fun k => if_neg hc) ?_
    have hll := canon_len_le ha hb (by omega)
    obtain ⟨n, hn⟩ : ∃ n, b.length = n + 1 := ⟨b.length - 1, by omega⟩
    have htd : 0 < dg b n := by
      have := hb.2 h0
      rw [hn, show (((n + 1 : Nat) : Int) - 1) = (n : Int) by omega, rd_dg hb.1] at this
      omega
    have htl := dg_lt hb.1 n
    rcases Nat.eq_zero_or_pos n with hz | hz
    · subst hz
      have hvb : val b = dg b 0 := by
        have := take_dg hb.1 0
        rw [List.take_of_length_le (by omega)] at this
        rw [this.1]; simp [val]
      refine Ev.congr (fun k => if_pos (by omega)) ?_
      refine Ev.congr (fun k => if_pos (by omega)) ?_
      have := shortN ha.1 (dg b 0) htd htl (by omega)
      have e : rd b 0 = (dg b 0 : Int) := rd_dg hb.1 0
      rw [e, hvb]
      exact Ev.bind (f := fun k bt391 => some (bt391.1, bt391.2, true)) this (Ev.now _)
    · refine Ev.congr (fun k => if_neg (by omega)) ?_
      have w1 : wrap64 ((b.length : Int) - 1) = (n : Int) := by rw [w64 _ (by omega) (by omega)]; omega
      obtain ⟨s, hs, el, q1, q2⟩ := lead (dg b n) htd htl
      obtain ⟨len, htop, hbig⟩ := norm_num hb n s hn q1 q2
      obtain ⟨ua, ua1, ua2, ua3, ua4⟩ := shiftedN ha.1 s hs (by omega)
      obtain ⟨ub, ub1, ub2, ub3, ub4⟩ := shiftedN hb.1 s hs (by omega)
      have hpl := plainf ub1 (by omega)
      rw [ub3] at hpl
      have w2 : wrap64 (wrap64 ((a.length : Int) - (b.length : Int)) + 1) = ((a.length - n : Nat) : Int) := by
        clear w1
        rw [w64 ((a.length : Int) - (b.length : Int)) (by omega) (by omega), w64 _ (by omega) (by omega)]; omega
      rw [w1]
      refine Ev.congr (fun k => if_pos (Int.natCast_nonneg _)) ?_
      refine Ev.congr (fun k => if_pos (by clear w1 w2; omega)) ?_
      have el2 : Ev (fun _ => bits_LeadingZeros32.f (rd b (n : Int))) (s : Int) := by
        have e : rd b (n : Int) = (dg b n : Int) := rd_dg hb.1 n
        rw [e, el]
        exact Ev.now _
      refine Ev.bind (f := fun k t398 => _) el2 ?_
      refine Ev.bind (f := fun k t399 => _) ua4 ?_
      refine Ev.bind (f := fun k t402 => _) ub4 ?_
      refine Ev.bind (f := fun k t405 => _) hpl ?_
      rw [w2]
      refine Ev.congr (fun k => if_pos (Int.natCast_nonneg _)) ?_
      refine Ev.congr (fun k => if_pos (by clear w1 w2; omega)) ?_
      refine Ev.bind (f := fun k y408 => _) (g := fun _ => some (List.replicate (((a.length - n : Nat) : Int)).toNat (0 : Int))) (Ev.now _) ?_
      rw [Int.toNat_natCast, List.length_replicate]
      have w3 : wrap64 (((a.length - n : Nat) : Int) - 1) = ((a.length - n : Nat) : Int) - 1 := w64 _ (by clear w1 w2; omega) (by clear w1 w2; omega)
      rw [w3]
      have hult : val ua < val (nm (val b * 2 ^ s)) * 4294967296 ^ (a.length - n) := by
        rw [ua3, val_nm]
        have e1 := val_lt ha.1
        have e2 : 2 ^ s ≤ 2147483648 := (pow2_lt s hs).1
        have e3 : val a * 2 ^ s < 4294967296 ^ a.length * 2147483648 := Nat.lt_of_le_of_lt (Nat.mul_le_mul_left _ e2) (Nat.mul_lt_mul_of_pos_right e1 (by decide))
        have e4 := Nat.mul_le_mul_right (4294967296 ^ (a.length - n)) hbig
        have e5 : 2147483648 * 4294967296 ^ n * 4294967296 ^ (a.length - n) = 4294967296 ^ a.length * 2147483648 := by
          rw [Nat.mul_assoc, ← Nat.pow_add, show n + (a.length - n) = a.length by clear w1 w2 w3; omega, Nat.mul_comm]
        rw [e5] at e4
        exact Nat.lt_of_lt_of_le e3 e4
      have := div_l0 (nm_W (val b * 2 ^ s)) s hs (by rw [len]; clear w1 w2 w3; omega) (by rw [len]; clear w1 w2 w3; omega) (by rw [len]; exact htop) (a.length + 1) (a.length - n) (val a * 2 ^ s) (by rw [len]; clear w1 w2 w3; omega) (by clear w1 w2 w3; omega)
        (a.length - n) (Nat.le_refl _) (List.replicate (a.length - n) 0) ua 0 (W_replicate _) (by simp) (by rw [val_replicate, Nat.mul_zero]) ua1 ua2 hult (by rw [ua3, Nat.mul_zero, Nat.mul_zero, Nat.add_zero])
      rw [val_nm, Nat.mul_div_mul_right _ _ (Nat.pow_pos (by decide)), Nat.mul_mod_mul_right, Nat.mul_div_cancel _ (Nat.pow_pos (by decide))] at this
      exact this
theorem div_none {a b : List Int} (h0 : b.length = 0) : Ev (fun k => nat_Div.f k a b) ([], [], false) := by
  unfold nat_Div.f
  exact Ev.congr (f := fun _ => some ([], [], false)) (fun k => by rw [if_pos (by omega)]) (Ev.now _)
end Go.Proofs.Ytlmjbhhapllfgaa.V
