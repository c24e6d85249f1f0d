/- Quotients and rests of numbers: what the printed pieces of the division compute, told by values. -/
import Derived.Test.YtlmjbhhapllfgaaAx1
import Derived.Test.YtlmjbhhapllfgaaAx5
import Derived.Test.YtlmjbhhapllfgaaAx7
import Derived.Test.YtlmjbhhapllfgaaNatMq
import Derived.Laws.BitsAll
namespace Go.Proofs.Ytlmjbhhapllfgaa.V
open Go.RowKit Go.Proofs.Ytlmjbhhapllfgaa.A Go.Proofs.YtlmjbhhapllfgaaW.PrintWords Go.Proofs.YtlmjbhhapllfgaaW.PrintLast
set_option linter.unusedVariables false
set_option linter.unusedSimpArgs false

theorem dg_val {l : List Int} (hw : W l) (j : Nat) : dg l j = val l / 4294967296 ^ j % 4294967296 := by
  by_cases h : j < l.length
  · have := rd_val hw j h
    unfold dg
    rw [this]; rfl
  · rw [dg_over l j (by omega), val_over hw j (by omega)]
theorem val_of_dg {l : List Int} (hw : W l) (V : Nat) (hV : V < 4294967296 ^ l.length) (h : ∀ j, j < l.length → dg l j = V / 4294967296 ^ j % 4294967296) : val l = V := by
  have H : ∀ i, i ≤ l.length → val (l.take i) = V % 4294967296 ^ i := by
    intro i
    induction i with
    | zero => intro _; simp [val, Nat.mod_one]
    | succ i ih =>
      intro hi
      rw [(take_dg hw i).1, ih (by omega), h i (by omega), Nat.mod_pow_succ]
  have := H l.length (Nat.le_refl _)
  rwa [List.take_of_length_le (Nat.le_refl _), Nat.mod_eq_of_lt hV] at this
theorem or_low (c m n : Nat) (hc : c < 2 ^ n) : c ||| (2 ^ n * m) = c + 2 ^ n * m := by rw [Nat.or_comm, ← Nat.two_pow_add_eq_or_of_lt hc, Nat.add_comm]
theorem two32 (n : Nat) (h : n < 32) : (4294967296 : Nat) = 2 ^ (32 - n) * 2 ^ n := by rw [← Nat.pow_add, show 32 - n + n = 32 by omega]
theorem pow2_lt (n : Nat) (h : n < 32) : 2 ^ n ≤ 2147483648 ∧ 0 < 2 ^ n := ⟨Nat.le_trans (Nat.pow_le_pow_right (by omega) (show n ≤ 31 by omega)) (by decide), Nat.pow_pos (by omega)⟩

/-! shifted -/
theorem shl_ar (x n c : Nat) (hx : x < 4294967296) (hn : n < 32) (hc : c < 2 ^ n) :
    shl .u64 (IntKind.u64.wrap (x : Int)) (n : Int) = ((x * 2 ^ n : Nat) : Int) ∧ (x * 2 ^ n) / 4294967296 < 2 ^ n ∧
    Go.bits .or .u32 (c : Int) (((x * 2 ^ n : Nat) : Int) % 4294967296) = ((c + (x * 2 ^ n) % 4294967296 : Nat) : Int) ∧ c + (x * 2 ^ n) % 4294967296 < 4294967296 ∧
    ((x * 2 ^ n : Nat) : Int) / 4294967296 % 4294967296 = (((x * 2 ^ n) / 4294967296 : Nat) : Int) := by
  obtain ⟨h1, h2⟩ := pow2_lt n hn
  have e := two32 n hn
  have hm : (x * 2 ^ n) % 4294967296 = 2 ^ n * (x % 2 ^ (32 - n)) := by
    conv => lhs; rw [e]
    rw [Nat.mul_mod_mul_right, Nat.mul_comm]
  have hd : (x * 2 ^ n) / 4294967296 < 2 ^ n := by
    rw [Nat.div_lt_iff_lt_mul (by omega), Nat.mul_comm (2 ^ n)]
    exact Nat.mul_lt_mul_of_pos_right hx h2
  have hb : x * 2 ^ n ≤ 4294967295 * 2147483648 := Nat.mul_le_mul (by omega) h1
  have hs : c + (x * 2 ^ n) % 4294967296 < 4294967296 := by
    rw [hm]
    have h5 : x % 2 ^ (32 - n) + 1 ≤ 2 ^ (32 - n) := Nat.mod_lt _ (Nat.pow_pos (by omega))
    have h6 := Nat.mul_le_mul_left (2 ^ n) h5
    rw [Nat.mul_add, Nat.mul_one, Nat.mul_comm (2 ^ n) (2 ^ (32 - n)), ← e] at h6
    omega
  refine ⟨?_, hd, ?_, hs, ?_⟩
  · have wx : IntKind.u64.wrap (x : Int) = (x : Int) := by rw [wu64]; omega
    have : (x : Int) * 2 ^ n = ((x * 2 ^ n : Nat) : Int) := by simp
    unfold shl
    rw [wx, show min (n : Int).toNat IntKind.u64.bits = n by simp [IntKind.bits]; omega, this, wu64]
    clear wx this
    generalize x * 2 ^ n = z at *
    omega
  · have e1 : ((x * 2 ^ n : Nat) : Int) % 4294967296 = (((x * 2 ^ n) % 4294967296 : Nat) : Int) := by omega
    rw [e1, u32_or_nat c _ (by omega) (Nat.mod_lt _ (by omega)), hm, or_low _ _ _ hc]
  · generalize x * 2 ^ n = z at *
    omega
theorem shifted_val (z s x B r d c u : Nat) (hz : u = s) (hd : B * d + r = x) : (u + z * (c + r)) - z * c + (B * z) * d = s + z * x := by
  subst hz
  rw [← hd, Nat.mul_add, Nat.mul_add]
  have : B * z * d = z * (B * d) := by rw [Nat.mul_comm B z, Nat.mul_assoc]
  omega
theorem shifted_l0 {a : List Int} (ha : W a) (n : Nat) (hn : n < 32) (hl : a.length < 17592186044416) : ∀ (d i : Nat), i + d = a.length → ∀ x : List Int, W x → x.length = a.length + 1 → (∀ j, i < j → dg x j = 0) → dg x i < 2 ^ n → val x = val (a.take i) * 2 ^ n →
    ∃ r : List Int, W r ∧ r.length = a.length + 1 ∧ val r = val a * 2 ^ n ∧ Ev (fun k => nat_shifted.l0 k (n : Int) x a (a.length : Int) (i : Int)) r := by
  intro d
  induction d with
  | zero =>
    intro i hi x hw hx _ _ hv
    obtain rfl : i = a.length := by omega
    rw [List.take_of_length_le (Nat.le_refl _)] at hv
    refine ⟨x, hw, hx, hv, Ev.step (f := fun _ => some x) (fun k => ?_) (Ev.now _)⟩
    simp only [nat_shifted.l0]
    rw [if_neg (by omega)]
  | succ d ih =>
    intro i hi x hw hx hz hc hv
    have hx1 := dg_lt ha i
    obtain ⟨e1, h1, e2, h2, e3⟩ := shl_ar (dg a i) n (dg x i) hx1 hn hc
    have c1 : (i : Int) < (a.length : Int) := by clear e1 e2 e3; omega
    have c2 : (0 : Int) ≤ (i : Int) := by clear e1 e2 e3; omega
    have c3 : (0 : Int) ≤ (n : Int) := by clear e1 e2 e3; omega
    have c4 : (i : Int) < (x.length : Int) := by clear e1 e2 e3; omega
    have c5 : (0 : Int) ≤ ((i + 1 : Nat) : Int) := by clear e1 e2 e3; omega
    have c6 : ((i + 1 : Nat) : Int) < (x.length : Int) := by clear e1 e2 e3; omega
    have hi4 : i < x.length := by clear e1 e2 e3; omega
    have hi5 : i + 1 < x.length := by clear e1 e2 e3; omega
    have hbi : i < 4611686018427387904 := by clear e1 e2 e3; omega
    have h2' := (pow2_lt n hn).1
    have hlt : dg a i * 2 ^ n / 4294967296 < 4294967296 := by clear e1 e2 e3; omega
    let x1 := x.set i ((dg x i + (dg a i * 2 ^ n) % 4294967296 : Nat) : Int)
    have hx1l : x1.length = a.length + 1 := by show (x.set _ _).length = _; rw [List.length_set]; exact hx
    have hw1 : W x1 := W_set hw _ _ (Int.natCast_nonneg _) (by clear e1 e2 e3; omega)
    have hd1 : dg x1 (i + 1) = 0 := by show dg (x.set _ _) _ = _; rw [dg_set _ _ _ _ hi4, if_neg (by clear e1 e2 e3; omega), hz _ (by clear e1 e2 e3; omega)]
    have hv1 := val_dset (l := x) i (dg x i + (dg a i * 2 ^ n) % 4294967296) hi4
    have hv2 := val_dset (l := x1) (i + 1) (dg a i * 2 ^ n / 4294967296) (by rw [hx1l]; clear e1 e2 e3; omega)
    rw [hd1, Nat.mul_zero, Nat.add_zero, pow_succ'] at hv2
    obtain ⟨r, q1, q2, q3, q4⟩ := ih (i + 1) (by clear e1 e2 e3; omega) (x1.set (i + 1) ((dg a i * 2 ^ n / 4294967296 : Nat) : Int)) (W_set hw1 _ _ (Int.natCast_nonneg _) (by clear e1 e2 e3; omega)) (by rw [List.length_set]; exact hx1l)
      (fun j hj => by
        rw [dg_set _ _ _ _ (by rw [hx1l]; clear e1 e2 e3; omega), if_neg (by clear e1 e2 e3; omega)]
        show dg (x.set _ _) _ = _
        rw [dg_set _ _ _ _ hi4, if_neg (by clear e1 e2 e3; omega), hz j (by clear e1 e2 e3; omega)])
      (by rw [dg_set _ _ _ _ (by rw [hx1l]; clear e1 e2 e3; omega), if_pos rfl]; exact h1)
      (by
        rw [hv2, (take_dg ha i).1, Nat.add_mul]
        have hdm := Nat.div_add_mod (dg a i * 2 ^ n) 4294967296
        have := shifted_val (4294967296 ^ i) (val (a.take i) * 2 ^ n) (dg a i * 2 ^ n) 4294967296 ((dg a i * 2 ^ n) % 4294967296) (dg a i * 2 ^ n / 4294967296) (dg x i) (val x) hv hdm
        have h9 : val x1 = val x + 4294967296 ^ i * (dg x i + dg a i * 2 ^ n % 4294967296) - 4294967296 ^ i * dg x i := by
          show val (x.set _ _) = _
          clear e1 e2 e3
          omega
        rw [h9, this, Nat.mul_assoc])
    refine ⟨r, q1, q2, q3, Ev.step (fun k => ?_) q4⟩
    simp only [nat_shifted.l0]
    rw [if_pos c1, if_pos c2, if_pos c1, if_pos c3, if_pos c4, wsucc i hbi, if_pos c5, if_pos c6, rd_dg ha, rd_dg hw, e1, e2, e3]
    rfl
theorem shiftedN {a : List Int} (ha : W a) (n : Nat) (hn : n < 32) (hl : a.length < 17592186044416) :
    ∃ r : List Int, W r ∧ r.length = a.length + 1 ∧ val r = val a * 2 ^ n ∧ Ev (fun k => nat_shifted.f k a (n : Int)) r := by
  obtain ⟨r, h1, h2, h3, h4⟩ := shifted_l0 ha n hn hl a.length 0 (by omega) (List.replicate (a.length + 1) 0) (W_replicate _) (by simp) (fun j _ => dg_replicate _ j) (by rw [dg_replicate]; exact (pow2_lt n hn).2) (by rw [val_replicate]; simp [val])
  refine ⟨r, h1, h2, h3, Ev.congr (fun k => ?_) h4⟩
  unfold nat_shifted.f
  rw [wsucc a.length (by omega), if_pos (by omega), if_pos (by omega)]
  rfl

/-! back -/
theorem back_dg (V i n : Nat) (hn : n < 32) : V / 2 ^ n / 4294967296 ^ i % 4294967296 = V / 4294967296 ^ i % 4294967296 / 2 ^ n + 2 ^ (32 - n) * (V / 4294967296 ^ (i + 1) % 4294967296 % 2 ^ n) := by
  have e := two32 n hn
  have hp := (pow2_lt n hn).2
  rw [Nat.div_div_eq_div_mul, Nat.mul_comm, ← Nat.div_div_eq_div_mul, Nat.pow_succ, ← Nat.div_div_eq_div_mul]
  generalize V / 4294967296 ^ i = z
  have h1 := Nat.div_add_mod z 4294967296
  have hx := Nat.mod_lt z (show 0 < 4294967296 by omega)
  generalize z / 4294967296 = z' at h1 ⊢
  generalize z % 4294967296 = x at h1 hx ⊢
  have h2 : z = x + 2 ^ n * (2 ^ (32 - n) * z') := by rw [← h1, ← Nat.mul_assoc, Nat.mul_comm (2 ^ n), ← e]; omega
  have h3 : z / 2 ^ n = x / 2 ^ n + 2 ^ (32 - n) * z' := by rw [h2, Nat.add_mul_div_left _ _ hp]
  have hq : 0 < 2 ^ (32 - n) := Nat.pow_pos (by omega)
  have h4 : x / 2 ^ n < 2 ^ (32 - n) := by rw [Nat.div_lt_iff_lt_mul hp, ← e]; exact hx
  have h5 : z' % 4294967296 % 2 ^ n = z' % 2 ^ n := by rw [Nat.mod_mod_of_dvd]; rw [e]; exact Nat.dvd_mul_left _ _
  rw [h5, h3]
  conv => lhs; rw [e]
  rw [Nat.mod_mul, Nat.add_mul_mod_self_left, Nat.mod_eq_of_lt h4, Nat.add_mul_div_left _ _ hq, Nat.div_eq_of_lt h4, Nat.zero_add]
theorem back_ar (x y n : Nat) (hx : x < 4294967296) (hy : y < 4294967296) (hn : n < 32) :
    shr .u32 (x : Int) (n : Int) = ((x / 2 ^ n : Nat) : Int) ∧
    shr .u64 (IntKind.u64.wrap (IntKind.u64.wrap (y : Int) * 4294967296)) (n : Int) % 4294967296 = ((2 ^ (32 - n) * (y % 2 ^ n) : Nat) : Int) ∧
    Go.bits .or .u32 ((x / 2 ^ n : Nat) : Int) ((2 ^ (32 - n) * (y % 2 ^ n) : Nat) : Int) = ((x / 2 ^ n + 2 ^ (32 - n) * (y % 2 ^ n) : Nat) : Int) ∧ x / 2 ^ n + 2 ^ (32 - n) * (y % 2 ^ n) < 4294967296 := by
  have e := two32 n hn
  obtain ⟨h1, hp⟩ := pow2_lt n hn
  have hq : 0 < 2 ^ (32 - n) := Nat.pow_pos (by omega)
  have h4 : x / 2 ^ n < 2 ^ (32 - n) := by rw [Nat.div_lt_iff_lt_mul hp, ← e]; exact hx
  have h5 : y % 2 ^ n + 1 ≤ 2 ^ n := Nat.mod_lt _ hp
  have h6 := Nat.mul_le_mul_left (2 ^ (32 - n)) h5
  rw [Nat.mul_add, Nat.mul_one, ← e] at h6
  have h7 : y * 4294967296 / 2 ^ n % 4294967296 = 2 ^ (32 - n) * (y % 2 ^ n) := by
    conv => lhs; lhs; rw [e]
    rw [← Nat.mul_assoc, Nat.mul_div_cancel _ hp, Nat.mul_comm y]
    conv => lhs; rw [e]
    rw [Nat.mul_mod_mul_left]
  refine ⟨?_, ?_, ?_, by omega⟩
  · unfold shr
    rw [show min (n : Int).toNat IntKind.u32.bits = n by simp [IntKind.bits]; omega]
    simp
  · unfold shr
    rw [show min (n : Int).toNat IntKind.u64.bits = n by simp [IntKind.bits]; omega, wu64, wu64]
    have e2 : ((y : Int) % 18446744073709551616 * 4294967296) % 18446744073709551616 = ((y * 4294967296 : Nat) : Int) := by omega
    rw [e2, ← h7]
    simp
  · rw [u32_or_nat _ _ (by omega) (by omega), or_low _ _ _ h4]
def qd (V n j : Nat) : Nat := V / 2 ^ n / 4294967296 ^ j % 4294967296
theorem cast_lt (z : Nat) (h : z < 4294967296) : ((z : Nat) : Int) < 4294967296 := by omega
theorem back_l0 {a : List Int} (ha : W a) (n : Nat) (hn : n < 32) (hl : a.length < 17592186044416) : ∀ (d i : Nat), i + d = a.length → ∀ x : List Int, W x → x.length = a.length → (∀ j, j < i → dg x j = qd (val a) n j) →
    Ev (fun k => nat_back.l0 k a (n : Int) x a (a.length : Int) (i : Int)) (nm (val a / 2 ^ n)) := by
  intro d
  induction d with
  | zero =>
    intro i hi x hw hx hj
    obtain rfl : i = a.length := by omega
    have hv : val x = val a / 2 ^ n := val_of_dg hw _ (by rw [hx]; exact Nat.lt_of_le_of_lt (Nat.div_le_self _ _) (val_lt ha)) (fun j h => hj j (by omega))
    refine Ev.step (f := fun k => (nat_plain.f k x).bind fun t => some t) (fun k => ?_) ?_
    · simp only [nat_back.l0]
      rw [if_neg (by omega)]
    · rw [← hv]
      exact Ev.bind (f := fun _ t => some t) (plainf hw (by omega)) (Ev.now _)
  | succ d ih =>
    intro i hi x hw hx hj
    have hx1 := dg_lt ha i
    have hy1 := dg_lt ha (i + 1)
    have c1 : (i : Int) < (a.length : Int) := by omega
    have c2 : (0 : Int) ≤ (i : Int) := by omega
    have c3 : (0 : Int) ≤ (n : Int) := by omega
    have c4 : (i : Int) < (x.length : Int) := by omega
    have hi4 : i < x.length := by omega
    have hbi : i < 4611686018427387904 := by omega
    have hi3 : i + 1 + d = a.length := by omega
    have hlast : ∀ j, j < i + 1 → i ≠ j → j < i := fun j h1 h2 => by omega
    have hbd : qd (val a) n i = dg a i / 2 ^ n + 2 ^ (32 - n) * (dg a (i + 1) % 2 ^ n) := by rw [dg_val ha, dg_val ha]; exact back_dg (val a) i n hn
    obtain ⟨e1, e2, e3, h4⟩ := back_ar (dg a i) (dg a (i + 1)) n hx1 hy1 hn
    have hw1 : W (x.set i ((dg a i / 2 ^ n : Nat) : Int)) := W_set hw _ _ (Int.natCast_nonneg _) (cast_lt _ (Nat.lt_of_le_of_lt (Nat.div_le_self _ _) hx1))
    have hl1 : (x.set i ((dg a i / 2 ^ n : Nat) : Int)).length = a.length := by rw [List.length_set]; exact hx
    have hi5 : i < (x.set i ((dg a i / 2 ^ n : Nat) : Int)).length := by rw [List.length_set]; exact hi4
    rcases Nat.lt_or_ge (i + 1) a.length with h | h
    · have hrd : rd (x.set i ((dg a i / 2 ^ n : Nat) : Int)) (i : Int) = ((dg a i / 2 ^ n : Nat) : Int) := by rw [rd_set _ _ _ _ hi4, if_pos rfl]
      have c5 : ((i + 1 : Nat) : Int) < (a.length : Int) := Int.ofNat_lt.mpr h
      have c6 : (0 : Int) ≤ ((i + 1 : Nat) : Int) := Int.natCast_nonneg _
      refine Ev.step (fun k => ?_) (ih (i + 1) hi3 ((x.set i ((dg a i / 2 ^ n : Nat) : Int)).set i ((dg a i / 2 ^ n + 2 ^ (32 - n) * (dg a (i + 1) % 2 ^ n) : Nat) : Int)) (W_set hw1 _ _ (Int.natCast_nonneg _) (cast_lt _ h4)) (by rw [List.length_set]; exact hl1) (fun j hjl => ?_))
      · simp only [nat_back.l0]
        rw [if_pos c1, if_pos c2, if_pos c1, if_pos c3, if_pos c4, wsucc i hbi, rd_dg ha i, e1]
        simp only [Option.bind_some]
        rw [if_pos c5, if_pos c6, rd_dg ha (i + 1), e2]
        simp only [Int.toNat_natCast]
        rw [hrd, e3]
      · rw [dg_set _ _ _ _ hi5]
        by_cases he : i = j
        · subst he; rw [if_pos rfl]; exact hbd.symm
        · rw [if_neg he, dg_set _ _ _ _ hi4, if_neg he]; exact hj j (hlast j hjl he)
    · have c5 : ¬ ((i + 1 : Nat) : Int) < (a.length : Int) := fun hc => absurd (Int.ofNat_lt.mp hc) (Nat.not_lt.mpr h)
      refine Ev.step (fun k => ?_) (ih (i + 1) hi3 (x.set i ((dg a i / 2 ^ n : Nat) : Int)) hw1 hl1 (fun j hjl => ?_))
      · simp only [nat_back.l0]
        rw [if_pos c1, if_pos c2, if_pos c1, if_pos c3, if_pos c4, wsucc i hbi, rd_dg ha i, e1]
        simp only [Option.bind_some]
        rw [if_neg c5]
        simp only [Int.toNat_natCast]
      · rw [dg_set _ _ _ _ hi4]
        by_cases he : i = j
        · subst he
          rw [if_pos rfl, hbd, dg_over a (i + 1) h, Nat.zero_mod, Nat.mul_zero, Nat.add_zero]
        · rw [if_neg he]; exact hj j (hlast j hjl he)
theorem backN {a : List Int} (ha : W a) (n : Nat) (hn : n < 32) (hl : a.length < 17592186044416) : Ev (fun k => nat_back.f k a (n : Int)) (nm (val a / 2 ^ n)) := by
  have := back_l0 ha n hn hl a.length 0 (by omega) (List.replicate a.length 0) (W_replicate _) (by simp) (fun j h => absurd h (by omega))
  refine Ev.congr (fun k => ?_) this
  unfold nat_back.f
  rw [if_pos (by omega), if_pos (by omega)]
  rfl

/-! short -/
theorem div32 (x y b : Nat) (hx : x < b) (hy : y < 4294967296) (hb : b < 4294967296) : bits_Div32.f (x : Int) (y : Int) (b : Int) = some ((((x * 4294967296 + y) / b : Nat) : Int), (((x * 4294967296 + y) % b : Nat) : Int)) := by
  unfold bits_Div32.f
  rw [if_pos (by omega)]
  have e : (x : Int) * 4294967296 + (y : Int) = ((x * 4294967296 + y : Nat) : Int) := by omega
  rw [e]
  simp
theorem short_l0 {a : List Int} (ha : W a) (b : Nat) (hb0 : 0 < b) (hb : b < 4294967296) (hl : a.length < 17592186044416) : ∀ (p : Nat), p ≤ a.length → ∀ (q : List Int) (r Q : Nat), W q → q.length = a.length → r < b → val q = 4294967296 ^ p * Q → val a / 4294967296 ^ p = b * Q + r →
    Ev (fun k => nat_short.l0 k a (b : Int) q (r : Int) ((p : Int) - 1)) (nm (val a / b), nm (val a % b)) := by
  intro p
  induction p with
  | zero =>
    intro hp q r Q hw hq hr hv hd
    rw [Nat.pow_zero, Nat.one_mul] at hv
    rw [Nat.pow_zero, Nat.div_one] at hd
    have e1 : val a / b = val q := by rw [hd, hv, Nat.mul_add_div hb0, Nat.div_eq_of_lt hr, Nat.add_zero]
    have e2 : val a % b = r := by rw [hd, Nat.mul_add_mod, Nat.mod_eq_of_lt hr]
    have hwr : W [(r : Int)] := by intro x hx; have := List.mem_singleton.mp hx; omega
    have er : val [(r : Int)] = r := by simp [val]
    rw [e1, e2]
    refine Ev.step (f := fun k => (nat_plain.f k q).bind fun t333 => ((nat_plain.f k (([(r : Int)] : List Int))).bind fun t339 => (some (t333, t339)))) (fun k => ?_) ?_
    · simp only [nat_short.l0]
      rw [if_neg (by omega)]
    · refine Ev.bind (f := fun k t333 => (nat_plain.f k (([(r : Int)] : List Int))).bind fun t339 => some (t333, t339)) (plainf hw (by omega)) ?_
      have := plainf hwr (by simp)
      rw [er] at this
      exact Ev.bind (f := fun k t339 => some (nm (val q), t339)) this (Ev.now _)
  | succ i ih =>
    intro hp q r Q hw hq hr hv hd
    have hx1 := dg_lt ha i
    have w : ((i + 1 : Nat) : Int) - 1 = (i : Int) := by omega
    have hi : i < q.length := by omega
    have hq0 : dg q i = 0 := by
      rw [dg_val hw, hv, Nat.pow_succ, Nat.mul_assoc, Nat.mul_div_cancel_left _ (pow_pos' i), Nat.mul_mod_right]
    have hql : (r * 4294967296 + dg a i) / b < 4294967296 := by
      rw [Nat.div_lt_iff_lt_mul hb0]
      have := Nat.mul_le_mul_right 4294967296 (show r + 1 ≤ b from hr)
      omega
    have hrl : (r * 4294967296 + dg a i) % b < b := Nat.mod_lt _ hb0
    have hs := val_dset (l := q) i ((r * 4294967296 + dg a i) / b) hi
    rw [hq0, Nat.mul_zero, Nat.add_zero] at hs
    refine Ev.step (fun k => ?_) (ih (by omega) (q.set i (((r * 4294967296 + dg a i) / b : Nat) : Int)) ((r * 4294967296 + dg a i) % b) (4294967296 * Q + (r * 4294967296 + dg a i) / b) (W_set hw _ _ (Int.natCast_nonneg _) (by omega)) (by rw [List.length_set]; exact hq) hrl ?_ ?_)
    · simp only [nat_short.l0]
      rw [w, if_pos (by omega), if_pos (by omega), if_pos (by omega), rd_dg ha, div32 _ _ _ hr hx1 hb]
      simp only [Option.bind_some]
      rw [if_pos (by omega), w64 ((i : Int) - 1) (by omega) (by omega)]
      rfl
    · rw [hs, hv, Nat.mul_add, pow_succ', Nat.mul_assoc, Nat.mul_left_comm]
    · have e1 : val a / 4294967296 ^ i = 4294967296 * (val a / 4294967296 ^ (i + 1)) + dg a i := by
        rw [dg_val ha, Nat.pow_succ, ← Nat.div_div_eq_div_mul]
        exact (Nat.div_add_mod _ _).symm
      have e2 := Nat.div_add_mod (r * 4294967296 + dg a i) b
      rw [e1, hd, Nat.mul_add, Nat.mul_add]
      have e3 : 4294967296 * (b * Q) = b * (4294967296 * Q) := by rw [Nat.mul_left_comm]
      rw [e3]
      omega
theorem shortN {a : List Int} (ha : W a) (b : Nat) (hb0 : 0 < b) (hb : b < 4294967296) (hl : a.length < 17592186044416) : Ev (fun k => nat_short.f k a (b : Int)) (nm (val a / b), nm (val a % b)) := by
  have := short_l0 ha b hb0 hb hl a.length (Nat.le_refl _) (List.replicate a.length 0) 0 0 (W_replicate _) (by simp) hb0 (by rw [val_replicate]; simp) (by rw [val_over ha _ (Nat.le_refl _)]; simp)
  refine Ev.congr (fun k => ?_) this
  unfold nat_short.f
  rw [if_pos (by omega), if_pos (by omega), w64 _ (by omega) (by omega)]
  rfl
end Go.Proofs.Ytlmjbhhapllfgaa.V
