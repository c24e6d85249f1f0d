/- Numbers by their values. -/
import Derived.Test.YtgdkbfipjeinjaaAx10
import Derived.Test.YtgdkbfipjeinjaaAx11
import Derived.Test.YtgdkbfipjeinjaaAx12
import Derived.Test.YtgdkbfipjeinjaaAx13
import Derived.Test.YtgdkbfipjeinjaaAx14
import Derived.Test.YtgdkbfipjeinjaaAx3
import Derived.Test.YtgdkbfipjeinjaaNatB
namespace Go.Proofs.Ytgdkbfipjeinjaa.V
open Go.RowKit Go.Proofs.Ytgdkbfipjeinjaa.A Go.Proofs.YtgdkbfipjeinjaaW.PrintWords Go.Proofs.YtgdkbfipjeinjaaW.PrintLast
set_option linter.unusedVariables false
set_option linter.unusedSimpArgs false

theorem refshifted_eq (k : Nat) (a : List Int) (n : Int) (x : List Int) (i : Int) : apostilleref7_shifted.l0 k a n x i = nat_shifted.l0 k n x a (a.length : Int) i := by
  induction k generalizing x i with
  | zero => simp only [apostilleref7_shifted.l0, nat_shifted.l0]
  | succ k ih =>
    simp only [apostilleref7_shifted.l0, nat_shifted.l0, ih]
    by_cases h : i < (a.length : Int)
    · simp only [if_pos h]
    · simp only [if_neg h]
theorem refshiftedN {a : List Int} (ha : W a) (n : Nat) (hn : n < 32) (hl : a.length < 17592186044416) :
    ∃ r : List Int, W r ∧ r.length = a.length + 1 ∧ val r = val a * 2 ^ n ∧ Ev (fun k => apostilleref7_shifted.f k a (n : Int)) r := by
  obtain ⟨r, h1, h2, h3, h4⟩ := shiftedN ha n hn hl
  refine ⟨r, h1, h2, h3, Ev.congr (fun k => ?_) h4⟩
  unfold nat_shifted.f apostilleref7_shifted.f
  simp only [refshifted_eq]
theorem refback_ar (x y n : Nat) (hx : x < 4294967296) (hy : y < 4294967296) (hn : n < 32) :
    shr .u64 (Go.bits .or .u64 (IntKind.u64.wrap ((y : Int) * 4294967296)) (IntKind.u64.wrap (x : Int))) (n : Int) % 4294967296 = ((x / 2 ^ n + 2 ^ (32 - n) * (y % 2 ^ n) : Nat) : Int) ∧ x / 2 ^ n + 2 ^ (32 - n) * (y % 2 ^ n) < 4294967296 := by
  have e := two32 n hn
  obtain ⟨h1, hp⟩ := pow2_lt n hn
  have hq : 0 < 2 ^ (32 - n) := Nat.pow_pos (by omega)
  have h4 : x / 2 ^ n < 2 ^ (32 - n) := by rw [Nat.div_lt_iff_lt_mul hp, ← e]; exact hx
  have h5 : y % 2 ^ n + 1 ≤ 2 ^ n := Nat.mod_lt _ hp
  have h6 := Nat.mul_le_mul_left (2 ^ (32 - n)) h5
  rw [Nat.mul_add, Nat.mul_one, ← e] at h6
  have h7 : (x + 2 ^ n * (2 ^ (32 - n) * y)) / 2 ^ n % 4294967296 = x / 2 ^ n + 2 ^ (32 - n) * (y % 2 ^ n) := by
    rw [Nat.add_mul_div_left _ _ hp]
    conv => lhs; rw [e]
    rw [Nat.mod_mul, Nat.add_mul_mod_self_left, Nat.mod_eq_of_lt h4, Nat.add_mul_div_left _ _ hq, Nat.div_eq_of_lt h4, Nat.zero_add]
  have h8 : 2 ^ n * (2 ^ (32 - n) * y) = y * 4294967296 := by rw [← Nat.mul_assoc, Nat.mul_comm (2 ^ n), ← e, Nat.mul_comm]
  rw [h8] at h7
  refine ⟨?_, by omega⟩
  have wx : IntKind.u64.wrap (x : Int) = (x : Int) := by clear h4 h5 h6 h7 h8 e; rw [wu64]; omega
  have wy : IntKind.u64.wrap ((y : Int) * 4294967296) = (y : Int) * 4294967296 := by clear h4 h5 h6 h7 h8 e wx; rw [wu64]; omega
  have wj : Go.bits .or .u64 ((y : Int) * 4294967296) (x : Int) = ((x + y * 4294967296 : Nat) : Int) := by
    clear h4 h5 h6 h7 h8 e wx wy
    rw [u64_join _ _ 32 (by omega) (by omega) (by omega) (by omega) (by omega) (by omega)]
    omega
  rw [wx, wy, wj]
  unfold shr
  rw [show min (n : Int).toNat IntKind.u64.bits = n by simp [IntKind.bits]; omega, ← h7]
  simp
theorem refback_l0 {a : List Int} (ha : W a) (n : Nat) (hn : n < 32) (hl : a.length < 17592186044416) : ∀ (d i : Nat), i + d = a.length → ∀ x : List Int, W x → x.length = a.length → (∀ j, j < i → dg x j = qd (val a) n j) →
    Ev (fun k => apostilleref7_back.l0 k a (n : Int) x (i : Int)) (nm (val a / 2 ^ n)) := by
  intro d
  induction d with
  | zero =>
    intro i hi x hw hx hj
    obtain rfl : i = a.length := by omega
    have hv : val x = val a / 2 ^ n := val_of_dg hw _ (by rw [hx]; exact Nat.lt_of_le_of_lt (Nat.div_le_self _ _) (val_lt ha)) (fun j h => hj j (by omega))
    refine Ev.step (f := fun k => (apostilleref7_Trim.f k x).bind fun t => some t) (fun k => ?_) ?_
    · simp only [apostilleref7_back.l0]
      rw [if_neg (by omega)]
    · rw [← hv]
      exact Ev.bind (f := fun _ t => some t) (trimf hw (by omega)) (Ev.now _)
  | succ d ih =>
    intro i hi x hw hx hj
    have hx1 := dg_lt ha i
    have hy1 := dg_lt ha (i + 1)
    have c1 : (i : Int) < (a.length : Int) := by omega
    have c2 : (0 : Int) ≤ (i : Int) := by omega
    have c3 : (0 : Int) ≤ (n : Int) := by omega
    have c4 : (i : Int) < (x.length : Int) := by omega
    have hi4 : i < x.length := by omega
    have hbi : i < 4611686018427387904 := by omega
    have hi3 : i + 1 + d = a.length := by omega
    have hlast : ∀ j, j < i + 1 → i ≠ j → j < i := fun j h1 h2 => by omega
    have hbd : qd (val a) n i = dg a i / 2 ^ n + 2 ^ (32 - n) * (dg a (i + 1) % 2 ^ n) := by rw [dg_val ha, dg_val ha]; exact back_dg (val a) i n hn
    obtain ⟨e1, h4⟩ := refback_ar (dg a i) (dg a (i + 1)) n hx1 hy1 hn
    refine Ev.step (fun k => ?_) (ih (i + 1) hi3 (x.set i ((dg a i / 2 ^ n + 2 ^ (32 - n) * (dg a (i + 1) % 2 ^ n) : Nat) : Int)) (W_set hw _ _ (Int.natCast_nonneg _) (cast_lt _ h4)) (by rw [List.length_set]; exact hx) (fun j hjl => ?_))
    · simp only [apostilleref7_back.l0]
      rw [if_pos c1, wsucc i hbi, digitN ha (i + 1)]
      simp only [Option.bind_some]
      rw [if_pos c2, if_pos c3, if_pos c4, rd_dg ha i, e1]
      rfl
    · rw [dg_set _ _ _ _ hi4]
      by_cases he : i = j
      · subst he; rw [if_pos rfl]; exact hbd.symm
      · rw [if_neg he]; exact hj j (hlast j hjl he)
theorem refbackN {a : List Int} (ha : W a) (n : Nat) (hn : n < 32) (hl : a.length < 17592186044416) : Ev (fun k => apostilleref7_back.f k a (n : Int)) (nm (val a / 2 ^ n)) := by
  have := refback_l0 ha n hn hl a.length 0 (by omega) (List.replicate a.length 0) (W_replicate _) (by simp) (fun j h => absurd h (by omega))
  refine Ev.congr (fun k => ?_) this
  unfold apostilleref7_back.f
  rw [if_pos (by omega), if_pos (by omega)]
  rfl
theorem short_ar (r y b : Nat) (hb0 : 0 < b) (hb : b < 4294967296) (hr : r < b) (hy : y < 4294967296) (hql : (r * 4294967296 + y) / b < 4294967296) :
    Go.bits .or .u64 (IntKind.u64.wrap ((r : Int) * 4294967296)) (IntKind.u64.wrap (y : Int)) = ((r * 4294967296 + y : Nat) : Int) ∧
    (IntKind.u64.wrap (Int.tdiv ((r * 4294967296 + y : Nat) : Int) (b : Int))) % 4294967296 = (((r * 4294967296 + y) / b : Nat) : Int) ∧
    Int.tmod ((r * 4294967296 + y : Nat) : Int) (b : Int) = (((r * 4294967296 + y) % b : Nat) : Int) := by
  have wr : IntKind.u64.wrap ((r : Int) * 4294967296) = (r : Int) * 4294967296 := by clear hql; rw [wu64]; omega
  have wy : IntKind.u64.wrap (y : Int) = (y : Int) := by clear hql wr; rw [wu64]; omega
  refine ⟨?_, ?_, rfl⟩
  · rw [wr, wy, u64_join _ _ 32 (by omega) (by omega) (by clear hql wr wy; omega) (by omega) (by omega) (by omega)]
    clear hql wr wy
    omega
  · have e : Int.tdiv ((r * 4294967296 + y : Nat) : Int) (b : Int) = (((r * 4294967296 + y) / b : Nat) : Int) := rfl
    rw [e, wu64]
    clear wr wy e
    generalize (r * 4294967296 + y) / b = z at *
    omega
theorem refshort_l0 {a : List Int} (ha : W a) (b : Nat) (hb0 : 0 < b) (hb : b < 4294967296) (hl : a.length < 17592186044416) : ∀ (p : Nat), p ≤ a.length → ∀ (q : List Int) (r Q : Nat), W q → q.length = a.length → r < b → val q = 4294967296 ^ p * Q → val a / 4294967296 ^ p = b * Q + r →
    Ev (fun k => apostilleref7_short.l0 k a (b : Int) q (r : Int) ((p : Int) - 1)) (nm (val a / b), nm (val a % b), true) := by
  intro p
  induction p with
  | zero =>
    intro hp q r Q hw hq hr hv hd
    rw [Nat.pow_zero, Nat.one_mul] at hv
    rw [Nat.pow_zero, Nat.div_one] at hd
    have e1 : val a / b = val q := by rw [hd, hv, Nat.mul_add_div hb0, Nat.div_eq_of_lt hr, Nat.add_zero]
    have e2 : val a % b = r := by rw [hd, Nat.mul_add_mod, Nat.mod_eq_of_lt hr]
    have hwr : W [(r : Int)] := by intro x hx; have := List.mem_singleton.mp hx; omega
    have er : val [(r : Int)] = r := by simp [val]
    have em : (r : Int) % 4294967296 = (r : Int) := by omega
    rw [e1, e2]
    refine Ev.step (f := fun k => (apostilleref7_Trim.f k q).bind fun t333 => ((apostilleref7_Trim.f k (([(r : Int)] : List Int))).bind fun t339 => (some (t333, t339, true)))) (fun k => ?_) ?_
    · simp only [apostilleref7_short.l0, em]
      rw [if_neg (by omega)]
    · refine Ev.bind (f := fun k t333 => (apostilleref7_Trim.f k (([(r : Int)] : List Int))).bind fun t339 => some (t333, t339, true)) (trimf hw (by omega)) ?_
      have := trimf hwr (by simp)
      rw [er] at this
      exact Ev.bind (f := fun k t339 => some (nm (val q), t339, true)) this (Ev.now _)
  | succ i ih =>
    intro hp q r Q hw hq hr hv hd
    have hx1 := dg_lt ha i
    have w : ((i + 1 : Nat) : Int) - 1 = (i : Int) := by omega
    have hi : i < q.length := by omega
    have hq0 : dg q i = 0 := by
      rw [dg_val hw, hv, Nat.pow_succ, Nat.mul_assoc, Nat.mul_div_cancel_left _ (pow_pos' i), Nat.mul_mod_right]
    have hql : (r * 4294967296 + dg a i) / b < 4294967296 := by
      rw [Nat.div_lt_iff_lt_mul hb0]
      have := Nat.mul_le_mul_right 4294967296 (show r + 1 ≤ b from hr)
      omega
    have hrl : (r * 4294967296 + dg a i) % b < b := Nat.mod_lt _ hb0
    have hs := val_dset (l := q) i ((r * 4294967296 + dg a i) / b) hi
    rw [hq0, Nat.mul_zero, Nat.add_zero] at hs
    obtain ⟨s1, s2, s3⟩ := short_ar r (dg a i) b hb0 hb hr hx1 hql
    have c0 : (i : Int) ≥ 0 := Int.natCast_nonneg _
    have c1 : (i : Int) < (a.length : Int) := by clear s1 s2 s3; omega
    have c2 : (i : Int) < (q.length : Int) := Int.ofNat_lt.mpr hi
    have c3 : ¬ (b : Int) = 0 := by clear s1 s2 s3; omega
    have c4 : wrap64 ((i : Int) - 1) = (i : Int) - 1 := by clear s1 s2 s3; exact w64 ((i : Int) - 1) (by omega) (by omega)
    refine Ev.step (fun k => ?_) (ih (by omega) (q.set i (((r * 4294967296 + dg a i) / b : Nat) : Int)) ((r * 4294967296 + dg a i) % b) (4294967296 * Q + (r * 4294967296 + dg a i) / b) (W_set hw _ _ (Int.natCast_nonneg _) (cast_lt _ hql)) (by rw [List.length_set]; exact hq) hrl ?_ ?_)
    · simp only [apostilleref7_short.l0, w, c4]
      rw [if_pos c0, if_pos c0, if_pos c1, if_neg c3, if_pos c2, rd_dg ha, s1, s2, s3]
      rfl
    · rw [hs, hv, Nat.mul_add, pow_succ', Nat.mul_assoc, Nat.mul_left_comm]
    · have e1 : val a / 4294967296 ^ i = 4294967296 * (val a / 4294967296 ^ (i + 1)) + dg a i := by
        rw [dg_val ha, Nat.pow_succ, ← Nat.div_div_eq_div_mul]
        exact (Nat.div_add_mod _ _).symm
      have e2 := Nat.div_add_mod (r * 4294967296 + dg a i) b
      rw [e1, hd, Nat.mul_add, Nat.mul_add]
      have e3 : 4294967296 * (b * Q) = b * (4294967296 * Q) := by rw [Nat.mul_left_comm]
      rw [e3]
      clear s1 s2 s3
      omega
theorem refshortN {a : List Int} (ha : W a) (b : Nat) (hb0 : 0 < b) (hb : b < 4294967296) (hl : a.length < 17592186044416) : Ev (fun k => apostilleref7_short.f k a (b : Int)) (nm (val a / b), nm (val a % b), true) := by
  have := refshort_l0 ha b hb0 hb hl a.length (Nat.le_refl _) (List.replicate a.length 0) 0 0 (W_replicate _) (by simp) hb0 (by rw [val_replicate]; simp) (by rw [val_over ha _ (Nat.le_refl _)]; simp)
  refine Ev.congr (fun k => ?_) this
  unfold apostilleref7_short.f
  rw [if_pos (by omega), if_pos (by omega), w64 _ (by omega) (by omega)]
  rfl
end Go.Proofs.Ytgdkbfipjeinjaa.V
namespace Go.Proofs.Ytgdkbfipjeinjaa.V
open Go.RowKit Go.Proofs.Ytgdkbfipjeinjaa.A Go.Proofs.YtgdkbfipjeinjaaW.PrintWords Go.Proofs.YtgdkbfipjeinjaaW.PrintLast
set_option linter.unusedVariables false
set_option linter.unusedSimpArgs false

theorem rgs_ar (q r v1 v2 u2 : Nat) (hr : r < 4294967296) (h1 : v1 < 4294967296) (h2 : v2 < 4294967296) (hu : u2 < 4294967296) (hq : q ≤ 4294967297) :
    (q < 4294967296 → IntKind.u64.wrap ((q : Int) * (v2 : Int)) = ((q * v2 : Nat) : Int)) := by
  have w2 : IntKind.u64.wrap (v2 : Int) = (v2 : Int) := by rw [wu64]; omega
  intro hq
  have := (gs_ar q r v1 v2 u2 hr h1 h2 hu (by omega)).1 hq
  rw [w2] at this
  exact this
theorem dg_part (u : List Int) (i m j : Nat) (h : j < m) : dg ((u.drop i).take m) j = dg u (i + j) := by
  unfold dg rd
  congr 1
  rw [List.getD_eq_getElem?_getD, List.getD_eq_getElem?_getD, Int.toNat_natCast, Int.toNat_natCast, List.getElem?_take, if_pos h, List.getElem?_drop]
theorem refguess_l0 {u v : List Int} (hp : W u) (hv : W v) (i n : Nat) (hn : 2 ≤ n) (hln : v.length = n) (hlp : i + n + 1 ≤ u.length) (hnb : n < 1000000) (hub : u.length < 1000000) (top qt : Nat)
    (htop : top < dg v (n - 1) * 4294967296 + 4294967296) (hqt : qt < 4294967296) (hqb : qt * (dg v (n - 1) * 4294967296 + dg v (n - 2)) ≤ top * 4294967296 + dg u (i + (n - 2))) :
    ∀ (q r : Nat), q * dg v (n - 1) + r = top → r < 4294967296 → q ≤ 4294967297 → qt ≤ q →
    ∃ g : Nat, qt ≤ g ∧ g < 4294967296 ∧ g * (dg v (n - 1) * 4294967296 + dg v (n - 2)) ≤ top * 4294967296 + dg u (i + (n - 2)) ∧ Ev (fun k => apostilleref7_guess.l0 k u v (i : Int) (n : Int) (q : Int) (r : Int)) (g : Int) := by
  intro q
  have wq2 : wrap64 ((n : Int) - 2) = ((n - 2 : Nat) : Int) := by rw [w64 _ (by omega) (by omega)]; omega
  have wq3 : wrap64 (wrap64 ((i : Int) + (n : Int)) - 2) = ((i + (n - 2) : Nat) : Int) := by
    clear wq2
    rw [wadd i n (by omega) (by omega), w64 _ (by omega) (by omega)]; omega
  have wq1 : wrap64 ((n : Int) - 1) = ((n - 1 : Nat) : Int) := by clear wq2 wq3; rw [w64 _ (by omega) (by omega)]; omega
  have k1 : (0 : Int) ≤ ((i + (n - 2) : Nat) : Int) := Int.natCast_nonneg _
  have k2 : ((i + (n - 2) : Nat) : Int) < (u.length : Int) := by clear wq1 wq2 wq3; omega
  have k3 : (0 : Int) ≤ ((n - 1 : Nat) : Int) := Int.natCast_nonneg _
  have k4 : ((n - 1 : Nat) : Int) < (v.length : Int) := by clear wq1 wq2 wq3; omega
  induction q with
  | zero =>
    intro r h1 h2 h3 h4
    refine ⟨0, by clear wq1 wq2 wq3; omega, by decide, by simp, ?_⟩
    obtain ⟨_, e2, _, _⟩ := gs_ar 0 r (dg v (n - 1)) (dg v (n - 2)) (dg u (i + (n - 2))) h2 (dg_lt hv _) (dg_lt hv _) (dg_lt hp _) (by decide)
    have e1 := rgs_ar 0 r (dg v (n - 1)) (dg v (n - 2)) (dg u (i + (n - 2))) h2 (dg_lt hv _) (dg_lt hv _) (dg_lt hp _) (by decide) (by decide)
    refine Ev.step (f := fun k => apostilleref7_guess.j1 k u v (i : Int) (n : Int) ((0 : Nat) : Int) (r : Int) false) (fun k => ?_) ?_
    · simp only [apostilleref7_guess.l0, wq2, wq3]
      rw [if_neg (by clear e1 e2 wq1 wq2 wq3; omega), if_pos (by clear e1 e2 wq1 wq2 wq3; omega), digitN hv (n - 2)]
      simp only [Option.bind_some]
      rw [if_pos k1, if_pos k2, rd_dg hp, e1, e2]
      congr 1
      exact decide_eq_false (by clear e1 e2 wq1 wq2 wq3; omega)
    · refine Ev.step (f := fun _ => some ((0 : Nat) : Int)) (fun k => ?_) (Ev.now _)
      simp only [apostilleref7_guess.j1]
      rw [if_neg (by simp)]
  | succ q ih =>
    intro r h1 h2 h3 h4
    have hv1 := dg_lt hv (n - 1)
    have hv2 := dg_lt hv (n - 2)
    have hu2 := dg_lt hp (i + (n - 2))
    have hm1 : (q + 1) * dg v (n - 1) = q * dg v (n - 1) + dg v (n - 1) := Nat.succ_mul _ _
    have hmb : (q + 1) * (dg v (n - 1) * 4294967296 + dg v (n - 2)) = (q * dg v (n - 1)) * 4294967296 + dg v (n - 1) * 4294967296 + (q * dg v (n - 2) + dg v (n - 2)) := by
      rw [Nat.mul_add, Nat.succ_mul, Nat.succ_mul, Nat.mul_assoc]
    have hmc : q * (dg v (n - 1) * 4294967296 + dg v (n - 2)) = (q * dg v (n - 1)) * 4294967296 + q * dg v (n - 2) := by rw [Nat.mul_add, Nat.mul_assoc]
    have hq2 : (q + 1) * dg v (n - 2) = q * dg v (n - 2) + dg v (n - 2) := Nat.succ_mul _ _
    have hqv2 : q * dg v (n - 2) ≤ 4294967296 * 4294967295 := Nat.mul_le_mul (by clear wq1 wq2 wq3; omega) (by clear wq1 wq2 wq3; omega)
    obtain ⟨_, e2, e3, e4⟩ := gs_ar (q + 1) r (dg v (n - 1)) (dg v (n - 2)) (dg u (i + (n - 2))) h2 hv1 hv2 hu2 h3
    have e1 := rgs_ar (q + 1) r (dg v (n - 1)) (dg v (n - 2)) (dg u (i + (n - 2))) h2 hv1 hv2 hu2 h3
    have e4 := e4 (Nat.succ_pos q)
    have wd : IntKind.u64.wrap (((dg v (n - 1) : Nat)) : Int) = (dg v (n - 1) : Int) := by clear e1 e2 e3 e4 wq1 wq2 wq3; rw [wu64]; omega
    -- one less, where it is too great
    have L : qt ≤ q → ∃ g : Nat, qt ≤ g ∧ g < 4294967296 ∧ g * (dg v (n - 1) * 4294967296 + dg v (n - 2)) ≤ top * 4294967296 + dg u (i + (n - 2)) ∧ Ev (fun k => apostilleref7_guess.j1 k u v (i : Int) (n : Int) ((q + 1 : Nat) : Int) (r : Int) true) (g : Int) := by
      intro hle
      rcases Nat.lt_or_ge (r + dg v (n - 1)) 4294967296 with hb | hb
      · obtain ⟨g, g1, g2, g3, g4⟩ := ih (r + dg v (n - 1)) (by clear e1 e2 e3 e4 wd wq1 wq2 wq3; omega) hb (by clear e1 e2 e3 e4 wd wq1 wq2 wq3; omega) hle
        refine ⟨g, g1, g2, g3, Ev.step (fun k => ?_) g4⟩
        simp only [apostilleref7_guess.j1, wq1]
        rw [if_pos trivial, if_pos k3, if_pos k4, rd_dg hv, e3, if_neg (by clear e1 e2 e3 e4 wd wq1 wq2 wq3; omega), e4]
        rfl
      · have hq1 : q < 4294967296 := by
          have h6 : q * dg v (n - 1) < dg v (n - 1) * 4294967296 := by clear e1 e2 e3 e4 wd wq1 wq2 wq3; omega
          rw [Nat.mul_comm] at h6
          exact Nat.lt_of_mul_lt_mul_left h6
        refine ⟨q, hle, hq1, by rw [hmc]; clear e1 e2 e3 e4 wd wq1 wq2 wq3; omega, Ev.step (f := fun _ => some (q : Int)) (fun k => ?_) (Ev.now _)⟩
        simp only [apostilleref7_guess.j1, wq1]
        rw [if_pos trivial, if_pos k3, if_pos k4, rd_dg hv, e3, if_pos (by clear e1 e2 e3 e4 wd wq1 wq2 wq3; omega), e4]
        rfl
    rcases Nat.lt_or_ge (q + 1) 4294967296 with hq | hq
    · have e1 := e1 hq
      by_cases hc : (q + 1) * dg v (n - 2) > r * 4294967296 + dg u (i + (n - 2))
      · have hle : qt ≤ q := by
          rcases Nat.lt_or_ge q qt with h | h
          · have := Nat.mul_le_mul_right (dg v (n - 1) * 4294967296 + dg v (n - 2)) (show q + 1 ≤ qt from h)
            clear e1 e2 e3 e4 wd wq1 wq2 wq3 L
            omega
          · exact h
        obtain ⟨g, g1, g2, g3, g4⟩ := L hle
        refine ⟨g, g1, g2, g3, Ev.step (fun k => ?_) g4⟩
        simp only [apostilleref7_guess.l0, wq2, wq3]
        rw [if_neg (by clear e1 e2 e3 e4 wd wq1 wq2 wq3 L; omega), if_pos (by clear e1 e2 e3 e4 wd wq1 wq2 wq3 L; omega), digitN hv (n - 2)]
        simp only [Option.bind_some]
        rw [if_pos k1, if_pos k2, rd_dg hp, e1, e2]
        congr 1
        exact decide_eq_true (Int.ofNat_lt.mpr hc)
      · refine ⟨q + 1, h4, hq, by rw [hmb]; clear e1 e2 e3 e4 wd wq1 wq2 wq3 L; omega, Ev.step (f := fun k => apostilleref7_guess.j1 k u v (i : Int) (n : Int) ((q + 1 : Nat) : Int) (r : Int) false) (fun k => ?_) ?_⟩
        · simp only [apostilleref7_guess.l0, wq2, wq3]
          rw [if_neg (by clear e1 e2 e3 e4 wd wq1 wq2 wq3 L; omega), if_pos (by clear e1 e2 e3 e4 wd wq1 wq2 wq3 L; omega), digitN hv (n - 2)]
          simp only [Option.bind_some]
          rw [if_pos k1, if_pos k2, rd_dg hp, e1, e2]
          congr 1
          exact decide_eq_false (fun h => hc (Int.ofNat_lt.mp h))
        · refine Ev.step (f := fun _ => some ((q + 1 : Nat) : Int)) (fun k => ?_) (Ev.now _)
          simp only [apostilleref7_guess.j1]
          rw [if_neg (by simp)]
    · obtain ⟨g, g1, g2, g3, g4⟩ := L (by clear e1 e2 e3 e4 wd wq1 wq2 wq3 L; omega)
      refine ⟨g, g1, g2, g3, Ev.step (fun k => ?_) g4⟩
      simp only [apostilleref7_guess.l0]
      rw [if_pos (by clear e1 e2 e3 e4 wd wq1 wq2 wq3 L; omega)]
/-- the numbers of a guess: what the first digits tell of the whole -/
theorem guess_nums {p v : List Int} (hp : W p) (hv : W v) (n : Nat) (hn : 2 ≤ n) (hln : v.length = n) (hlp : p.length = n + 1) (htopd : 2147483648 ≤ dg v (n - 1)) (hP : val p < val v * 4294967296) :
    dg p n * 4294967296 + dg p (n - 1) < dg v (n - 1) * 4294967296 + 4294967296 ∧ val p / val v < 4294967296 ∧ val p / val v * (dg v (n - 1) * 4294967296 + dg v (n - 2)) ≤ (dg p n * 4294967296 + dg p (n - 1)) * 4294967296 + dg p (n - 2) ∧
    (dg p n * 4294967296 + dg p (n - 1)) / dg v (n - 1) ≤ 4294967297 ∧ val p / val v ≤ (dg p n * 4294967296 + dg p (n - 1)) / dg v (n - 1) ∧
    ∀ g : Nat, g < 4294967296 → g * (dg v (n - 1) * 4294967296 + dg v (n - 2)) ≤ (dg p n * 4294967296 + dg p (n - 1)) * 4294967296 + dg p (n - 2) → g ≤ val p / val v + 1 := by
  have hv1 := dg_lt hv (n - 1)
  have hv2 := dg_lt hv (n - 2)
  have hu0 := dg_lt hp n
  have hu1 := dg_lt hp (n - 1)
  have hu2 := dg_lt hp (n - 2)
  have a1 := take_dg hv (n - 2)
  have a2 := take_dg hv (n - 1)
  have b1 := take_dg hp (n - 2)
  have b2 := take_dg hp (n - 1)
  have b3 := take_dg hp n
  rw [show n - 2 + 1 = n - 1 by omega] at a1 b1
  rw [show n - 1 + 1 = n by omega] at a2 b2
  rw [List.take_of_length_le (by omega)] at a2
  rw [List.take_of_length_le (by omega)] at b3
  have ez : (4294967296 : Nat) ^ (n - 1) = 4294967296 * 4294967296 ^ (n - 2) := by rw [← pow_succ', show n - 2 + 1 = n - 1 by omega]
  have ez2 : (4294967296 : Nat) ^ n = 4294967296 * 4294967296 ^ (n - 1) := by rw [← pow_succ', show n - 1 + 1 = n by omega]
  have hV : val v = val (v.take (n - 2)) + 4294967296 ^ (n - 2) * (dg v (n - 1) * 4294967296 + dg v (n - 2)) := by
    rw [a2.1, a1.1, ez, Nat.mul_add, Nat.mul_comm 4294967296, Nat.mul_assoc, Nat.mul_comm 4294967296]
    omega
  have hPv : val p = val (p.take (n - 2)) + 4294967296 ^ (n - 2) * ((dg p n * 4294967296 + dg p (n - 1)) * 4294967296 + dg p (n - 2)) := by
    rw [b3.1, b2.1, b1.1, ez2, ez, three]
    omega
  have hvl := a1.2
  have hpl := b1.2
  have htop : dg p n * 4294967296 + dg p (n - 1) < dg v (n - 1) * 4294967296 + 4294967296 := by
    rcases Nat.lt_or_ge (dg v (n - 1)) (dg p n) with h | h
    · exfalso
      have h5 : 4294967296 ^ n * (dg v (n - 1) + 1) ≤ 4294967296 ^ n * dg p n := Nat.mul_le_mul_left _ h
      have h6 : val v < 4294967296 ^ (n - 1) * (dg v (n - 1) + 1) := by rw [a2.1, Nat.mul_add, Nat.mul_one]; have := a2.2; omega
      have h7 : val v * 4294967296 < 4294967296 ^ n * (dg v (n - 1) + 1) := by
        rw [ez2, Nat.mul_assoc, Nat.mul_comm (val v)]
        exact Nat.mul_lt_mul_of_pos_left h6 (by omega)
      have h8 := b3.1
      clear hV hPv a1 a2 b1 b2 b3 ez ez2 hvl hpl
      omega
    · omega
  have hqt : val p / val v < 4294967296 := by
    rw [Nat.div_lt_iff_lt_mul (by
      rcases Nat.eq_zero_or_pos (val v) with h | h
      · rw [h] at hP; omega
      · exact h), Nat.mul_comm]
    exact hP
  have hlow := guess_low _ _ _ _ _ _ _ hPv hV hpl
  have hpos : 0 < dg v (n - 1) := by omega
  have hdm := Nat.div_add_mod (dg p n * 4294967296 + dg p (n - 1)) (dg v (n - 1))
  have hml := Nat.mod_lt (dg p n * 4294967296 + dg p (n - 1)) hpos
  have hq0 : (dg p n * 4294967296 + dg p (n - 1)) / dg v (n - 1) ≤ 4294967297 := by
    rw [Nat.div_le_iff_le_mul_add_pred hpos]
    clear hV hPv a1 a2 b1 b2 b3 ez ez2 hvl hpl hlow hdm hml hqt
    omega
  have hge : val p / val v ≤ (dg p n * 4294967296 + dg p (n - 1)) / dg v (n - 1) := by
    rw [Nat.le_div_iff_mul_le hpos]
    have e1 : val p / val v * (dg v (n - 1) * 4294967296 + dg v (n - 2)) = val p / val v * dg v (n - 1) * 4294967296 + val p / val v * dg v (n - 2) := by rw [Nat.mul_add, Nat.mul_assoc]
    have hlow2 := hlow
    rw [e1] at hlow2
    clear hV hPv a1 a2 b1 b2 b3 ez ez2 hvl hpl hdm hml hqt e1 hlow
    generalize val p / val v * dg v (n - 1) = x at *
    generalize val p / val v * dg v (n - 2) = y at *
    omega
  refine ⟨htop, hqt, hlow, hq0, hge, fun g g2 g3 => ?_⟩
  exact guess_high _ _ _ _ _ _ _ g hPv hV hvl (by clear hV hPv a1 a2 b1 b2 b3 ez ez2 hvl hpl hdm hml hqt hlow hge; omega) g2 g3
theorem refguessN {u v : List Int} (hu : W u) (hv : W v) (i n : Nat) (hn : 2 ≤ n) (hln : v.length = n) (hlp : i + n + 1 ≤ u.length) (hnb : n < 1000000) (hub : u.length < 1000000) (htopd : 2147483648 ≤ dg v (n - 1))
    (hP : val ((u.drop i).take (n + 1)) < val v * 4294967296) :
    ∃ g : Nat, val ((u.drop i).take (n + 1)) / val v ≤ g ∧ g ≤ val ((u.drop i).take (n + 1)) / val v + 1 ∧ g < 4294967296 ∧ Ev (fun k => apostilleref7_guess.f k u v (i : Int)) (g : Int) := by
  have hwp : W ((u.drop i).take (n + 1)) := W_take (W_drop hu i) _
  have hl1 : ((u.drop i).take (n + 1)).length = n + 1 := partlen u i (n + 1) (by omega)
  obtain ⟨m1, m2, m3, m4, m5, m6⟩ := guess_nums hwp hv n hn hln hl1 htopd hP
  have d0 := dg_part u i (n + 1) n (by omega)
  have d1 := dg_part u i (n + 1) (n - 1) (by omega)
  have d2 := dg_part u i (n + 1) (n - 2) (by omega)
  rw [d0, d1] at m1
  rw [d0, d1, d2] at m3
  rw [d0, d1] at m4 m5
  rw [d0, d1, d2] at m6
  have hu0 := dg_lt hu (i + n)
  have hu1 := dg_lt hu (i + (n - 1))
  have hv1 := dg_lt hv (n - 1)
  have hpos : 0 < dg v (n - 1) := by omega
  have hdm := Nat.div_add_mod (dg u (i + n) * 4294967296 + dg u (i + (n - 1))) (dg v (n - 1))
  have hml := Nat.mod_lt (dg u (i + n) * 4294967296 + dg u (i + (n - 1))) hpos
  obtain ⟨g, g1, g2, g3, g4⟩ := refguess_l0 hu hv i n hn hln hlp hnb hub _ _ m1 m2 m3
    ((dg u (i + n) * 4294967296 + dg u (i + (n - 1))) / dg v (n - 1)) ((dg u (i + n) * 4294967296 + dg u (i + (n - 1))) % dg v (n - 1)) (by rw [Nat.mul_comm]; exact hdm) (Nat.lt_trans hml hv1) m4 m5
  refine ⟨g, g1, m6 g g2 g3, g2, Ev.congr (fun k => ?_) g4⟩
  clear m1 m2 m3 m4 m5 m6 hdm hml g3 hP d0 d1 d2
  have w0 : wrap64 ((i : Int) + (n : Int)) = ((i + n : Nat) : Int) := wadd i n (by omega) (by omega)
  have w1 : wrap64 (((i + n : Nat) : Int) - 1) = ((i + (n - 1) : Nat) : Int) := by clear w0; rw [w64 _ (by omega) (by omega)]; omega
  have w2 : wrap64 ((n : Int) - 1) = ((n - 1 : Nat) : Int) := by clear w0 w1; rw [w64 _ (by omega) (by omega)]; omega
  have c1 : (0 : Int) ≤ ((i + n : Nat) : Int) := Int.natCast_nonneg _
  have c2 : ((i + n : Nat) : Int) < (u.length : Int) := by clear w0 w1 w2; omega
  have c3 : (0 : Int) ≤ ((i + (n - 1) : Nat) : Int) := Int.natCast_nonneg _
  have c4 : ((i + (n - 1) : Nat) : Int) < (u.length : Int) := by clear w0 w1 w2; omega
  have c5 : (0 : Int) ≤ ((n - 1 : Nat) : Int) := Int.natCast_nonneg _
  have c6 : ((n - 1 : Nat) : Int) < (n : Int) := by clear w0 w1 w2; omega
  obtain ⟨t1, t2, t3, t4⟩ := gt_ar (dg u (i + n)) (dg u (i + (n - 1))) (dg v (n - 1)) hu0 hu1 hpos hv1
  unfold apostilleref7_guess.f
  rw [hln, w0, w1, w2, if_pos c1, if_pos c2, if_pos c3, if_pos c4, if_pos c5, if_pos c6, rd_dg hv (n - 1), rd_dg hu (i + (n - 1)), rd_dg hu (i + n), if_neg t4, t1, t2, t3]
end Go.Proofs.Ytgdkbfipjeinjaa.V
namespace Go.Proofs.Ytgdkbfipjeinjaa.V
open Go.RowKit Go.Proofs.Ytgdkbfipjeinjaa.A Go.Proofs.YtgdkbfipjeinjaaW.PrintWords Go.Proofs.YtgdkbfipjeinjaaW.PrintLast
set_option linter.unusedVariables false
set_option linter.unusedSimpArgs false

theorem and_low (z : Nat) (h : z < 18446744073709551616) : Go.bits .and .u64 (z : Int) 4294967295 = ((z % 4294967296 : Nat) : Int) := by
  have e := u64_and_nat z 4294967295 h (by decide)
  have e2 : z &&& 4294967295 = z % 4294967296 := Nat.and_two_pow_sub_one_eq_mod z 32
  rw [e2] at e
  exact e
theorem rls_ar (g y c x b : Nat) (hg : g < 4294967296) (hy : y < 4294967296) (hc : c < 4294967296) (hx : x < 4294967296) (hb : b ≤ 1) :
    IntKind.u64.wrap (IntKind.u64.wrap ((g : Int) * (y : Int)) + (c : Int)) = ((c + g * y : Nat) : Int) ∧
    Go.bits .and .u64 ((c + g * y : Nat) : Int) 4294967295 = (((c + g * y) % 4294967296 : Nat) : Int) ∧
    IntKind.u64.wrap (IntKind.u64.wrap (IntKind.u64.wrap (IntKind.u64.wrap (x : Int) + 4294967296) - (((c + g * y) % 4294967296 : Nat) : Int)) - (b : Int)) = ((x + 4294967296 - (c + g * y) % 4294967296 - b : Nat) : Int) ∧
    ((x + 4294967296 - (c + g * y) % 4294967296 - b : Nat) : Int) % 4294967296 = (((x + 4294967296 - (c + g * y) % 4294967296 - b) % 4294967296 : Nat) : Int) ∧
    IntKind.u64.wrap (1 - ((x + 4294967296 - (c + g * y) % 4294967296 - b : Nat) : Int) / 4294967296) = (((if x < (c + g * y) % 4294967296 + b then 1 else 0) : Nat) : Int) ∧
    ((c + g * y : Nat) : Int) / 4294967296 = (((c + g * y) / 4294967296 : Nat) : Int) ∧ (c + g * y) / 4294967296 < 4294967296 := by
  have hm : g * y ≤ 4294967295 * 4294967295 := Nat.mul_le_mul (by omega) (by omega)
  have hz : c + g * y < 18446744073709551616 := by omega
  have ha := and_low (c + g * y) hz
  have hl : (c + g * y) % 4294967296 < 4294967296 := Nat.mod_lt _ (by decide)
  have wx : IntKind.u64.wrap (x : Int) = (x : Int) := by clear ha; rw [wu64]; omega
  obtain ⟨r1, r2, r3⟩ := refsub_ar x ((c + g * y) % 4294967296) b hx hl hb
  refine ⟨?_, ha, by rw [wx]; exact r1, r2, r3, ?_, ?_⟩
  · rw [← Int.natCast_mul]
    clear ha wx r1 r2 r3
    generalize g * y = z at *
    have wz : IntKind.u64.wrap (z : Int) = (z : Int) := by rw [wu64]; omega
    rw [wz, wu64]
    clear wz
    omega
  · clear ha wx r1 r2 r3
    generalize c + g * y = z at *
    omega
  · clear ha wx r1 r2 r3
    generalize g * y = z at *
    omega
theorem val_small {x : List Int} (hw : W x) (m : Nat) (h : ∀ j, m ≤ j → dg x j = 0) : val x < 4294967296 ^ m := by
  have h1 : ∀ d, val (x.take (m + d)) = val (x.take m) := by
    intro d
    induction d with
    | zero => rfl
    | succ d ih => rw [show m + (d + 1) = (m + d) + 1 by omega, (take_dg hw (m + d)).1, h (m + d) (by omega), Nat.mul_zero, Nat.add_zero, ih]
  have h2 := h1 x.length
  rw [List.take_of_length_le (by omega)] at h2
  rw [h2]
  exact take_lt hw m
theorem refless_l1 {v : List Int} (hv : W v) (at_ N P : Nat) (hN : N < 1000000) (hlp : at_ + v.length + 1 ≤ N) : ∀ (d i : Nat), i + d = v.length + 1 → ∀ (x : List Int) (c : Nat), c ≤ 1 → W x → x.length = N → (∀ j, at_ + v.length + 1 ≤ j → dg x j = 0) →
    val x + 4294967296 ^ (at_ + i) * c = P + 4294967296 ^ at_ * val (v.take i) →
    ∃ (x' : List Int) (c' : Nat), c' ≤ 1 ∧ W x' ∧ x'.length = N ∧ (∀ j, at_ + v.length + 1 ≤ j → dg x' j = 0) ∧ val x' + 4294967296 ^ (at_ + v.length + 1) * c' = P + 4294967296 ^ at_ * val v ∧
      Ev (fun k => apostilleref7_less.l1 k x v (at_ : Int) (c : Int) (i : Int)) (false, x') := by
  intro d
  induction d with
  | zero =>
    intro i hi x c hc hw hx hz hv2
    obtain rfl : i = v.length + 1 := by omega
    rw [List.take_of_length_le (by omega)] at hv2
    refine ⟨x, c, hc, hw, hx, hz, hv2, Ev.step (f := fun _ => some (false, x)) (fun k => ?_) (Ev.now _)⟩
    simp only [apostilleref7_less.l1]
    rw [if_neg (by omega)]
  | succ d ih =>
    intro i hi x c hc hw hx hz hv2
    have hx1 := dg_lt hw (at_ + i)
    have hy1 := dg_lt hv i
    have hi4 : at_ + i < x.length := by omega
    have c1 : (i : Int) ≤ (v.length : Int) := by omega
    have c2 : (0 : Int) ≤ ((at_ + i : Nat) : Int) := Int.natCast_nonneg _
    have c3 : ((at_ + i : Nat) : Int) < (x.length : Int) := Int.ofNat_lt.mpr hi4
    have hbi : i < 4611686018427387904 := by omega
    have hi3 : i + 1 + d = v.length + 1 := by omega
    have hcl : ∀ j, at_ + v.length + 1 ≤ j → ¬ at_ + i = j := fun j h => by omega
    have hc2 : (dg x (at_ + i) + dg v i + c) / 4294967296 ≤ 1 := by omega
    have hxl : (dg x (at_ + i) + dg v i + c) % 4294967296 < 4294967296 := Nat.mod_lt _ (by decide)
    have hdm := Nat.div_add_mod (dg x (at_ + i) + dg v i + c) 4294967296
    have hvs := val_dset (l := x) (at_ + i) ((dg x (at_ + i) + dg v i + c) % 4294967296) hi4
    have hst := more_step (4294967296 ^ (at_ + i)) (val x) ((dg x (at_ + i) + dg v i + c) % 4294967296) (dg x (at_ + i)) (dg v i) c ((dg x (at_ + i) + dg v i + c) / 4294967296) P (4294967296 ^ at_ * val (v.take i)) hv2 hdm
    have wat : wrap64 ((at_ : Int) + (i : Int)) = ((at_ + i : Nat) : Int) := wadd at_ i (by omega) (by omega)
    have e1 : IntKind.u64.wrap (IntKind.u64.wrap (IntKind.u64.wrap (dg x (at_ + i) : Int) + (dg v i : Int)) + (c : Int)) = ((dg x (at_ + i) + dg v i + c : Nat) : Int) := by clear wat; rw [wu64, wu64, wu64]; omega
    have e2 : ((dg x (at_ + i) + dg v i + c : Nat) : Int) % 4294967296 = (((dg x (at_ + i) + dg v i + c) % 4294967296 : Nat) : Int) := by clear wat e1; omega
    have e3 : ((dg x (at_ + i) + dg v i + c : Nat) : Int) / 4294967296 = (((dg x (at_ + i) + dg v i + c) / 4294967296 : Nat) : Int) := by clear wat e1 e2; omega
    obtain ⟨x', c', q1, q2, q3, q4, q5, q6⟩ := ih (i + 1) hi3 (x.set (at_ + i) (((dg x (at_ + i) + dg v i + c) % 4294967296 : Nat) : Int)) ((dg x (at_ + i) + dg v i + c) / 4294967296) hc2 (W_set hw _ _ (Int.natCast_nonneg _) (cast_lt _ hxl)) (by rw [List.length_set]; exact hx)
      (fun j hj => by rw [dg_set _ _ _ _ hi4, if_neg (hcl j hj)]; exact hz j hj)
      (by
        have ez : 4294967296 ^ at_ * (val (v.take i) + 4294967296 ^ i * dg v i) = 4294967296 ^ at_ * val (v.take i) + 4294967296 ^ (at_ + i) * dg v i := by rw [Nat.mul_add, ← Nat.mul_assoc, ← Nat.pow_add]
        rw [(take_dg hv i).1, ez, show at_ + (i + 1) = (at_ + i) + 1 by omega, pow_succ']
        clear e1 e2 e3 wat
        rcases hst with h | h
        · generalize 4294967296 ^ (at_ + i) * ((dg x (at_ + i) + dg v i + c) % 4294967296) = A1 at *
          generalize 4294967296 ^ (at_ + i) * dg x (at_ + i) = A2 at *
          omega
        · exfalso
          generalize 4294967296 ^ (at_ + i) * ((dg x (at_ + i) + dg v i + c) % 4294967296) = A1 at *
          generalize 4294967296 ^ (at_ + i) * dg x (at_ + i) = A2 at *
          omega)
    refine ⟨x', c', q1, q2, q3, q4, q5, Ev.step (fun k => ?_) q6⟩
    simp only [apostilleref7_less.l1, wat]
    rw [if_pos c1, if_pos c2, if_pos c3, digitN hv i, wsucc i hbi, rd_dg hw (at_ + i)]
    simp only [Option.bind_some, e1, e2, e3, Int.toNat_natCast]
theorem refless_l0 {v : List Int} (hv : W v) (g : Nat) (hg : g < 4294967296) (at_ N U : Nat) (hN : N < 1000000) (hlp : at_ + v.length + 1 ≤ N) : ∀ (d i : Nat), i + d = v.length + 1 → ∀ (x : List Int) (c b : Nat), b ≤ 1 → c < 4294967296 → W x → x.length = N → (∀ j, at_ + v.length + 1 ≤ j → dg x j = 0) → (v.length < i → c = 0) →
    val x + 4294967296 ^ at_ * (g * val (v.take i)) = U + 4294967296 ^ (at_ + i) * (b + c) →
    ∃ (x' : List Int) (b' : Nat), b' ≤ 1 ∧ W x' ∧ x'.length = N ∧ (∀ j, at_ + v.length + 1 ≤ j → dg x' j = 0) ∧ val x' + 4294967296 ^ at_ * (g * val v) = U + 4294967296 ^ (at_ + v.length + 1) * b' ∧
      (b' = 0 → Ev (fun k => apostilleref7_less.l0 k x v (at_ : Int) (g : Int) (b : Int) (c : Int) (i : Int)) (true, x')) ∧
      (b' = 1 → ∀ r, Ev (fun k => apostilleref7_less.l1 k x' v (at_ : Int) 0 0) r → Ev (fun k => apostilleref7_less.l0 k x v (at_ : Int) (g : Int) (b : Int) (c : Int) (i : Int)) r) := by
  intro d
  induction d with
  | zero =>
    intro i hi x c b hb hc hw hx hz hc0 hv2
    obtain rfl : i = v.length + 1 := by omega
    rw [List.take_of_length_le (by omega), hc0 (by omega), Nat.add_zero] at hv2
    refine ⟨x, b, hb, hw, hx, hz, hv2, fun h => ?_, fun h r hr => ?_⟩
    · subst h
      refine Ev.step (f := fun _ => some (true, x)) (fun k => ?_) (Ev.now _)
      simp only [apostilleref7_less.l0]
      rw [if_neg (by omega)]
      exact if_pos rfl
    · subst h
      refine Ev.step (fun k => ?_) hr
      simp only [apostilleref7_less.l0]
      rw [if_neg (by omega)]
      exact if_neg (by decide)
  | succ d ih =>
    intro i hi x c b hb hc hw hx hz hc0 hv2
    have hx1 := dg_lt hw (at_ + i)
    have hy1 := dg_lt hv i
    have hi4 : at_ + i < x.length := by omega
    have c1 : (i : Int) ≤ (v.length : Int) := by omega
    have c2 : (0 : Int) ≤ ((at_ + i : Nat) : Int) := Int.natCast_nonneg _
    have c3 : ((at_ + i : Nat) : Int) < (x.length : Int) := Int.ofNat_lt.mpr hi4
    have hbi : i < 4611686018427387904 := by omega
    have hi3 : i + 1 + d = v.length + 1 := by omega
    have hcl : ∀ j, at_ + v.length + 1 ≤ j → ¬ at_ + i = j := fun j h => by omega
    have wat : wrap64 ((at_ : Int) + (i : Int)) = ((at_ + i : Nat) : Int) := wadd at_ i (by omega) (by omega)
    obtain ⟨e1, e2, e3, e4, e5, e6, h4⟩ := rls_ar g (dg v i) c (dg x (at_ + i)) b hg hy1 hc hx1 hb
    have htl : (c + g * dg v i) % 4294967296 < 4294967296 := Nat.mod_lt _ (by decide)
    have hb2 : (if dg x (at_ + i) < (c + g * dg v i) % 4294967296 + b then 1 else 0) ≤ 1 := by split <;> decide
    have hsb := sb_ar (dg x (at_ + i)) ((c + g * dg v i) % 4294967296) b hx1 htl hb
    have hxl : (dg x (at_ + i) + 4294967296 - (c + g * dg v i) % 4294967296 - b) % 4294967296 < 4294967296 := Nat.mod_lt _ (by decide)
    have hdm := Nat.div_add_mod (c + g * dg v i) 4294967296
    have hvs := val_dset (l := x) (at_ + i) ((dg x (at_ + i) + 4294967296 - (c + g * dg v i) % 4294967296 - b) % 4294967296) hi4
    have hst := less_step (4294967296 ^ (at_ + i)) (val x) ((dg x (at_ + i) + 4294967296 - (c + g * dg v i) % 4294967296 - b) % 4294967296) (dg x (at_ + i)) ((c + g * dg v i) % 4294967296) b (if dg x (at_ + i) < (c + g * dg v i) % 4294967296 + b then 1 else 0) (4294967296 ^ at_ * (g * val (v.take i))) c (g * dg v i) 0 ((c + g * dg v i) / 4294967296) U hv2 hsb hdm
    obtain ⟨x', b', q1, q2, q3, q4, q5, q6, q7⟩ := ih (i + 1) hi3 (x.set (at_ + i) (((dg x (at_ + i) + 4294967296 - (c + g * dg v i) % 4294967296 - b) % 4294967296 : Nat) : Int)) ((c + g * dg v i) / 4294967296) (if dg x (at_ + i) < (c + g * dg v i) % 4294967296 + b then 1 else 0) hb2 h4 (W_set hw _ _ (Int.natCast_nonneg _) (cast_lt _ hxl)) (by rw [List.length_set]; exact hx)
      (fun j hj => by rw [dg_set _ _ _ _ hi4, if_neg (hcl j hj)]; exact hz j hj)
      (fun h => by rw [dg_over v i (by omega), Nat.mul_zero, Nat.add_zero]; exact Nat.div_eq_of_lt hc)
      (by
        have e9 : 4294967296 ^ at_ * (g * val (v.take (i + 1))) = 4294967296 ^ at_ * (g * val (v.take i)) + 4294967296 ^ (at_ + i) * (g * dg v i) := by
          rw [(take_dg hv i).1, Nat.mul_add, Nat.mul_add, Nat.mul_left_comm g, ← Nat.mul_assoc (4294967296 ^ at_) (4294967296 ^ i), ← Nat.pow_add]
        rw [e9, show at_ + (i + 1) = (at_ + i) + 1 by omega, pow_succ']
        clear e1 e2 e3 e4 e5 e6 wat
        rcases hst with h | h
        · generalize 4294967296 ^ (at_ + i) * ((dg x (at_ + i) + 4294967296 - (c + g * dg v i) % 4294967296 - b) % 4294967296) = A1 at *
          generalize 4294967296 ^ (at_ + i) * dg x (at_ + i) = A2 at *
          generalize 4294967296 ^ (at_ + i) * (g * dg v i) = A3 at *
          omega
        · exfalso
          generalize 4294967296 ^ (at_ + i) * ((dg x (at_ + i) + 4294967296 - (c + g * dg v i) % 4294967296 - b) % 4294967296) = A1 at *
          generalize 4294967296 ^ (at_ + i) * dg x (at_ + i) = A2 at *
          omega)
    have stp : ∀ k, apostilleref7_less.l0 (k + 1) x v (at_ : Int) (g : Int) (b : Int) (c : Int) (i : Int) = apostilleref7_less.l0 k (x.set (at_ + i) (((dg x (at_ + i) + 4294967296 - (c + g * dg v i) % 4294967296 - b) % 4294967296 : Nat) : Int)) v (at_ : Int) (g : Int) (((if dg x (at_ + i) < (c + g * dg v i) % 4294967296 + b then 1 else 0 : Nat)) : Int) (((c + g * dg v i) / 4294967296 : Nat) : Int) ((i + 1 : Nat) : Int) := by
      intro k
      simp only [apostilleref7_less.l0, wat]
      rw [if_pos c1, digitN hv i]
      simp only [Option.bind_some]
      rw [if_pos c2, if_pos c3, wsucc i hbi, rd_dg hw (at_ + i), e1, e2, e3, e4, e5, e6]
      rfl
    exact ⟨x', b', q1, q2, q3, q4, q5, fun h => Ev.step stp (q6 h), fun h r hr => Ev.step stp (q7 h r hr)⟩
end Go.Proofs.Ytgdkbfipjeinjaa.V
namespace Go.Proofs.Ytgdkbfipjeinjaa.V
open Go.RowKit Go.Proofs.Ytgdkbfipjeinjaa.A Go.Proofs.YtgdkbfipjeinjaaW.PrintWords Go.Proofs.YtgdkbfipjeinjaaW.PrintLast
set_option linter.unusedVariables false
set_option linter.unusedSimpArgs false

theorem zero_high {u : List Int} (hu : W u) (m : Nat) (h : val u < 4294967296 ^ m) : ∀ j, m ≤ j → dg u j = 0 := by
  intro j hj
  rw [dg_val hu, Nat.div_eq_of_lt (Nat.lt_of_lt_of_le h (Nat.pow_le_pow_right (by decide) hj)), Nat.zero_mod]
/-- one digit of the quotient: the numbers -/
theorem step_ar (U V z P lo g0 X b M R : Nat) (hU : U = lo + z * P) (hlo : lo < z) (hV : 0 < V) (hM : M = z * R) (hR : V < R) (hX : X < M) (hb : b ≤ 1) (h1 : P / V ≤ g0) (h2 : g0 ≤ P / V + 1) (h : X + z * (g0 * V) = U + M * b) :
    (b = 0 → g0 = P / V ∧ X < V * z ∧ U = X + z * (P / V * V)) ∧
    (b = 1 → g0 = P / V + 1 ∧ ∀ Y c : Nat, c ≤ 1 → Y < M → Y + M * c = X + z * V → Y < V * z ∧ U = Y + z * (P / V * V)) := by
  have hdm := Nat.div_add_mod P V
  have hml := Nat.mod_lt P hV
  rw [Nat.mul_comm] at hdm
  generalize P / V = q at *
  generalize P % V = r at *
  have e1 : z * P = z * (q * V) + z * r := by rw [← hdm, Nat.mul_add]
  have e2 : z * r + z ≤ z * V := by rw [← Nat.mul_succ]; exact Nat.mul_le_mul_left z hml
  have e3 : z * V + z ≤ M := by rw [hM, ← Nat.mul_succ]; exact Nat.mul_le_mul_left z hR
  have e4 : V * z = z * V := Nat.mul_comm _ _
  have hg : g0 = q ∨ g0 = q + 1 := by omega
  have e5 : z * ((q + 1) * V) = z * (q * V) + z * V := by rw [Nat.succ_mul, Nat.mul_add]
  rw [e4]
  refine ⟨fun hb0 => ?_, fun hb1 => ?_⟩
  · subst hb0
    rw [Nat.mul_zero, Nat.add_zero] at h
    rcases hg with hg | hg
    · subst hg
      exact ⟨rfl, by omega, by omega⟩
    · subst hg
      exfalso
      rw [e5] at h
      omega
  · subst hb1
    rw [Nat.mul_one] at h
    rcases hg with hg | hg
    · subst hg
      exfalso
      omega
    · subst hg
      rw [e5] at h
      refine ⟨rfl, fun Y c hc hY hYc => ?_⟩
      rcases Nat.eq_zero_or_pos c with h0 | h0
      · subst h0
        rw [Nat.mul_zero, Nat.add_zero] at hYc
        exfalso
        omega
      · obtain rfl : c = 1 := by omega
        rw [Nat.mul_one] at hYc
        exact ⟨by omega, by omega⟩
theorem refdiv_step {u v : List Int} (hu : W u) (hv : W v) (i : Nat) (hn : 2 ≤ v.length) (hnb : v.length < 1000000) (hul : u.length < 1000000) (hb : i + v.length + 1 ≤ u.length) (htop : 2147483648 ≤ dg v (v.length - 1)) (hlt : val u < val v * 4294967296 ^ (i + 1)) :
    ∃ (u' : List Int) (g g0 : Nat) (ok : Bool), W u' ∧ u'.length = u.length ∧ g < 4294967296 ∧ val u' < val v * 4294967296 ^ i ∧ val u = val u' + 4294967296 ^ i * (g * val v) ∧
      Ev (fun k => apostilleref7_guess.f k u v (i : Int)) (g0 : Int) ∧ g0 < 4294967296 ∧ Ev (fun k => apostilleref7_less.f k u v (i : Int) (g0 : Int)) (ok, u') ∧ (ok = true → g0 = g) ∧ (ok = false → g0 = g + 1) := by
  have hVl := val_lt hv
  have hsm : val u < 4294967296 ^ (i + v.length + 1) := by
    refine Nat.lt_trans hlt ?_
    have e : 4294967296 ^ (i + v.length + 1) = 4294967296 ^ v.length * 4294967296 ^ (i + 1) := by rw [← Nat.pow_add]; congr 1; omega
    rw [e]
    exact Nat.mul_lt_mul_of_pos_right hVl (pow_pos' _)
  have hz0 := zero_high hu _ hsm
  have hc := val_cut u i (by omega)
  have hlo := take_lt hu i
  have hd : val (u.drop i) = val ((u.drop i).take (v.length + 1)) := by
    rw [val_take (W_drop hu i), Nat.mod_eq_of_lt]
    have h1 : 4294967296 ^ i * val (u.drop i) < 4294967296 ^ i * 4294967296 ^ (v.length + 1) := by
      rw [← Nat.pow_add, show i + (v.length + 1) = i + v.length + 1 by omega]
      omega
    exact Nat.lt_of_mul_lt_mul_left h1
  rw [hd] at hc
  have hPlt : val ((u.drop i).take (v.length + 1)) < val v * 4294967296 := by
    have h1 : 4294967296 ^ i * val ((u.drop i).take (v.length + 1)) < 4294967296 ^ i * (val v * 4294967296) := by
      have e : 4294967296 ^ i * (val v * 4294967296) = val v * 4294967296 ^ (i + 1) := by rw [pow_succ', Nat.mul_comm (4294967296 ^ i), Nat.mul_assoc]
      rw [e]
      omega
    exact Nat.lt_of_mul_lt_mul_left h1
  have hVp : 0 < val v := by
    rcases Nat.eq_zero_or_pos (val v) with h | h
    · rw [h] at hPlt; omega
    · exact h
  obtain ⟨g0, g1, g2, g3, g4⟩ := refguessN hu hv i v.length hn rfl hb hnb hul htop hPlt
  obtain ⟨x', b', l1, l2, l3, l4, l5, l6, l7⟩ := refless_l0 hv g0 g3 i u.length (val u) hul hb (v.length + 1) 0 (by omega) u 0 0 (by decide) (by decide) hu rfl hz0 (fun _ => rfl) (by simp [val])
  have hXs := val_small l2 _ l4
  have hVR : val v < 4294967296 ^ (v.length + 1) := Nat.lt_of_lt_of_le hVl (Nat.pow_le_pow_right (by decide) (by omega))
  obtain ⟨s0, s1⟩ := step_ar (val u) (val v) (4294967296 ^ i) (val ((u.drop i).take (v.length + 1))) (val (u.take i)) g0 (val x') b' (4294967296 ^ (i + v.length + 1)) (4294967296 ^ (v.length + 1)) hc hlo hVp (by rw [← Nat.pow_add]; congr 1) hVR hXs l1 g1 g2 l5
  have hqb : val ((u.drop i).take (v.length + 1)) / val v < 4294967296 := by
    rw [Nat.div_lt_iff_lt_mul hVp, Nat.mul_comm]; exact hPlt
  rcases Nat.eq_zero_or_pos b' with hb0 | hb0
  · obtain ⟨t1, t2, t3⟩ := s0 hb0
    exact ⟨x', _, g0, true, l2, l3, hqb, t2, t3, g4, g3, l6 hb0, fun _ => t1, fun h => absurd h (by decide)⟩
  · obtain rfl : b' = 1 := by omega
    obtain ⟨t1, t2⟩ := s1 rfl
    obtain ⟨y', c', m1, m2, m3, m4, m5, m6⟩ := refless_l1 hv i u.length (val x') hul hb (v.length + 1) 0 (by omega) x' 0 (by decide) l2 l3 l4 (by simp [val])
    obtain ⟨t3, t4⟩ := t2 (val y') c' m1 (val_small m2 _ m4) m5
    exact ⟨y', _, g0, false, m2, m3, hqb, t3, t4, g4, g3, l7 rfl _ m6, fun h => absurd h (by decide), fun _ => t1⟩
theorem refdiv_l1 {v : List Int} (hv : W v) (s : Nat) (hs : s < 32) (hn : 2 ≤ v.length) (hnb : v.length < 1000000) (htop : 2147483648 ≤ dg v (v.length - 1)) (N m1 A' : Nat) (hN : N = m1 + v.length) (hNb : N < 1000000) :
    ∀ (p : Nat), p ≤ m1 → ∀ (q u : List Int) (Q : Nat), W q → q.length = m1 → val q = 4294967296 ^ p * Q → W u → u.length = N → val u < val v * 4294967296 ^ p → A' = val u + val v * (4294967296 ^ p * Q) →
    Ev (fun k => apostilleref7_Div.l1 k (s : Int) u v q ((p : Int) - 1)) (nm (A' / val v), nm (A' % val v / 2 ^ s), true) := by
  intro p
  induction p with
  | zero =>
    intro hp q u Q hwq hq hvq hwu hu hlt hA
    rw [Nat.pow_zero, Nat.one_mul] at hvq hA
    rw [Nat.pow_zero, Nat.mul_one] at hlt
    have hVp : 0 < val v := by omega
    have e1 : A' / val v = val q := by rw [hA, hvq, Nat.add_mul_div_left _ _ hVp, Nat.div_eq_of_lt hlt, Nat.zero_add]
    have e2 : A' % val v = val u := by rw [hA, Nat.add_mul_mod_self_left, Nat.mod_eq_of_lt hlt]
    have e3 : val (u.take v.length) = val u := by rw [val_take hwu, Nat.mod_eq_of_lt (Nat.lt_trans hlt (val_lt hv))]
    rw [e1, e2]
    refine Ev.step (f := fun k => (apostilleref7_Trim.f k q).bind fun t => (apostilleref7_back.f k (u.take v.length) (s : Int)).bind fun t2 => some (t, t2, true)) (fun k => ?_) ?_
    · simp only [apostilleref7_Div.l1]
      rw [if_neg (by omega)]
      simp only [if_pos (show (0 : Int) ≤ (v.length : Int) from Int.natCast_nonneg _), if_pos (show (v.length : Int) ≤ (u.length : Int) by omega), Int.toNat_natCast]
    · refine Ev.bind (f := fun k t => (apostilleref7_back.f k (u.take v.length) (s : Int)).bind fun t2 => some (t, t2, true)) (trimf hwq (by omega)) ?_
      have := refbackN (W_take hwu v.length) s hs (by rw [List.length_take]; omega)
      rw [e3] at this
      exact Ev.bind (f := fun k t2 => some (nm (val q), t2, true)) this (Ev.now _)
  | succ i ih =>
    intro hp q u Q hwq hq hvq hwu hu hlt hA
    obtain ⟨u', g, g0, ok, a1, a2, a3, a4, a5, a6, a7, a8, a9, a10⟩ := refdiv_step hwu hv i hn hnb (by omega) (by omega) htop hlt
    have w : ((i + 1 : Nat) : Int) - 1 = (i : Int) := by omega
    have wi : wrap64 ((i : Int) - 1) = (i : Int) - 1 := w64 _ (by omega) (by omega)
    have hi : i < q.length := by omega
    have c1 : (i : Int) ≥ 0 := Int.natCast_nonneg _
    have c2 : (i : Int) < (q.length : Int) := Int.ofNat_lt.mpr hi
    have hq0 : dg q i = 0 := by
      rw [dg_val hwq, hvq, Nat.pow_succ, Nat.mul_assoc, Nat.mul_div_cancel_left _ (pow_pos' i), Nat.mul_mod_right]
    have hvs := val_dset (l := q) i g hi
    rw [hq0, Nat.mul_zero, Nat.add_zero, hvq, pow_succ'] at hvs
    have rest := ih (by omega) (q.set i (g : Int)) u' (4294967296 * Q + g) (W_set hwq _ _ (Int.natCast_nonneg _) (cast_lt _ a3)) (by rw [List.length_set]; exact hq)
      (by rw [hvs, Nat.mul_add, Nat.mul_assoc, Nat.mul_left_comm]) a1 (by rw [a2]; exact hu) a4
      (by
        have x1 : 4294967296 ^ i * (g * val v) = val v * (4294967296 ^ i * g) := by rw [Nat.mul_comm g, Nat.mul_left_comm]
        have x2 : val v * (4294967296 * 4294967296 ^ i * Q) = val v * (4294967296 ^ i * (4294967296 * Q)) := by rw [Nat.mul_comm 4294967296 (4294967296 ^ i), Nat.mul_assoc]
        have x3 : val v * (4294967296 ^ i * (4294967296 * Q + g)) = val v * (4294967296 ^ i * (4294967296 * Q)) + val v * (4294967296 ^ i * g) := by rw [Nat.mul_add, Nat.mul_add]
        rw [hA, a5, pow_succ', x1, x2, x3]
        omega)
    have hg0 : (g0 : Int) % 4294967296 = (g0 : Int) := by omega
    refine Ev.step (f := fun k => (apostilleref7_guess.f k u v (i : Int)).bind fun t => ((apostilleref7_less.f k u v (i : Int) t).bind fun bt => (if bt.1 = true then (apostilleref7_Div.l1 k (s : Int) bt.2 v (q.set i (t % 4294967296)) ((i : Int) - 1)) else (apostilleref7_Div.l1 k (s : Int) bt.2 v (q.set i ((IntKind.u64.wrap (t - 1)) % 4294967296)) ((i : Int) - 1))))) (fun k => ?_) ?_
    · simp only [apostilleref7_Div.l1, w, wi]
      rw [if_pos c1]
      simp only [if_pos c1, if_pos c2, if_pos (show (0 : Int) ≤ (i : Int) from c1), Int.toNat_natCast]
    · refine Ev.bind (f := fun k t => ((apostilleref7_less.f k u v (i : Int) t).bind fun bt => (if bt.1 = true then (apostilleref7_Div.l1 k (s : Int) bt.2 v (q.set i (t % 4294967296)) ((i : Int) - 1)) else (apostilleref7_Div.l1 k (s : Int) bt.2 v (q.set i ((IntKind.u64.wrap (t - 1)) % 4294967296)) ((i : Int) - 1))))) a6 ?_
      refine Ev.bind (f := fun k bt => (if bt.1 = true then (apostilleref7_Div.l1 k (s : Int) bt.2 v (q.set i ((g0 : Int) % 4294967296)) ((i : Int) - 1)) else (apostilleref7_Div.l1 k (s : Int) bt.2 v (q.set i ((IntKind.u64.wrap ((g0 : Int) - 1)) % 4294967296)) ((i : Int) - 1)))) a8 ?_
      cases ok with
      | true =>
        obtain rfl := a9 rfl
        refine Ev.congr (fun k => ?_) rest
        rw [if_pos rfl, hg0]
      | false =>
        have b0 := a10 rfl
        have hw : (IntKind.u64.wrap ((g0 : Int) - 1)) % 4294967296 = (g : Int) := by rw [wu64]; omega
        refine Ev.congr (fun k => ?_) rest
        rw [if_neg (by simp), hw]
theorem shl32 (t n : Nat) (hn : n ≤ 32) (h : t * 2 ^ n < 4294967296) : shl .u32 (t : Int) (n : Int) = ((t * 2 ^ n : Nat) : Int) := by
  unfold shl
  rw [show min (n : Int).toNat IntKind.u32.bits = n by simp [IntKind.bits]; omega]
  have : (t : Int) * 2 ^ n = ((t * 2 ^ n : Nat) : Int) := by simp
  rw [this, wu32]
  clear this
  generalize t * 2 ^ n = z at *
  omega
theorem refdiv_l0 {a b : List Int} (ha : W a) (hb : Canon b) (n s : Nat) (hn : b.length = n + 1) (hn1 : 1 ≤ n) (hs : s < 32) (hla : a.length < 100000) (hlb : b.length < 100000) (hle : b.length ≤ a.length)
    (h1 : 2147483648 ≤ dg b n * 2 ^ s) (h2 : (dg b n + 1) * 2 ^ s ≤ 4294967296) :
    ∀ (d m : Nat), m + d = s → Ev (fun k => apostilleref7_Div.l0 k a b (m : Int)) (nm (val a / val b), nm (val a % val b), true) := by
  have w1 : wrap64 ((b.length : Int) - 1) = (n : Int) := by rw [w64 _ (by omega) (by omega)]; omega
  have e0 : rd b (n : Int) = (dg b n : Int) := rd_dg hb.1 n
  have k1 : (0 : Int) ≤ (n : Int) := Int.natCast_nonneg _
  have k2 : (n : Int) < (b.length : Int) := by clear w1; omega
  have hdg : dg b n * 2 ^ s < 4294967296 := by
    have : 0 < 2 ^ s := Nat.pow_pos (by decide)
    rw [Nat.add_mul] at h2
    clear w1
    omega
  intro d
  induction d with
  | succ d ih =>
    intro m hm
    have hpow : 2 ^ s = 2 ^ (m + 1) * 2 ^ d := by rw [← Nat.pow_add]; congr 1; omega
    have hlt : dg b n * 2 ^ m < 2147483648 := by
      have e1 : dg b n * 2 ^ m * 2 ≤ dg b n * 2 ^ s := by
        rw [hpow, Nat.pow_succ, Nat.mul_assoc (2 ^ m), ← Nat.mul_assoc (dg b n)]
        refine Nat.mul_le_mul_left _ ?_
        have : 0 < 2 ^ d := Nat.pow_pos (by decide)
        clear w1
        omega
      clear w1
      omega
    have hsh := shl32 (dg b n) m (by clear w1; omega) (by clear w1; omega)
    refine Ev.step (fun k => ?_) (ih (m + 1) (by clear w1; omega))
    simp only [apostilleref7_Div.l0, w1]
    rw [if_pos k1, if_pos k2, if_pos (Int.natCast_nonneg m), e0, hsh, if_pos (by clear w1 hsh; omega)]
    congr 1
    rw [wu64]
    clear w1 hsh
    omega
  | zero =>
    intro m hm
    obtain rfl : m = s := by omega
    have hsh := shl32 (dg b n) m (by clear w1; omega) hdg
    obtain ⟨ua, ua1, ua2, ua3, ua4⟩ := refshiftedN ha m hs (by clear w1 hsh; omega)
    obtain ⟨ub, ub1, ub2, ub3, ub4⟩ := refshiftedN hb.1 m hs (by clear w1 hsh; omega)
    have hpl := trimf ub1 (by clear w1 hsh; omega)
    rw [ub3] at hpl
    obtain ⟨len, htop, hbig⟩ := norm_num hb n m hn h1 h2
    have w2 : wrap64 (wrap64 ((a.length : Int) - (b.length : Int)) + 1) = ((a.length - n : Nat) : Int) := by
      clear w1 hsh
      rw [w64 ((a.length : Int) - (b.length : Int)) (by omega) (by omega), w64 _ (by omega) (by omega)]; omega
    have w3 : wrap64 ((a.length : Int) - (b.length : Int)) = ((a.length - n : Nat) : Int) - 1 := by
      clear w1 hsh w2
      rw [w64 ((a.length : Int) - (b.length : Int)) (by omega) (by omega)]; omega
    refine Ev.step (f := fun k => (apostilleref7_shifted.f k a (m : Int)).bind fun t340 => ((apostilleref7_shifted.f k b (m : Int)).bind fun t343 => ((apostilleref7_Trim.f k t343).bind fun t346 => apostilleref7_Div.l1 k (m : Int) t340 t346 (List.replicate (a.length - n) 0) (((a.length - n : Nat) : Int) - 1)))) (fun k => ?_) ?_
    · simp only [apostilleref7_Div.l0, w1]
      rw [if_pos k1, if_pos k2, if_pos (Int.natCast_nonneg m), e0, hsh, if_neg (by clear w1 hsh w2 w3; omega), w2, w3]
      simp only [if_pos (Int.natCast_nonneg (a.length - n)), Int.toNat_natCast]
      simp only [if_pos (show a.length - n ≤ 70368744177664 by clear w1 hsh w2 w3; omega)]
    · refine Ev.bind (f := fun k t340 => _) ua4 ?_
      refine Ev.bind (f := fun k t343 => _) ub4 ?_
      refine Ev.bind (f := fun k t346 => _) hpl ?_
      have hult : val ua < val (nm (val b * 2 ^ m)) * 4294967296 ^ (a.length - n) := by
        rw [ua3, val_nm]
        have e1 := val_lt ha
        have e2 : 2 ^ m ≤ 2147483648 := (pow2_lt m hs).1
        have e3 : val a * 2 ^ m < 4294967296 ^ a.length * 2147483648 := Nat.lt_of_le_of_lt (Nat.mul_le_mul_left _ e2) (Nat.mul_lt_mul_of_pos_right e1 (by decide))
        have e4 := Nat.mul_le_mul_right (4294967296 ^ (a.length - n)) hbig
        have e5 : 2147483648 * 4294967296 ^ n * 4294967296 ^ (a.length - n) = 4294967296 ^ a.length * 2147483648 := by
          rw [Nat.mul_assoc, ← Nat.pow_add, show n + (a.length - n) = a.length by clear w1 w2 w3 hsh; omega, Nat.mul_comm]
        rw [e5] at e4
        exact Nat.lt_of_lt_of_le e3 e4
      clear w1 w2 w3 hsh
      have := refdiv_l1 (nm_W (val b * 2 ^ m)) m hs (by rw [len]; omega) (by rw [len]; omega) (by rw [len]; exact htop) (a.length + 1) (a.length - n) (val a * 2 ^ m) (by rw [len]; omega) (by omega)
        (a.length - n) (Nat.le_refl _) (List.replicate (a.length - n) 0) ua 0 (W_replicate _) (by simp) (by rw [val_replicate, Nat.mul_zero]) ua1 ua2 hult (by rw [ua3, Nat.mul_zero, Nat.mul_zero, Nat.add_zero])
      rw [val_nm, Nat.mul_div_mul_right _ _ (Nat.pow_pos (by decide)), Nat.mul_mod_mul_right, Nat.mul_div_cancel _ (Nat.pow_pos (by decide))] at this
      exact this
theorem refdivN {a b : List Int} (ha : Canon a) (hb : Canon b) (hla : a.length < 100000) (hlb : b.length < 100000) (h0 : 0 < b.length) : Ev (fun k => apostilleref7_Div.f k a b) (nm (val a / val b), nm (val a % val b), true) := by
  unfold apostilleref7_Div.f
  refine Ev.congr (fun k => if_neg (by omega)) ?_
  obtain ⟨n, hn⟩ : ∃ n, b.length = n + 1 := ⟨b.length - 1, by omega⟩
  have htd : 0 < dg b n := by
    have := hb.2 h0
    rw [hn, show (((n + 1 : Nat) : Int) - 1) = (n : Int) by omega, rd_dg hb.1] at this
    omega
  have htl := dg_lt hb.1 n
  rcases Nat.eq_zero_or_pos n with hz | hz
  · subst hz
    have hvb : val b = dg b 0 := by
      have := take_dg hb.1 0
      rw [List.take_of_length_le (by omega)] at this
      rw [this.1]; simp [val]
    refine Ev.congr (fun k => if_pos (by omega)) ?_
    refine Ev.congr (fun k => if_pos (by omega)) ?_
    have := refshortN ha.1 (dg b 0) htd htl (by omega)
    have e : rd b 0 = (dg b 0 : Int) := rd_dg hb.1 0
    have e2 : IntKind.u64.wrap ((dg b 0 : Nat) : Int) = (dg b 0 : Int) := by rw [wu64]; omega
    rw [e, e2, hvb]
    exact Ev.bind (f := fun k bt => some (bt.1, bt.2.1, bt.2.2)) this (Ev.now _)
  · refine Ev.congr (fun k => if_neg (by omega)) ?_
    refine Ev.bind (f := fun k t => _) (refcmp ha hb (by omega)) ?_
    by_cases hlt : val a < val b
    · have hc : cmpv (val a) (val b) < 0 := by unfold cmpv; rw [if_neg (by omega), if_pos hlt]; decide
      rw [Nat.div_eq_of_lt hlt, Nat.mod_eq_of_lt hlt, nm_zero, ← canon_eq ha]
      refine Ev.congr (f := fun _ => some ([], a, true)) (fun k => ?_) (Ev.now _)
      rw [if_pos hc]
      simp only [Option.bind_some]
      rw [if_pos (by simp; omega)]
      rfl
    · have hc : ¬ cmpv (val a) (val b) < 0 := by unfold cmpv; rw [if_neg hlt]; split <;> decide
      refine Ev.congr (fun k => if_neg hc) ?_
      have hll := canon_len_le ha hb (by omega)
      obtain ⟨s, hs, _, q1, q2⟩ := lead (dg b n) htd htl
      exact refdiv_l0 ha.1 hb n s hn hz hs hla hlb hll q1 q2 s 0 (by omega)
theorem refdiv_none {a b : List Int} (h0 : b.length = 0) : Ev (fun k => apostilleref7_Div.f k a b) ([], [], false) := by
  unfold apostilleref7_Div.f
  exact Ev.congr (f := fun _ => some ([], [], false)) (fun k => by rw [if_pos (by omega)]) (Ev.now _)
end Go.Proofs.Ytgdkbfipjeinjaa.V
