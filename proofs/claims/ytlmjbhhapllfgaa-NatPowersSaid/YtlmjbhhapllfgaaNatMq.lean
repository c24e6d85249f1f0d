/- Products of numbers: what the printed functions compute, told by values. -/
import Derived.Test.YtlmjbhhapllfgaaAx1
import Derived.Test.YtlmjbhhapllfgaaAx4
import Derived.Test.YtlmjbhhapllfgaaAx12
import Derived.Test.YtlmjbhhapllfgaaAx14
import Derived.Test.YtlmjbhhapllfgaaNatOp
namespace Go.Proofs.Ytlmjbhhapllfgaa.V
open Go.RowKit Go.Proofs.Ytlmjbhhapllfgaa.A Go.Proofs.YtlmjbhhapllfgaaW.PrintWords Go.Proofs.YtlmjbhhapllfgaaW.PrintLast
set_option linter.unusedVariables false
set_option linter.unusedSimpArgs false

theorem mul_ar (x y o c : Nat) (hx : x < 4294967296) (hy : y < 4294967296) (ho : o < 4294967296) (hc : c < 4294967296) :
    x * y + o + c < 18446744073709551616 ∧
    IntKind.u64.wrap (IntKind.u64.wrap (IntKind.u64.wrap (IntKind.u64.wrap (x : Int) * IntKind.u64.wrap (y : Int)) + IntKind.u64.wrap (o : Int)) + (c : Int)) = ((x * y + o + c : Nat) : Int) ∧
    IntKind.u64.wrap (IntKind.u64.wrap (IntKind.u64.wrap (o : Int) + IntKind.u64.wrap (IntKind.u64.wrap (x : Int) * IntKind.u64.wrap (y : Int))) + (c : Int)) = ((x * y + o + c : Nat) : Int) ∧
    ((x * y + o + c : Nat) : Int) % 4294967296 = (((x * y + o + c) % 4294967296 : Nat) : Int) ∧ ((x * y + o + c : Nat) : Int) / 4294967296 = (((x * y + o + c) / 4294967296 : Nat) : Int) ∧ (x * y + o + c) / 4294967296 < 4294967296 := by
  have h1 : x * y ≤ 4294967295 * 4294967295 := Nat.mul_le_mul (by omega) (by omega)
  have wx : IntKind.u64.wrap (x : Int) = (x : Int) := by rw [wu64]; omega
  have wy : IntKind.u64.wrap (y : Int) = (y : Int) := by rw [wu64]; omega
  have wo : IntKind.u64.wrap (o : Int) = (o : Int) := by rw [wu64]; omega
  rw [wx, wy, wo, ← Int.natCast_mul]
  clear wx wy wo
  generalize x * y = p at *
  refine ⟨by omega, ?_, ?_, by omega, by omega, by omega⟩
  · rw [wu64, wu64, wu64]; omega
  · rw [wu64, wu64, wu64]; omega
theorem mul_val (B z u v o s c x y : Nat) (h : u + z * o = v + z * (s % B)) (hs : s = x * y + o + c) (hB : 0 < B) : u + (B * z) * (s / B) = v + z * c + z * (x * y) := by
  have e := Nat.div_add_mod s B
  have e2 : z * (B * (s / B) + s % B) = z * (x * y + o + c) := by rw [e, hs]
  rw [Nat.mul_add, Nat.mul_add, Nat.mul_add] at e2
  have e3 : B * z * (s / B) = z * (B * (s / B)) := by rw [Nat.mul_comm B z, Nat.mul_assoc]
  rw [e3]
  generalize z * (B * (s / B)) = A at *
  generalize z * (s % B) = D at *
  generalize z * (x * y) = E at *
  omega
/-- one row of a product: digit i of the first number, from digit k of the second on -/
theorem mul_l1 {a b : List Int} (ha : W a) (hb : W b) (hla : a.length < 17592186044416) (hlb : b.length < 17592186044416) (i : Nat) (hi : i < a.length) (r : List Int) (v0 : Nat) :
    ∀ (d k : Nat), k + d = b.length → ∀ (x : List Int) (c : Nat), c < 4294967296 → W x → x.length = a.length + b.length → (∀ j, i + b.length ≤ j → dg x j = 0) → val x + 4294967296 ^ (i + k) * c = v0 + 4294967296 ^ i * (dg a i * val (b.take k)) →
    (∀ x' : List Int, W x' → x'.length = a.length + b.length → (∀ j, i + 1 + b.length ≤ j → dg x' j = 0) → val x' = v0 + 4294967296 ^ i * (dg a i * val b) → Ev (fun n => nat_Mul.l0 n b x' a (a.length : Int) ((i + 1 : Nat) : Int)) r) →
    Ev (fun n => nat_Mul.l1 n b x (i : Int) (dg a i : Int) (c : Int) a (a.length : Int) (i : Int) b (b.length : Int) (k : Int)) r := by
  intro d
  induction d with
  | zero =>
    intro k hk x c hc hw hx hz hv H
    obtain rfl : k = b.length := by omega
    rw [List.take_of_length_le (Nat.le_refl _)] at hv
    have h1 : i + b.length < x.length := by omega
    have h2 : (0 : Int) ≤ ((i + b.length : Nat) : Int) := by omega
    have h3 : ((i + b.length : Nat) : Int) < (x.length : Int) := by omega
    have h4 : (c : Int) % 4294967296 = (c : Int) := by omega
    have h5 := val_dset (l := x) (i + b.length) c h1
    rw [hz _ (Nat.le_refl _), Nat.mul_zero, Nat.add_zero, hv] at h5
    have h7 : i < 4611686018427387904 := by omega
    refine Ev.step (fun n => ?_) (H (x.set (i + b.length) (c : Int)) (W_set hw _ _ (by omega) (by omega)) (by rw [List.length_set]; exact hx) (fun j hj => ?_) h5)
    · simp only [nat_Mul.l1]
      rw [if_neg (by omega), wadd i b.length (by omega) (by omega), if_pos h2, if_pos h3, h4, wsucc i h7]
      rfl
    · rw [dg_set _ _ _ _ h1, if_neg (by omega), hz j (by omega)]
  | succ d ih =>
    intro k hk x c hc hw hx hz hv H
    have hx1 := dg_lt ha i
    have hy1 := dg_lt hb k
    have ho1 := dg_lt hw (i + k)
    have hk3 : k + 1 + d = b.length := by omega
    have c1 : (k : Int) < (b.length : Int) := by omega
    have c2 : (0 : Int) ≤ (k : Int) := by omega
    have c3 : (0 : Int) ≤ ((i + k : Nat) : Int) := by omega
    have c4 : ((i + k : Nat) : Int) < (x.length : Int) := by omega
    have c5 : i + k < x.length := by omega
    have c6 : (0 : Int) ≤ (i : Int) := by omega
    have c7 : (i : Int) < (a.length : Int) := by omega
    have hbk : k < 4611686018427387904 := by omega
    have hw1 : i < 2305843009213693952 := by omega
    have hw2 : k < 2305843009213693952 := by omega
    obtain ⟨_, e1, e1', e2, e3, hs⟩ := mul_ar (dg a i) (dg b k) (dg x (i + k)) c hx1 hy1 ho1 hc
    have h6 := val_dset (l := x) (i + k) ((dg a i * dg b k + dg x (i + k) + c) % 4294967296) c5
    have h7 := mul_val 4294967296 _ _ _ _ _ _ _ _ h6 rfl (by omega)
    refine Ev.step (fun n => ?_) (ih (k + 1) hk3 (x.set (i + k) (((dg a i * dg b k + dg x (i + k) + c) % 4294967296 : Nat) : Int)) ((dg a i * dg b k + dg x (i + k) + c) / 4294967296) hs (W_set hw _ _ (Int.natCast_nonneg _) (by have := Nat.mod_lt (dg a i * dg b k + dg x (i + k) + c) (show 0 < 4294967296 by omega); generalize (dg a i * dg b k + dg x (i + k) + c) % 4294967296 = z at *; clear e1 e1' e2 e3; omega)) (by rw [List.length_set]; exact hx) (fun j hj => ?_) ?_ H)
    · simp only [nat_Mul.l1]
      rw [if_pos c1, wadd i k hw1 hw2]
      simp only [if_pos c2, if_pos c1, if_pos c3, if_pos c4, if_pos c6, if_pos c7, wsucc k hbk, rd_dg ha, rd_dg hb, rd_dg hw, e1, e1', e2, e3]
      rfl
    · rw [dg_set _ _ _ _ c5, if_neg (by clear e1 e1' e2 e3; omega), hz j hj]
    · rw [show i + (k + 1) = (i + k) + 1 by omega, pow_succ', h7, hv, (take_dg hb k).1, Nat.mul_add, Nat.mul_add, Nat.add_assoc, Nat.pow_add]
      congr 2
      generalize 4294967296 ^ i = p
      generalize 4294967296 ^ k = q
      rw [Nat.mul_assoc, ← Nat.mul_assoc q, Nat.mul_comm q (dg a i), Nat.mul_assoc (dg a i)]
theorem mul_l0 {a b : List Int} (ha : W a) (hb : W b) (hla : a.length < 17592186044416) (hlb : b.length < 17592186044416) :
    ∀ (d i : Nat), i + d = a.length → ∀ x : List Int, W x → x.length = a.length + b.length → (∀ j, i + b.length ≤ j → dg x j = 0) → val x = val (a.take i) * val b →
    Ev (fun n => nat_Mul.l0 n b x a (a.length : Int) (i : Int)) (nm (val a * val b)) := by
  intro d
  induction d with
  | zero =>
    intro i hi x hw hx _ hv
    obtain rfl : i = a.length := by omega
    rw [List.take_of_length_le (Nat.le_refl _)] at hv
    refine Ev.step (f := fun k => (nat_plain.f k x).bind fun t => some t) (fun k => ?_) ?_
    · simp only [nat_Mul.l0]
      rw [if_neg (by omega)]
    · rw [← hv]
      exact Ev.bind (f := fun _ t => some t) (plainf hw (by omega)) (Ev.now _)
  | succ d ih =>
    intro i hi x hw hx hz hv
    have hi2 : i < a.length := by omega
    have c1 : (i : Int) < (a.length : Int) := by omega
    have c2 : (0 : Int) ≤ (i : Int) := by omega
    have := mul_l1 ha hb hla hlb i hi2 (nm (val a * val b)) (val (a.take i) * val b) b.length 0 (by omega) x 0 (by omega) hw hx hz (by simp [val, hv])
      (fun x' hw' hx' hz' hv' => ih (i + 1) (by omega) x' hw' hx' hz' (by rw [hv', (take_dg ha i).1, Nat.add_mul, Nat.mul_assoc]))
    refine Ev.step (fun n => ?_) this
    simp only [nat_Mul.l0]
    rw [if_pos c1]
    simp only [if_pos c1, if_pos c2, rd_dg ha, Int.natCast_zero]
theorem mulN {a b : List Int} (ha : W a) (hb : W b) (hla : a.length < 17592186044416) (hlb : b.length < 17592186044416) : Ev (fun k => nat_Mul.f k a b) (nm (val a * val b)) := by
  have := mul_l0 ha hb hla hlb a.length 0 (by omega) (List.replicate (a.length + b.length) 0) (W_replicate _) (by simp) (fun j _ => dg_replicate _ j) (by rw [val_replicate]; simp [val])
  refine Ev.congr (fun k => ?_) this
  unfold nat_Mul.f
  rw [wadd a.length b.length (by omega) (by omega), if_pos (by omega), if_pos (by omega)]
  rfl
/-- one row of a product: digit i of the first number, from digit k of the second on -/
theorem refmul_l1 {a b : List Int} (ha : W a) (hb : W b) (hla : a.length < 17592186044416) (hlb : b.length < 17592186044416) (i : Nat) (hi : i < a.length) (r : List Int) (v0 : Nat) :
    ∀ (d k : Nat), k + d = b.length → ∀ (x : List Int) (c : Nat), c < 4294967296 → W x → x.length = a.length + b.length → (∀ j, i + b.length ≤ j → dg x j = 0) → val x + 4294967296 ^ (i + k) * c = v0 + 4294967296 ^ i * (dg a i * val (b.take k)) →
    (∀ x' : List Int, W x' → x'.length = a.length + b.length → (∀ j, i + 1 + b.length ≤ j → dg x' j = 0) → val x' = v0 + 4294967296 ^ i * (dg a i * val b) → Ev (fun n => apostilleref7_Mul.l0 n a b x' ((i + 1 : Nat) : Int)) r) →
    Ev (fun n => apostilleref7_Mul.l1 n a b x (i : Int) (c : Int) (k : Int)) r := by
  intro d
  induction d with
  | zero =>
    intro k hk x c hc hw hx hz hv H
    obtain rfl : k = b.length := by omega
    rw [List.take_of_length_le (Nat.le_refl _)] at hv
    have h1 : i + b.length < x.length := by omega
    have h2 : (0 : Int) ≤ ((i + b.length : Nat) : Int) := by omega
    have h3 : ((i + b.length : Nat) : Int) < (x.length : Int) := by omega
    have h4 : (c : Int) % 4294967296 = (c : Int) := by omega
    have h5 := val_dset (l := x) (i + b.length) c h1
    rw [hz _ (Nat.le_refl _), Nat.mul_zero, Nat.add_zero, hv] at h5
    have h7 : i < 4611686018427387904 := by omega
    refine Ev.step (fun n => ?_) (H (x.set (i + b.length) (c : Int)) (W_set hw _ _ (by omega) (by omega)) (by rw [List.length_set]; exact hx) (fun j hj => ?_) h5)
    · simp only [apostilleref7_Mul.l1]
      rw [if_neg (by omega), wadd i b.length (by omega) (by omega), if_pos h2, if_pos h3, h4, wsucc i h7]
      rfl
    · rw [dg_set _ _ _ _ h1, if_neg (by omega), hz j (by omega)]
  | succ d ih =>
    intro k hk x c hc hw hx hz hv H
    have hx1 := dg_lt ha i
    have hy1 := dg_lt hb k
    have ho1 := dg_lt hw (i + k)
    have hk3 : k + 1 + d = b.length := by omega
    have c1 : (k : Int) < (b.length : Int) := by omega
    have c2 : (0 : Int) ≤ (k : Int) := by omega
    have c3 : (0 : Int) ≤ ((i + k : Nat) : Int) := by omega
    have c4 : ((i + k : Nat) : Int) < (x.length : Int) := by omega
    have c5 : i + k < x.length := by omega
    have c6 : (0 : Int) ≤ (i : Int) := by omega
    have c7 : (i : Int) < (a.length : Int) := by omega
    have hbk : k < 4611686018427387904 := by omega
    have hw1 : i < 2305843009213693952 := by omega
    have hw2 : k < 2305843009213693952 := by omega
    obtain ⟨_, e1, e1', e2, e3, hs⟩ := mul_ar (dg a i) (dg b k) (dg x (i + k)) c hx1 hy1 ho1 hc
    have h6 := val_dset (l := x) (i + k) ((dg a i * dg b k + dg x (i + k) + c) % 4294967296) c5
    have h7 := mul_val 4294967296 _ _ _ _ _ _ _ _ h6 rfl (by omega)
    refine Ev.step (fun n => ?_) (ih (k + 1) hk3 (x.set (i + k) (((dg a i * dg b k + dg x (i + k) + c) % 4294967296 : Nat) : Int)) ((dg a i * dg b k + dg x (i + k) + c) / 4294967296) hs (W_set hw _ _ (Int.natCast_nonneg _) (by have := Nat.mod_lt (dg a i * dg b k + dg x (i + k) + c) (show 0 < 4294967296 by omega); generalize (dg a i * dg b k + dg x (i + k) + c) % 4294967296 = z at *; clear e1 e1' e2 e3; omega)) (by rw [List.length_set]; exact hx) (fun j hj => ?_) ?_ H)
    · simp only [apostilleref7_Mul.l1]
      rw [if_pos c1, wadd i k hw1 hw2]
      simp only [if_pos c2, if_pos c1, if_pos c3, if_pos c4, if_pos c6, if_pos c7, wsucc k hbk, rd_dg ha, rd_dg hb, rd_dg hw, e1, e1', e2, e3]
      rfl
    · rw [dg_set _ _ _ _ c5, if_neg (by clear e1 e1' e2 e3; omega), hz j hj]
    · rw [show i + (k + 1) = (i + k) + 1 by omega, pow_succ', h7, hv, (take_dg hb k).1, Nat.mul_add, Nat.mul_add, Nat.add_assoc, Nat.pow_add]
      congr 2
      generalize 4294967296 ^ i = p
      generalize 4294967296 ^ k = q
      rw [Nat.mul_assoc, ← Nat.mul_assoc q, Nat.mul_comm q (dg a i), Nat.mul_assoc (dg a i)]
theorem refmul_l0 {a b : List Int} (ha : W a) (hb : W b) (hla : a.length < 17592186044416) (hlb : b.length < 17592186044416) :
    ∀ (d i : Nat), i + d = a.length → ∀ x : List Int, W x → x.length = a.length + b.length → (∀ j, i + b.length ≤ j → dg x j = 0) → val x = val (a.take i) * val b →
    Ev (fun n => apostilleref7_Mul.l0 n a b x (i : Int)) (nm (val a * val b)) := by
  intro d
  induction d with
  | zero =>
    intro i hi x hw hx _ hv
    obtain rfl : i = a.length := by omega
    rw [List.take_of_length_le (Nat.le_refl _)] at hv
    refine Ev.step (f := fun k => (apostilleref7_Trim.f k x).bind fun t => some t) (fun k => ?_) ?_
    · simp only [apostilleref7_Mul.l0]
      rw [if_neg (by omega)]
    · rw [← hv]
      exact Ev.bind (f := fun _ t => some t) (trimf hw (by omega)) (Ev.now _)
  | succ d ih =>
    intro i hi x hw hx hz hv
    have hi2 : i < a.length := by omega
    have c1 : (i : Int) < (a.length : Int) := by omega
    have c2 : (0 : Int) ≤ (i : Int) := by omega
    have := refmul_l1 ha hb hla hlb i hi2 (nm (val a * val b)) (val (a.take i) * val b) b.length 0 (by omega) x 0 (by omega) hw hx hz (by simp [val, hv])
      (fun x' hw' hx' hz' hv' => ih (i + 1) (by omega) x' hw' hx' hz' (by rw [hv', (take_dg ha i).1, Nat.add_mul, Nat.mul_assoc]))
    refine Ev.step (fun n => ?_) this
    simp only [apostilleref7_Mul.l0]
    rw [if_pos c1]
    simp only [if_pos c1, if_pos c2, rd_dg ha, Int.natCast_zero]
theorem refmulN {a b : List Int} (ha : W a) (hb : W b) (hla : a.length < 17592186044416) (hlb : b.length < 17592186044416) : Ev (fun k => apostilleref7_Mul.f k a b) (nm (val a * val b)) := by
  have := refmul_l0 ha hb hla hlb a.length 0 (by omega) (List.replicate (a.length + b.length) 0) (W_replicate _) (by simp) (fun j _ => dg_replicate _ j) (by rw [val_replicate]; simp [val])
  refine Ev.congr (fun k => ?_) this
  unfold apostilleref7_Mul.f
  rw [wadd a.length b.length (by omega) (by omega), if_pos (by omega), if_pos (by omega)]
  rfl
end Go.Proofs.Ytlmjbhhapllfgaa.V
