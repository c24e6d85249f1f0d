/- The division of numbers: what is taken away, what is put back, and the whole. -/
import Derived.Test.YtlmjbhhapllfgaaAx6
import Derived.Test.YtlmjbhhapllfgaaAx7
import Derived.Test.YtlmjbhhapllfgaaNatDw
import Derived.Test.YtlmjbhhapllfgaaNatIs
namespace Go.Proofs.Ytlmjbhhapllfgaa.V
open Go.RowKit Go.Proofs.Ytlmjbhhapllfgaa.A Go.Proofs.YtlmjbhhapllfgaaW.PrintWords Go.Proofs.YtlmjbhhapllfgaaW.PrintLast
set_option linter.unusedVariables false
set_option linter.unusedSimpArgs false

theorem ls_ar (g y c : Nat) (hg : g < 4294967296) (hy : y < 4294967296) (hc : c < 4294967296) :
    IntKind.u64.wrap ((c : Int) + IntKind.u64.wrap ((g : Int) * IntKind.u64.wrap (y : Int))) = ((c + g * y : Nat) : Int) ∧
    ((c + g * y : Nat) : Int) % 4294967296 = (((c + g * y) % 4294967296 : Nat) : Int) ∧ ((c + g * y : Nat) : Int) / 4294967296 = (((c + g * y) / 4294967296 : Nat) : Int) ∧ (c + g * y) / 4294967296 < 4294967296 := by
  have hm : g * y ≤ 4294967295 * 4294967295 := Nat.mul_le_mul (by omega) (by omega)
  have wy : IntKind.u64.wrap (y : Int) = (y : Int) := by rw [wu64]; omega
  rw [wy, ← Int.natCast_mul]
  clear wy
  generalize g * y = z at *
  have wz : IntKind.u64.wrap (z : Int) = (z : Int) := by rw [wu64]; omega
  rw [wz, wu64]
  clear wz
  refine ⟨by omega, by omega, by omega, by omega⟩
theorem less_step (z X x' xi T b b' G c gv t q : Nat) (P : Nat) (h1 : X + G = P + z * (b + c)) (h2 : x' + T + b = xi + 4294967296 * b') (h3 : 4294967296 * q + T = c + gv) :
    (X + z * x' - z * xi) + (G + z * gv) + 0 = P + 4294967296 * z * (b' + q) ∨ X + z * x' < z * xi := by
  rcases Nat.lt_or_ge (X + z * x') (z * xi) with h | h
  · exact Or.inr h
  · left
    have e2 : z * (x' + T + b) = z * (xi + 4294967296 * b') := by rw [h2]
    have e3 : z * (4294967296 * q + T) = z * (c + gv) := by rw [h3]
    rw [Nat.mul_add, Nat.mul_add, Nat.mul_add] at e2
    rw [Nat.mul_add, Nat.mul_add] at e3
    rw [Nat.mul_add] at h1
    rw [Nat.mul_add (4294967296 * z)]
    have e4 : 4294967296 * z * b' = z * (4294967296 * b') := by rw [Nat.mul_comm 4294967296 z, Nat.mul_assoc]
    have e5 : 4294967296 * z * q = z * (4294967296 * q) := by rw [Nat.mul_comm 4294967296 z, Nat.mul_assoc]
    rw [e4, e5]
    omega
theorem sb_ar (x t b : Nat) (hx : x < 4294967296) (ht : t < 4294967296) (hb : b ≤ 1) : (x + 4294967296 - t - b) % 4294967296 + t + b = x + 4294967296 * (if x < t + b then 1 else 0) := by
  by_cases h : x < t + b
  · rw [if_pos h]; omega
  · rw [if_neg h]; omega
theorem less_l0 {p v : List Int} (hp : W p) (hv : W v) (g : Nat) (hg : g < 4294967296) (hl : p.length < 17592186044416) (hvl : v.length < p.length) : ∀ (d i : Nat), i + d = p.length → ∀ (x : List Int) (c b : Nat), b ≤ 1 → c < 4294967296 → W x → x.length = p.length → (∀ j, i ≤ j → dg x j = dg p j) → (v.length < i → c = 0) →
    val x + g * val (v.take i) = val p + 4294967296 ^ i * (b + c) →
    ∃ (x' : List Int) (b' : Nat), b' ≤ 1 ∧ W x' ∧ x'.length = p.length ∧ val x' + g * val v = val p + 4294967296 ^ p.length * b' ∧ Ev (fun k => nat_less.l0 k x v (g : Int) (c : Int) (b : Int) (p.length : Int) (i : Int)) (decide ((b' : Int) > 0), x') := by
  intro d
  induction d with
  | zero =>
    intro i hi x c b hb hc hw hx hz hc0 hv2
    obtain rfl : i = p.length := by omega
    rw [List.take_of_length_le (by omega), hc0 hvl, Nat.add_zero] at hv2
    refine ⟨x, b, hb, hw, hx, hv2, Ev.step (f := fun _ => some (decide ((b : Int) > 0), x)) (fun k => ?_) (Ev.now _)⟩
    simp only [nat_less.l0]
    rw [if_neg (by omega)]
  | succ d ih =>
    intro i hi x c b hb hc hw hx hz hc0 hv2
    have hx1 := dg_lt hw i
    have hy1 := dg_lt hv i
    have hi4 : i < x.length := by omega
    have c1 : (i : Int) < (p.length : Int) := by omega
    have c2 : (0 : Int) ≤ (i : Int) := by omega
    have c3 : (i : Int) < (x.length : Int) := by omega
    have hbi : i < 4611686018427387904 := by omega
    have hi3 : i + 1 + d = p.length := by omega
    have hcl : ∀ j, i + 1 ≤ j → i ≠ j ∧ i ≤ j := fun j h => by omega
    obtain ⟨e1, e2, e3, h4⟩ := ls_ar g (dg v i) c hg hy1 hc
    have htl : (c + g * dg v i) % 4294967296 < 4294967296 := Nat.mod_lt _ (by decide)
    have hb2 : (if dg x i < (c + g * dg v i) % 4294967296 + b then 1 else 0) ≤ 1 := by split <;> decide
    have hsb := sb_ar (dg x i) ((c + g * dg v i) % 4294967296) b hx1 htl hb
    have hxl : (dg x i + 4294967296 - (c + g * dg v i) % 4294967296 - b) % 4294967296 < 4294967296 := Nat.mod_lt _ (by decide)
    have hdm := Nat.div_add_mod (c + g * dg v i) 4294967296
    have hvs := val_dset (l := x) i ((dg x i + 4294967296 - (c + g * dg v i) % 4294967296 - b) % 4294967296) hi4
    have hst := less_step (4294967296 ^ i) (val x) ((dg x i + 4294967296 - (c + g * dg v i) % 4294967296 - b) % 4294967296) (dg x i) ((c + g * dg v i) % 4294967296) b (if dg x i < (c + g * dg v i) % 4294967296 + b then 1 else 0) (g * val (v.take i)) c (g * dg v i) 0 ((c + g * dg v i) / 4294967296) (val p) hv2 hsb hdm
    have hsub := sub32 (dg x i) ((c + g * dg v i) % 4294967296) b hx1 htl hb
    obtain ⟨x', b', q1, q2, q3, q4, q5⟩ := ih (i + 1) hi3 (x.set i (((dg x i + 4294967296 - (c + g * dg v i) % 4294967296 - b) % 4294967296 : Nat) : Int)) ((c + g * dg v i) / 4294967296) (if dg x i < (c + g * dg v i) % 4294967296 + b then 1 else 0) hb2 h4 (W_set hw _ _ (Int.natCast_nonneg _) (cast_lt _ hxl)) (by rw [List.length_set]; exact hx)
      (fun j hj => by rw [dg_set _ _ _ _ hi4, if_neg (hcl j hj).1]; exact hz j (hcl j hj).2)
      (fun h => by rw [dg_over v i (by omega), Nat.mul_zero, Nat.add_zero]; exact Nat.div_eq_of_lt hc)
      (by
        have e9 : g * val (v.take (i + 1)) = g * val (v.take i) + 4294967296 ^ i * (g * dg v i) := by rw [(take_dg hv i).1, Nat.mul_add, Nat.mul_left_comm]
        rw [e9, pow_succ']
        rcases hst with h | h
        · clear e1 e2 e3 hsub
          generalize 4294967296 ^ i * ((dg x i + 4294967296 - (c + g * dg v i) % 4294967296 - b) % 4294967296) = A1 at *
          generalize 4294967296 ^ i * dg x i = A2 at *
          generalize 4294967296 ^ i * (g * dg v i) = A3 at *
          omega
        · exfalso
          clear e1 e2 e3 hsub
          generalize 4294967296 ^ i * ((dg x i + 4294967296 - (c + g * dg v i) % 4294967296 - b) % 4294967296) = A1 at *
          generalize 4294967296 ^ i * dg x i = A2 at *
          omega)
    refine ⟨x', b', q1, q2, q3, q4, Ev.step (fun k => ?_) q5⟩
    simp only [nat_less.l0]
    rcases Nat.lt_or_ge i v.length with h | h
    · rw [if_pos c1, if_pos (Int.ofNat_lt.mpr h), if_pos c2, if_pos c3, wsucc i hbi, rd_dg hv i, rd_dg hw i, e1, e2, e3, hsub]
      rfl
    · have h0 : c + g * dg v i = c := by rw [dg_over v i h]; rfl
      rw [h0] at e2 e3 hsub
      rw [if_pos c1, if_neg (fun hh => absurd (Int.ofNat_lt.mp hh) (Nat.not_lt.mpr h)), if_pos c2, if_pos c3, wsucc i hbi, rd_dg hw i, e2, e3, hsub, h0]
      rfl
theorem more_step (z X x' xi y c q P G : Nat) (h1 : X + z * c = P + G) (h2 : 4294967296 * q + x' = xi + y + c) :
    (X + z * x' - z * xi) + 4294967296 * z * q = P + (G + z * y) ∨ X + z * x' < z * xi := by
  rcases Nat.lt_or_ge (X + z * x') (z * xi) with h | h
  · exact Or.inr h
  · left
    have e2 : z * (4294967296 * q + x') = z * (xi + y + c) := by rw [h2]
    rw [Nat.mul_add, Nat.mul_add, Nat.mul_add] at e2
    have e4 : 4294967296 * z * q = z * (4294967296 * q) := by rw [Nat.mul_comm 4294967296 z, Nat.mul_assoc]
    rw [e4]
    omega
theorem more_l0 {p v : List Int} (hp : W p) (hv : W v) (hl : p.length < 17592186044416) (hvl : v.length < p.length) : ∀ (d i : Nat), i + d = p.length → ∀ (x : List Int) (c : Nat), c ≤ 1 → W x → x.length = p.length → (∀ j, i ≤ j → dg x j = dg p j) →
    val x + 4294967296 ^ i * c = val p + val (v.take i) →
    ∃ (x' : List Int) (c' : Nat), c' ≤ 1 ∧ W x' ∧ x'.length = p.length ∧ val x' + 4294967296 ^ p.length * c' = val p + val v ∧ Ev (fun k => nat_more.l0 k x v (c : Int) (p.length : Int) (i : Int)) x' := by
  intro d
  induction d with
  | zero =>
    intro i hi x c hc hw hx hz hv2
    obtain rfl : i = p.length := by omega
    rw [List.take_of_length_le (by omega)] at hv2
    refine ⟨x, c, hc, hw, hx, hv2, Ev.step (f := fun _ => some x) (fun k => ?_) (Ev.now _)⟩
    simp only [nat_more.l0]
    rw [if_neg (by omega)]
  | succ d ih =>
    intro i hi x c hc hw hx hz hv2
    have hx1 := dg_lt hw i
    have hy1 := dg_lt hv i
    have hi4 : i < x.length := by omega
    have c1 : (i : Int) < (p.length : Int) := by omega
    have c2 : (0 : Int) ≤ (i : Int) := by omega
    have c3 : (i : Int) < (x.length : Int) := by omega
    have hbi : i < 4611686018427387904 := by omega
    have hi3 : i + 1 + d = p.length := by omega
    have hcl : ∀ j, i + 1 ≤ j → i ≠ j ∧ i ≤ j := fun j h => by omega
    have hc2 : (dg x i + dg v i + c) / 4294967296 ≤ 1 := by omega
    have hxl : (dg x i + dg v i + c) % 4294967296 < 4294967296 := Nat.mod_lt _ (by decide)
    have hdm := Nat.div_add_mod (dg x i + dg v i + c) 4294967296
    have hvs := val_dset (l := x) i ((dg x i + dg v i + c) % 4294967296) hi4
    have hst := more_step (4294967296 ^ i) (val x) ((dg x i + dg v i + c) % 4294967296) (dg x i) (dg v i) c ((dg x i + dg v i + c) / 4294967296) (val p) (val (v.take i)) hv2 hdm
    have hadd := add32 (dg x i) (dg v i) c hx1 hy1 hc
    obtain ⟨x', c', q1, q2, q3, q4, q5⟩ := ih (i + 1) hi3 (x.set i (((dg x i + dg v i + c) % 4294967296 : Nat) : Int)) ((dg x i + dg v i + c) / 4294967296) hc2 (W_set hw _ _ (Int.natCast_nonneg _) (cast_lt _ hxl)) (by rw [List.length_set]; exact hx)
      (fun j hj => by rw [dg_set _ _ _ _ hi4, if_neg (hcl j hj).1]; exact hz j (hcl j hj).2)
      (by
        rw [(take_dg hv i).1, pow_succ']
        clear hadd
        rcases hst with h | h
        · generalize 4294967296 ^ i * ((dg x i + dg v i + c) % 4294967296) = A1 at *
          generalize 4294967296 ^ i * dg x i = A2 at *
          omega
        · exfalso
          generalize 4294967296 ^ i * ((dg x i + dg v i + c) % 4294967296) = A1 at *
          generalize 4294967296 ^ i * dg x i = A2 at *
          omega)
    refine ⟨x', c', q1, q2, q3, q4, Ev.step (fun k => ?_) q5⟩
    simp only [nat_more.l0]
    rcases Nat.lt_or_ge i v.length with h | h
    · rw [if_pos c1, if_pos (Int.ofNat_lt.mpr h), if_pos c2, if_pos c3, wsucc i hbi, rd_dg hv i, rd_dg hw i, hadd]
      rfl
    · rw [if_pos c1, if_neg (fun hh => absurd (Int.ofNat_lt.mp hh) (Nat.not_lt.mpr h)), if_pos c2, if_pos c3, wsucc i hbi, rd_dg hw i, show (0 : Int) = (dg v i : Int) by rw [dg_over v i h]; rfl, hadd]
      rfl
theorem lessN {p v : List Int} (hp : W p) (hv : W v) (g : Nat) (hg : g < 4294967296) (hl : p.length < 17592186044416) (hvl : v.length < p.length) :
    ∃ (x' : List Int) (b' : Nat), b' ≤ 1 ∧ W x' ∧ x'.length = p.length ∧ val x' + g * val v = val p + 4294967296 ^ p.length * b' ∧ Ev (fun k => nat_less.f k p v (g : Int)) (decide ((b' : Int) > 0), x') :=
  less_l0 hp hv g hg hl hvl p.length 0 (by omega) p 0 0 (by omega) (by omega) hp rfl (fun _ _ => rfl) (fun _ => rfl) (by simp [val])
theorem moreN {p v : List Int} (hp : W p) (hv : W v) (hl : p.length < 17592186044416) (hvl : v.length < p.length) :
    ∃ (x' : List Int) (c' : Nat), c' ≤ 1 ∧ W x' ∧ x'.length = p.length ∧ val x' + 4294967296 ^ p.length * c' = val p + val v ∧ Ev (fun k => nat_more.f k p v) x' :=
  more_l0 hp hv hl hvl p.length 0 (by omega) p 0 (by omega) hp rfl (fun _ _ => rfl) (by simp [val])
end Go.Proofs.Ytlmjbhhapllfgaa.V
