/- What the printed functions about numbers and bytes compute, told by values. -/
import Derived.Test.YtlmjbhhapllfgaaAx1
import Derived.Test.YtlmjbhhapllfgaaAx2
import Derived.Test.YtlmjbhhapllfgaaAx11
import Derived.Test.YtlmjbhhapllfgaaAx12
import Derived.Test.YtlmjbhhapllfgaaNatVal
namespace Go.Proofs.Ytlmjbhhapllfgaa.V
open Go.RowKit Go.Proofs.Ytlmjbhhapllfgaa.A Go.Proofs.YtlmjbhhapllfgaaW.PrintWords Go.Proofs.YtlmjbhhapllfgaaW.PrintLast
set_option linter.unusedVariables false
set_option linter.unusedSimpArgs false

theorem td4 (p : Nat) : Int.tdiv (p : Int) 4 = ((p / 4 : Nat) : Int) := rfl
theorem tm4 (p : Nat) : Int.tmod (p : Int) 4 = ((p % 4 : Nat) : Int) := rfl
theorem td2 (p : Nat) : Int.tdiv (p : Int) 2 = ((p / 2 : Nat) : Int) := rfl

/-! plain, Trim -/
theorem plain {l : List Int} (hw : W l) (hl : l.length < 4611686018427387904) : Ev (fun k => nat_plain.l0 k l) (nm (val l)) := by
  generalize hn : l.length = n
  induction n generalizing l with
  | zero =>
    obtain rfl := List.length_eq_zero_iff.mp hn
    exact Ev.step (f := fun _ => some []) (fun k => by simp [nat_plain.l0]) (by rw [val, nm_zero]; exact Ev.now _)
  | succ n ih =>
    have w : wrap64 ((l.length : Int) - 1) = (n : Int) := by rw [hn]; unfold wrap64; omega
    by_cases hx : rd l (n : Int) = 0
    · refine Ev.step (f := fun k => nat_plain.l0 k (l.take n)) (fun k => ?_) ?_
      · simp only [nat_plain.l0, w]
        rw [if_pos (by omega), if_pos (by omega), if_pos (by omega), if_pos hx, if_pos (by omega)]
        rfl
      · have e : val (l.take n) = val l := by
          rw [val_take hw]
          have h1 := rd_val hw n (by omega)
          have h2 := val_lt hw
          rw [hn, pow_succ'] at h2
          rw [hx] at h1
          have h3 : val l / 4294967296 ^ n < 4294967296 := (Nat.div_lt_iff_lt_mul (pow_pos' n)).mpr h2
          have h4 : val l / 4294967296 ^ n = 0 := by
            generalize val l / 4294967296 ^ n = z at h1 h3 ⊢
            omega
          exact Nat.mod_eq_of_lt ((Nat.div_eq_zero_iff_lt (pow_pos' n)).mp h4)
        have := ih (W_take hw n) (by rw [List.length_take]; omega) (by rw [List.length_take]; omega)
        rwa [e] at this
    · have c : Canon l := ⟨hw, fun _ => by rw [hn, show (((n + 1 : Nat) : Int) - 1) = (n : Int) by omega]; exact hx⟩
      refine Ev.step (f := fun _ => some l) (fun k => ?_) ?_
      · simp only [nat_plain.l0, w]
        rw [if_pos (by omega), if_pos (by omega), if_pos (by omega), if_neg hx]
      · rw [← canon_eq c]; exact Ev.now _
theorem trim_eq (k : Nat) (l : List Int) : apostilleref7_Trim.l0 k l = nat_plain.l0 k l := by
  induction k generalizing l with
  | zero => simp only [apostilleref7_Trim.l0, nat_plain.l0]
  | succ k ih => simp only [apostilleref7_Trim.l0, nat_plain.l0, ih]
theorem plainf {l : List Int} (hw : W l) (hl : l.length < 4611686018427387904) : Ev (fun k => nat_plain.f k l) (nm (val l)) := plain hw hl
theorem trimf {l : List Int} (hw : W l) (hl : l.length < 4611686018427387904) : Ev (fun k => apostilleref7_Trim.f k l) (nm (val l)) :=
  Ev.congr (fun k => trim_eq k l) (plain hw hl)

/-! Bits -/
def bl (n : Nat) : Nat := if n = 0 then 0 else bl (n / 2) + 1
termination_by n
decreasing_by omega
theorem bl_zero : bl 0 = 0 := by rw [bl]; simp
theorem bl_pos {n : Nat} (h : n ≠ 0) : bl n = bl (n / 2) + 1 := by rw [bl]; simp [h]
theorem bl_le (n k : Nat) : bl n ≤ k ↔ n < 2 ^ k := by
  induction k generalizing n with
  | zero =>
    by_cases h : n = 0
    · subst h; simp [bl_zero]
    · rw [bl_pos h]; simp; omega
  | succ k ih =>
    by_cases h : n = 0
    · subst h; simp [bl_zero]; exact Nat.pow_pos (by omega)
    · rw [bl_pos h, Nat.pow_succ]
      have := ih (n / 2)
      omega
theorem bl_mul (a b k : Nat) (ha : a ≠ 0) (hb : b < 2 ^ k) : bl (2 ^ k * a + b) = k + bl a := by
  induction k generalizing b with
  | zero =>
    have : b = 0 := by simpa using hb
    subst this
    simp
  | succ k ih =>
    rw [Nat.pow_succ] at hb ⊢
    have hp : 0 < 2 ^ k := Nat.pow_pos (by omega)
    have h1 : 0 < 2 ^ k * a := Nat.mul_pos hp (by omega)
    have e : 2 ^ k * 2 * a = 2 * (2 ^ k * a) := by rw [Nat.mul_comm (2 ^ k) 2, Nat.mul_assoc]
    rw [e, bl_pos (by omega), show (2 * (2 ^ k * a) + b) / 2 = 2 ^ k * a + b / 2 by omega, ih (b / 2) (by omega)]
    omega
theorem bitLen_bl (n : Nat) (h : n < 2 ^ 64) : Lib.bitLen n = bl n := by
  induction n using Nat.strongRecOn with
  | _ n ih =>
    by_cases h0 : n = 0
    · subst h0; rw [bl_zero]; rfl
    · rw [Lib.bitLen_half n h0 h, ih (n / 2) (by omega) (by omega), bl_pos h0]; omega
theorem pow32 (k : Nat) : (4294967296 : Nat) ^ k = 2 ^ (32 * k) := by rw [show (4294967296 : Nat) = 2 ^ 32 from rfl, ← Nat.pow_mul]
theorem pow8 (k : Nat) : (256 : Nat) ^ k = 2 ^ (8 * k) := by rw [show (256 : Nat) = 2 ^ 8 from rfl, ← Nat.pow_mul]
theorem p256_le (n k : Nat) (h : n ≤ 4 * k) : 256 ^ n ≤ 4294967296 ^ k := by rw [pow32, pow8]; exact Nat.pow_le_pow_right (by omega) (by omega)
theorem canon_bl {l : List Int} (h : Canon l) (n : Nat) (hn : l.length = n + 1) : bl (val l) = 32 * n + bl (rd l (n : Int)).toNat ∧ (rd l (n : Int)) ≠ 0 := by
  have h0 : rd l (n : Int) ≠ 0 := by
    have := h.2 (by omega)
    rwa [hn, show (((n + 1 : Nat) : Int) - 1) = (n : Int) by omega] at this
  refine ⟨?_, h0⟩
  have hr := rd_W h.1 (n : Int) (by omega) (by omega)
  have e := rd_val h.1 n (by omega)
  have h3 : val l / 4294967296 ^ n < 4294967296 := by
    have h2 := val_lt h.1
    rw [hn, pow_succ'] at h2
    exact (Nat.div_lt_iff_lt_mul (pow_pos' n)).mpr h2
  rw [Nat.mod_eq_of_lt h3] at e
  have h4 := Nat.div_add_mod (val l) (4294967296 ^ n)
  have h5 := Nat.mod_lt (val l) (pow_pos' n)
  rw [pow32] at *
  rw [← h4, bl_mul _ _ _ (by omega) h5, show (rd l (n : Int)).toNat = val l / 2 ^ (32 * n) by omega]
theorem bitsN {V : Nat} (hl : (nm V).length < 140737488355328) : nat_Bits.f (nm V) = some (bl V : Int) := by
  unfold nat_Bits.f
  by_cases h : (nm V).length = 0
  · have h0 : V = 0 := by
      have := val_nm V
      rw [List.length_eq_zero_iff.mp h] at this
      exact this.symm
    rw [if_pos (by omega), h0, bl_zero]; rfl
  · obtain ⟨n, hn⟩ : ∃ n, (nm V).length = n + 1 := ⟨(nm V).length - 1, by omega⟩
    obtain ⟨e, h0⟩ := canon_bl (nm_canon V) n hn
    have hr := rd_W (nm_W V) (n : Int) (by omega) (by omega)
    rw [val_nm] at e
    have w : wrap64 (((nm V).length : Int) - 1) = (n : Int) := by unfold wrap64; omega
    rw [if_neg (by omega), w, if_pos (by omega), if_pos (by omega)]
    unfold bits_Len32.f
    rw [if_pos (by omega), Option.bind_some, bitLen_bl _ (by omega)]
    have hb : bl (rd (nm V) (n : Int)).toNat ≤ 32 := (bl_le _ _).mpr (by omega)
    rw [w64 (32 * (n : Int)) (by omega) (by omega), w64 _ (by omega) (by omega), e]
    rfl
theorem refbits_l1 {l : List Int} {x4 : Int} {r : Int} (n : Nat) (hn : n < 4294967296) : ∀ (x3 : Int), 0 ≤ x3 → x3 + bl n < 9223372036854775807 →
    Ev (fun k => if x4 < (wrap64 ((l.length : Int) - 1)) then (apostilleref7_Bits.l0 k l (wrap64 (32 * (wrap64 (x4 + 1)))) (wrap64 (x4 + 1))) else (apostilleref7_Bits.l0 k l (x3 + bl n) (wrap64 (x4 + 1)))) r →
    Ev (fun k => apostilleref7_Bits.l1 k l x3 x4 (n : Int)) r := by
  induction n using Nat.strongRecOn with
  | _ n ih =>
    intro x3 h0 h1 H
    by_cases hz : n = 0
    · subst hz
      refine Ev.step (fun k => ?_) H
      simp only [apostilleref7_Bits.l1]
      rw [if_neg (by omega), bl_zero]
      simp
    · have e := bl_pos hz
      refine Ev.step (f := fun k => apostilleref7_Bits.l1 k l (x3 + 1) x4 ((n / 2 : Nat) : Int)) (fun k => ?_) (ih (n / 2) (by omega) (by omega) (x3 + 1) (by omega) (by omega) ?_)
      · simp only [apostilleref7_Bits.l1]
        rw [if_pos (by omega), td2, w64 _ (by omega) (by omega)]
        congr 1
        omega
      · rwa [e, show x3 + ((bl (n / 2) + 1 : Nat) : Int) = x3 + 1 + (bl (n / 2) : Int) by omega] at H
theorem refbits_l0 {l : List Int} (h : W l) (n : Nat) (hn : l.length = n + 1) (hl : n < 140737488355328) : ∀ (d i : Nat), i + d = n → Ev (fun k => apostilleref7_Bits.l0 k l (32 * (i : Int)) (i : Int)) (32 * (n : Int) + bl (rd l (n : Int)).toNat) := by
  intro d
  induction d with
  | zero =>
    intro i hi
    obtain rfl : i = n := by omega
    have hr := rd_W h (i : Int) (by omega) (by omega)
    have hb : bl (rd l (i : Int)).toNat ≤ 32 := (bl_le _ _).mpr (by omega)
    refine Ev.step (f := fun k => apostilleref7_Bits.l1 k l (32 * (i : Int)) (i : Int) (((rd l (i : Int)).toNat : Nat) : Int)) (fun k => ?_) (refbits_l1 _ (by omega) _ (by omega) (by omega) ?_)
    · simp only [apostilleref7_Bits.l0]
      rw [if_pos (by omega), if_pos (by omega), Int.toNat_of_nonneg hr.1]
    · rw [w64 ((l.length : Int) - 1) (by omega) (by omega), w64 ((i : Int) + 1) (by omega) (by omega)]
      refine Ev.congr (f := fun k => apostilleref7_Bits.l0 k l (32 * (i : Int) + bl (rd l (i : Int)).toNat) ((i : Int) + 1)) (fun k => by rw [if_neg (by omega)]) ?_
      refine Ev.step (f := fun _ => some (32 * (i : Int) + bl (rd l (i : Int)).toNat)) (fun k => ?_) (Ev.now _)
      simp only [apostilleref7_Bits.l0]
      rw [if_neg (by omega)]
  | succ d ih =>
    intro i hi
    have hr := rd_W h (i : Int) (by omega) (by omega)
    have hb : bl (rd l (i : Int)).toNat ≤ 32 := (bl_le _ _).mpr (by omega)
    refine Ev.step (f := fun k => apostilleref7_Bits.l1 k l (32 * (i : Int)) (i : Int) (((rd l (i : Int)).toNat : Nat) : Int)) (fun k => ?_) (refbits_l1 _ (by omega) _ (by omega) (by omega) ?_)
    · simp only [apostilleref7_Bits.l0]
      rw [if_pos (by omega), if_pos (by omega), Int.toNat_of_nonneg hr.1]
    · rw [w64 ((l.length : Int) - 1) (by omega) (by omega), w64 ((i : Int) + 1) (by omega) (by omega), w64 (32 * ((i : Int) + 1)) (by omega) (by omega)]
      refine Ev.congr (f := fun k => apostilleref7_Bits.l0 k l (32 * ((i + 1 : Nat) : Int)) ((i + 1 : Nat) : Int)) (fun k => by rw [if_pos (by omega)]; rfl) (ih (i + 1) (by omega))
theorem refbits {V : Nat} (hl : (nm V).length < 140737488355328) : Ev (fun k => apostilleref7_Bits.f k (nm V)) (bl V : Int) := by
  unfold apostilleref7_Bits.f
  by_cases h : (nm V).length = 0
  · have h0 : V = 0 := by
      have := val_nm V
      rw [List.length_eq_zero_iff.mp h] at this
      exact this.symm
    refine Ev.step (f := fun _ => some 0) (fun k => ?_) (by rw [h0, bl_zero]; exact Ev.now _)
    simp only [apostilleref7_Bits.l0]
    rw [if_neg (by omega)]
  · obtain ⟨n, hn⟩ : ∃ n, (nm V).length = n + 1 := ⟨(nm V).length - 1, by omega⟩
    obtain ⟨e, h0⟩ := canon_bl (nm_canon V) n hn
    rw [val_nm] at e
    have := refbits_l0 (nm_W V) n hn (by omega) n 0 (by omega)
    rw [e]
    exact this

/-! Of -/
theorem of_step {x3 : List Int} (hw : W x3) (V b p : Nat) (hb : b < 256) (hV : val x3 = V * 256 ^ (p + 1)) (hq : p / 4 < x3.length) :
    W (x3.set (p / 4) (Go.bits .or .u32 (rd x3 ((p / 4 : Nat) : Int)) (shl .u32 ((b : Int) % 4294967296) ((8 * (p % 4) : Nat) : Int)))) ∧
    val (x3.set (p / 4) (Go.bits .or .u32 (rd x3 ((p / 4 : Nat) : Int)) (shl .u32 ((b : Int) % 4294967296) ((8 * (p % 4) : Nat) : Int)))) = (V * 256 + b) * 256 ^ p := by
  have er := rd_val hw (p / 4) hq
  have e256 : 256 ^ p = 4294967296 ^ (p / 4) * 256 ^ (p % 4) := by
    rw [show (4294967296 : Nat) = 256 ^ 4 from rfl, ← Nat.pow_mul, ← Nat.pow_add, Nat.div_add_mod]
  have hV' : val x3 = 4294967296 ^ (p / 4) * (V * 256 * 256 ^ (p % 4)) := by
    rw [hV, Nat.pow_succ, e256]
    generalize 4294967296 ^ (p / 4) = a
    generalize 256 ^ (p % 4) = c
    rw [Nat.mul_comm (a * c) 256, ← Nat.mul_assoc V 256, ← Nat.mul_assoc, Nat.mul_comm (V * 256) a, Nat.mul_assoc]
  rw [hV', Nat.mul_div_cancel_left _ (pow_pos' _)] at er
  have es : shl .u32 ((b : Int) % 4294967296) ((8 * (p % 4) : Nat) : Int) = ((b * 256 ^ (p % 4) : Nat) : Int) := by
    have hr : p % 4 = 0 ∨ p % 4 = 1 ∨ p % 4 = 2 ∨ p % 4 = 3 := by omega
    unfold shl
    rw [wu32]
    rcases hr with h | h | h | h <;> rw [h] <;> simp [IntKind.bits] <;> omega
  have hx : (rd x3 ((p / 4 : Nat) : Int)) % ((256 ^ (p % 4 + 1) : Nat) : Int) = 0 ∧ rd x3 ((p / 4 : Nat) : Int) + ((256 ^ (p % 4 + 1) : Nat) : Int) ≤ 4294967296 ∧ b * 256 ^ (p % 4) < 256 ^ (p % 4 + 1) ∧ (256 ^ (p % 4 + 1) : Nat) ≤ 4294967296 := by
    rw [er]
    have hr : p % 4 = 0 ∨ p % 4 = 1 ∨ p % 4 = 2 ∨ p % 4 = 3 := by omega
    rcases hr with h | h | h | h <;> rw [h] <;> simp <;> omega
  obtain ⟨h1, h2, h3, h4⟩ := hx
  have h0 : 0 ≤ rd x3 ((p / 4 : Nat) : Int) := by omega
  have ev : Go.bits .or .u32 (rd x3 ((p / 4 : Nat) : Int)) (shl .u32 ((b : Int) % 4294967296) ((8 * (p % 4) : Nat) : Int)) = rd x3 ((p / 4 : Nat) : Int) + ((b * 256 ^ (p % 4) : Nat) : Int) := by
    rw [es]
    have e2 : (2 : Int) ^ (8 * (p % 4 + 1)) = ((256 ^ (p % 4 + 1) : Nat) : Int) := by rw [pow8]; simp
    refine u32_join _ _ (8 * (p % 4 + 1)) h0 ?_ ?_ (by omega) ?_ ?_
    · rw [e2]; exact h1
    · omega
    · rw [e2]; omega
    · omega
  rw [ev]
  refine ⟨W_set hw _ _ (by omega) (by omega), ?_⟩
  have hs := val_set x3 (p / 4) (rd x3 ((p / 4 : Nat) : Int) + ((b * 256 ^ (p % 4) : Nat) : Int)) hq
  rw [show (rd x3 ((p / 4 : Nat) : Int) + ((b * 256 ^ (p % 4) : Nat) : Int)).toNat = (rd x3 ((p / 4 : Nat) : Int)).toNat + b * 256 ^ (p % 4) by omega, Nat.mul_add] at hs
  have hs2 : val (x3.set (p / 4) (rd x3 ((p / 4 : Nat) : Int) + ((b * 256 ^ (p % 4) : Nat) : Int))) = val x3 + 4294967296 ^ (p / 4) * (b * 256 ^ (p % 4)) := by omega
  rw [hs2, hV, Nat.pow_succ, Nat.add_mul, e256]
  congr 1
  · generalize 4294967296 ^ (p / 4) * 256 ^ (p % 4) = a
    rw [Nat.mul_comm a 256, Nat.mul_assoc]
  · generalize 256 ^ (p % 4) = c
    rw [← Nat.mul_assoc, Nat.mul_comm _ b, Nat.mul_assoc]
theorem of_ar (n i p m : Nat) (hp : p + 1 + i = n) (hn : n ≤ 1024) (hm : m = (n + 3) / 4) :
    wrap64 ((n : Int) - 1) = (n : Int) - 1 ∧ wrap64 ((n : Int) - 1 - (i : Int)) = (p : Int) ∧ wrap64 ((p / 4 : Nat) : Int) = ((p / 4 : Nat) : Int) ∧
    wrap64 (((p % 4 : Nat) : Int) * 8) = ((8 * (p % 4) : Nat) : Int) ∧ IntKind.u64.wrap (wrap64 (8 * ((p % 4 : Nat) : Int))) = ((8 * (p % 4) : Nat) : Int) ∧ wrap64 ((i : Int) + 1) = ((i + 1 : Nat) : Int) ∧
    (i : Int) < (n : Int) ∧ (0 : Int) ≤ ((p / 4 : Nat) : Int) ∧ ((p / 4 : Nat) : Int) < (m : Int) ∧ (0 : Int) ≤ ((8 * (p % 4) : Nat) : Int) ∧ (0 : Int) ≤ (i : Int) ∧ p / 4 < m := by
  refine ⟨?_, ?_, ?_, ?_, ?_, ?_, ?_, ?_, ?_, ?_, ?_, ?_⟩
  · rw [w64 _ (by omega) (by omega)]
  · rw [w64 _ (by omega) (by omega)]; omega
  · rw [w64 _ (by omega) (by omega)]
  · rw [w64 _ (by omega) (by omega)]; omega
  · rw [w64 _ (by omega) (by omega), wu64]; omega
  · rw [w64 _ (by omega) (by omega)]; omega
  all_goals omega
theorem of_l0 {b : List Int} (hb : B8 b) (hl : b.length ≤ 1024) : ∀ (d i : Nat), i + d = b.length → ∀ x3 : List Int, W x3 → x3.length = (b.length + 3) / 4 → val x3 = be (b.take i) * 256 ^ (b.length - i) →
    Ev (fun k => nat_Of.l0 k b x3 b (b.length : Int) (i : Int)) (nm (be b)) := by
  intro d
  induction d with
  | zero =>
    intro i hi x3 hw hlen hv
    refine Ev.step (f := fun k => (nat_plain.f k x3).bind fun t => some t) (fun k => ?_) ?_
    · simp only [nat_Of.l0]
      rw [if_neg (by omega)]
    · obtain rfl : i = b.length := by omega
      rw [List.take_of_length_le (Nat.le_refl _), Nat.sub_self, Nat.pow_zero, Nat.mul_one] at hv
      rw [← hv]
      exact Ev.bind (f := fun _ t => some t) (plainf hw (by omega)) (Ev.now _)
  | succ d ih =>
    intro i hi x3 hw hlen
    obtain ⟨p, hp⟩ : ∃ p, p + 1 + i = b.length := ⟨d, by omega⟩
    obtain ⟨w1, w2, w3, w4, w4', w5, hc1, hc2, hc3, hc4, hc5, hq⟩ := of_ar b.length i p x3.length hp hl hlen
    have hi2 : i < b.length := by omega
    have hr := hb _ (rd_mem (l := b) i hi2)
    have hr2 : (rd b (i : Int)).toNat < 256 := by omega
    have hi3 : i + 1 + d = b.length := by omega
    have e : ((rd b (i : Int)) % 4294967296) = (((rd b (i : Int)).toNat : Nat) : Int) % 4294967296 := by rw [Int.toNat_of_nonneg hr.1]
    have hp1 : b.length - i = p + 1 := by omega
    have hp2 : b.length - (i + 1) = p := by omega
    intro hv
    rw [hp1] at hv
    obtain ⟨s1, s2⟩ := of_step hw (be (b.take i)) (rd b (i : Int)).toNat p hr2 hv hq
    refine Ev.step (fun k => ?_) (ih (i + 1) hi3 _ s1 (by rw [List.length_set]; exact hlen) ?_)
    · simp only [nat_Of.l0, w1, w2, td4, tm4, w3, w4, w5, e]
      rw [if_pos hc1, if_pos hc5, if_pos hc1, if_pos hc2, if_pos hc3, if_pos hc4]
      rfl
    · rw [s2, be_take b i hi2, hp2]
theorem ofN {b : List Int} (hb : B8 b) : Ev (fun k => nat_Of.f k b) (if b.length > 1024 then [] else nm (be b)) := by
  unfold nat_Of.f
  by_cases h : b.length > 1024
  · rw [if_pos h]
    exact Ev.congr (f := fun _ => some []) (fun k => by rw [if_pos (by omega)]) (Ev.now _)
  · rw [if_neg h]
    have w1 : wrap64 ((b.length : Int) + 4) = (b.length : Int) + 4 := w64 _ (by omega) (by omega)
    have w2 : wrap64 ((b.length : Int) + 4 - 1) = ((b.length + 3 : Nat) : Int) := by rw [w64 _ (by omega) (by omega)]; omega
    have w3 : wrap64 (((b.length + 3) / 4 : Nat) : Int) = (((b.length + 3) / 4 : Nat) : Int) := w64 _ (by omega) (by omega)
    refine Ev.congr (f := fun k => nat_Of.l0 k b (List.replicate ((b.length + 3) / 4) 0) b (b.length : Int) ((0 : Nat) : Int)) (fun k => ?_) (of_l0 hb (by omega) b.length 0 (by omega) _ (W_replicate _) (by simp) (by rw [val_replicate]; simp [be]))
    simp only [w1, w2, td4, w3]
    rw [if_neg (by omega), if_pos (by omega), if_pos (by omega)]
    rfl
theorem refof_l0 {b : List Int} (hb : B8 b) (hl : b.length ≤ 1024) : ∀ (d i : Nat), i + d = b.length → ∀ x3 : List Int, W x3 → x3.length = (b.length + 3) / 4 → val x3 = be (b.take i) * 256 ^ (b.length - i) →
    Ev (fun k => apostilleref7_Of.l0 k b x3 (i : Int)) (nm (be b)) := by
  intro d
  induction d with
  | zero =>
    intro i hi x3 hw hlen hv
    refine Ev.step (f := fun k => (apostilleref7_Trim.f k x3).bind fun t => some t) (fun k => ?_) ?_
    · simp only [apostilleref7_Of.l0]
      rw [if_neg (by omega)]
    · obtain rfl : i = b.length := by omega
      rw [List.take_of_length_le (Nat.le_refl _), Nat.sub_self, Nat.pow_zero, Nat.mul_one] at hv
      rw [← hv]
      exact Ev.bind (f := fun _ t => some t) (trimf hw (by omega)) (Ev.now _)
  | succ d ih =>
    intro i hi x3 hw hlen
    obtain ⟨p, hp⟩ : ∃ p, p + 1 + i = b.length := ⟨d, by omega⟩
    obtain ⟨w1, w2, w3, w4', w4, w5, hc1, hc2, hc3, hc4, hc5, hq⟩ := of_ar b.length i p x3.length hp hl hlen
    have hi2 : i < b.length := by omega
    have hr := hb _ (rd_mem (l := b) i hi2)
    have hr2 : (rd b (i : Int)).toNat < 256 := by omega
    have hi3 : i + 1 + d = b.length := by omega
    have e : ((rd b (i : Int)) % 4294967296) = (((rd b (i : Int)).toNat : Nat) : Int) % 4294967296 := by rw [Int.toNat_of_nonneg hr.1]
    have hp1 : b.length - i = p + 1 := by omega
    have hp2 : b.length - (i + 1) = p := by omega
    intro hv
    rw [hp1] at hv
    obtain ⟨s1, s2⟩ := of_step hw (be (b.take i)) (rd b (i : Int)).toNat p hr2 hv hq
    refine Ev.step (fun k => ?_) (ih (i + 1) hi3 _ s1 (by rw [List.length_set]; exact hlen) ?_)
    · simp only [apostilleref7_Of.l0, w1, w2, td4, tm4, w3, w4, w5, e]
      rw [if_pos hc1, if_pos hc2, if_pos hc3, if_pos hc5, if_pos hc4]
      rfl
    · rw [s2, be_take b i hi2, hp2]
theorem refofN {b : List Int} (hb : B8 b) : Ev (fun k => apostilleref7_Of.f k b) (if b.length > 1024 then [] else nm (be b)) := by
  unfold apostilleref7_Of.f
  by_cases h : b.length > 1024
  · rw [if_pos h]
    exact Ev.congr (f := fun _ => some []) (fun k => by rw [if_pos (by omega)]) (Ev.now _)
  · rw [if_neg h]
    have w2 : wrap64 ((b.length : Int) + 3) = ((b.length + 3 : Nat) : Int) := by rw [w64 _ (by omega) (by omega)]; omega
    have w3 : wrap64 (((b.length + 3) / 4 : Nat) : Int) = (((b.length + 3) / 4 : Nat) : Int) := w64 _ (by omega) (by omega)
    refine Ev.congr (f := fun k => apostilleref7_Of.l0 k b (List.replicate ((b.length + 3) / 4) 0) ((0 : Nat) : Int)) (fun k => ?_) (refof_l0 hb (by omega) b.length 0 (by omega) _ (W_replicate _) (by simp) (by rw [val_replicate]; simp [be]))
    simp only [w2, td4, w3]
    rw [if_neg (by omega), if_pos (by omega), if_pos (by omega)]
    rfl
end Go.Proofs.Ytlmjbhhapllfgaa.V
